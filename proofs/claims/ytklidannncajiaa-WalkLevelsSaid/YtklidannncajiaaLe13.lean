/- What the row of the law WalkLevels leans on: contracts of functions and plain laws, each for all inputs that its own theorem names. -/
import Derived.Test.YtklidannncajiaaLe11
import Derived.Test.YtklidannncajiaaLe0
import Derived.Test.YtklidannncajiaaLe12
import Derived.Outline
namespace Go.Proofs.Ytklidannncajiaa.OW
open Go.RowKit Go.Proofs.YtklidannncajiaaW.PrintWords Go.Proofs.YtklidannncajiaaW.PrintLast Go.Proofs.YtklidannncajiaaW.PrintMore
set_option linter.unusedVariables false
set_option linter.unusedSimpArgs false

/-- Is a text in a list? -/
def hasT (l : List ByteArray) (t : ByteArray) : Bool := l.any fun x => Lib.compareBytes x.data.toList t.data.toList == 0
theorem hasT_iff {l : List ByteArray} {t : ByteArray} : hasT l t = true ↔ t ∈ l := by
  unfold hasT
  rw [List.any_eq_true]
  constructor
  · rintro ⟨x, hx, h⟩
    have h : Lib.compareBytes x.data.toList t.data.toList = 0 := by simpa using h
    rw [← bytes_ext (cmp_eq h)]
    exact hx
  · intro h
    exact ⟨t, h, by simp [cmp_self]⟩
set_option maxHeartbeats 4000000 in
set_option maxRecDepth 100000 in
theorem find_calls (A : Option Addr) (c : Nat) (l : List ByteArray) (t : ByteArray) (w : World) (hs : l.Pairwise ltB) (hl : l.length ≤ 1000) (hr : Kd.C Kd.string w A l.length l) (hc : l.length ≤ c) :
    Calls Try.prog 66 #[.slice A l.length c, .string t, .func (.func 44) #[] #[]] w fun e w' => (∃ i : Int, e = .returned (.tuple #[.int .i64 i, .bool (hasT l t)])) ∧ Drawn0 w w' := by
  have HR := Aside0.mk hr
  have HC := Aside0.mk hc
  have HS := Aside0.mk hs
  clear hr hc hs
  go_enter Try.func66, Try.ntmps66
  go_wp2_with fail
  go_loopg [9, 10] l.length (fun kq v9 v10 W => ∃ (i j : Nat), v9 = .int .i64 i ∧ v10 = .int .i64 j ∧ Aside0 (j ≤ i + kq ∧ i ≤ j ∧ j ≤ l.length) ∧ Aside0 (∀ x, (hx : x < l.length) → x < i → ltB l[x] t) ∧ Aside0 (∀ x, (hx : x < l.length) → j ≤ x → ¬ ltB l[x] t) ∧ Drawn0 w W)
  case atStart => exact ⟨0, l.length, rfl, rfl, ⟨by omega⟩, ⟨fun x _ h => absurd h (by omega)⟩, ⟨fun x hx h => absurd hx (by omega)⟩, Drawn0.refl _⟩
  case round =>
    obtain ⟨i, j, rfl, rfl, HI, HL, HG, HD⟩ := hrel
    obtain ⟨hm, hij, hjl⟩ := HI.out
    obtain ⟨m1, rfl⟩ := HD
    by_cases hlt : i < j
    · have hlt2 : decide ((i : Int) < (j : Int)) = true := decide_eq_true (by omega)
      cases gk with
      | zero => omega
      | succ ko =>
        go_upto_region 5 with fail
        obtain ⟨h, hh⟩ : ∃ h : Nat, ((i : Int) + (j : Int)) / 2 = (h : Int) := ⟨(i + j) / 2, by omega⟩
        have hih : i ≤ h := by omega
        have hhj : h < j := by omega
        rw [hh]
        have hhl : h < l.length := by omega
        have hh0 : (0 : Int) ≤ (h : Int) := by omega
        have hh1 : (h : Int) < (l.length : Int) := by omega
        obtain ⟨ad, e101, hx⟩ := Kd.at_string HR.out (h : Int) (by omega) (by omega)
        cases e101
        rw [Int.toNat_natCast, rdOf_nat _ _ _ hhl] at hx
        obtain ⟨y, hy⟩ : ∃ y, l[h]'hhl = y := ⟨_, rfl⟩
        rw [hy] at hx
        obtain ⟨r, hr⟩ : ∃ r, Lib.compareBytes y.data.toList t.data.toList = r := ⟨_, rfl⟩
        have HCM := Aside0.mk (show text_Compare.f y t = some r by rw [compare_eq, hr])
        by_cases hneg : r < 0
        · have hneg2 : decide (r < 0) = true := decide_eq_true hneg
          have HN := Aside0.mk (show ltB (l[h]'hhl) t by rw [hy]; unfold ltB; rw [hr]; exact hneg)
          clear hneg
          go_wp2_with ((with_reducible refine gate_value (t := 24) rfl ?_); (try (refine gate_guard (by rfl) ?_; dsimp only)); refine goesV_ (some 30) rfl rfl Try.func44 (by kernel_rfl) rfl #[.string y, .string t] rfl rfl (by (try simp only [List.map_toArray, List.map_cons, List.map_nil]); first | done | rfl) ?_; (with_reducible refine (text_Compare.calls y t r _ HCM.out).mono ?_); rintro e w2 ⟨rfl, ⟨m2, rfl⟩⟩; refine ⟨_, rfl, ?_⟩)
          go_roundg ko
          case measure => omega
          case rel => exact ⟨h + 1, j, by go_num, rfl, ⟨by omega⟩, ⟨fun x hx hxh => by
              rcases Nat.lt_or_ge x h with h1 | h1
              · exact ((List.pairwise_iff_getElem.1 HS.out) x h hx hhl h1).trans HN.out
              · obtain rfl : x = h := by omega
                exact HN.out⟩, HG, by repeat (first | exact Drawn0.refl _ | apply Drawn0.step)⟩
        · have hneg2 : decide (r < 0) = false := decide_eq_false hneg
          have HN := Aside0.mk (show ¬ ltB (l[h]'hhl) t by rw [hy]; unfold ltB; rw [hr]; exact hneg)
          clear hneg
          go_wp2_with ((with_reducible refine gate_value (t := 24) rfl ?_); (try (refine gate_guard (by rfl) ?_; dsimp only)); refine goesV_ (some 30) rfl rfl Try.func44 (by kernel_rfl) rfl #[.string y, .string t] rfl rfl (by (try simp only [List.map_toArray, List.map_cons, List.map_nil]); first | done | rfl) ?_; (with_reducible refine (text_Compare.calls y t r _ HCM.out).mono ?_); rintro e w2 ⟨rfl, ⟨m2, rfl⟩⟩; refine ⟨_, rfl, ?_⟩)
          go_roundg ko
          case measure => omega
          case rel => exact ⟨i, h, rfl, rfl, ⟨by omega⟩, HL, ⟨fun x hx hxh => by
              rcases Nat.lt_or_ge h x with h1 | h1
              · exact fun h2 => HN.out (((List.pairwise_iff_getElem.1 HS.out) h x hhl hx h1).trans h2)
              · obtain rfl : x = h := by omega
                exact HN.out⟩, by repeat (first | exact Drawn0.refl _ | apply Drawn0.step)⟩
    · have hlt2 : decide ((i : Int) < (j : Int)) = false := decide_eq_false (by omega)
      obtain rfl : i = j := by omega
      by_cases hil : i < l.length
      · have hil2 : decide ((i : Int) < (l.length : Int)) = true := decide_eq_true (by omega)
        have hh0 : (0 : Int) ≤ (i : Int) := by omega
        have hh1 : (i : Int) < (l.length : Int) := by omega
        obtain ⟨ad, e101, hx⟩ := Kd.at_string HR.out (i : Int) (by omega) (by omega)
        cases e101
        rw [Int.toNat_natCast, rdOf_nat _ _ _ hil] at hx
        obtain ⟨y, hy⟩ : ∃ y, l[i]'hil = y := ⟨_, rfl⟩
        rw [hy] at hx
        obtain ⟨r, hr⟩ : ∃ r, Lib.compareBytes y.data.toList t.data.toList = r := ⟨_, rfl⟩
        have HCM := Aside0.mk (show text_Compare.f y t = some r by rw [compare_eq, hr])
        have HT := Aside0.mk (show hasT l t = (r == 0) by
          rw [Bool.eq_iff_iff, hasT_iff]
          constructor
          · intro hm
            obtain ⟨x, hx, e⟩ := List.getElem_of_mem hm
            have h1 : ¬ x < i := fun h => by have := HL.out x hx h; rw [e] at this; exact ltB.irrefl _ this
            rcases Nat.lt_or_ge i x with h2 | h2
            · have h3 := (List.pairwise_iff_getElem.1 HS.out) i x hil hx h2
              rw [e] at h3
              exact absurd h3 (HG.out i hil (Nat.le_refl _))
            · obtain rfl : x = i := by omega
              rw [← hr, ← hy, e, cmp_self]
              rfl
          · intro h
            have h : r = 0 := by simpa using h
            rw [h] at hr
            have := bytes_ext (cmp_eq hr)
            rw [← this, ← hy]
            exact List.getElem_mem hil)
        go_wp2_with ((with_reducible refine gate_value (t := 40) rfl ?_); (try (refine gate_guard (by rfl) ?_; dsimp only)); refine goesV_ (some 46) rfl rfl Try.func44 (by kernel_rfl) rfl #[.string y, .string t] rfl rfl (by (try simp only [List.map_toArray, List.map_cons, List.map_nil]); first | done | rfl) ?_; (with_reducible refine (text_Compare.calls y t r _ HCM.out).mono ?_); rintro e w2 ⟨rfl, ⟨m2, rfl⟩⟩; refine ⟨_, rfl, ?_⟩)
        go_ret2
        exact ⟨⟨(i : Int), by rw [HT.out]; rfl⟩, by repeat (first | exact Drawn0.refl _ | apply Drawn0.step)⟩
      · have hil2 : decide ((i : Int) < (l.length : Int)) = false := decide_eq_false (by omega)
        have HT := Aside0.mk (show hasT l t = false by
          rw [Bool.eq_false_iff]
          intro h
          obtain ⟨x, hx, e⟩ := List.getElem_of_mem (hasT_iff.1 h)
          have := HL.out x hx (by omega)
          rw [e] at this
          exact ltB.irrefl _ this)
        go_wp2_with fail
        go_ret2
        exact ⟨⟨(i : Int), by rw [HT.out]; rfl⟩, by repeat (first | exact Drawn0.refl _ | apply Drawn0.step)⟩
set_option maxHeartbeats 4000000 in
set_option maxRecDepth 100000 in
theorem at_calls (A : Option Addr) (c : Nat) (l : List ByteArray) (t : ByteArray) (w : World) (hs : l.Pairwise ltB) (hl : l.length ≤ 1000) (hr : Kd.C Kd.string w A l.length l) (hc : l.length ≤ c) :
    Calls Try.prog 45 #[.slice A l.length c, .string t] w fun e w' => (∃ i : Int, e = .returned (.tuple #[.int .i64 i, .bool (hasT l t)])) ∧ Drawn0 w w' := by
  have HR := Aside0.mk hr
  have HC := Aside0.mk hc
  have HS := Aside0.mk hs
  clear hr hc hs
  go_enter Try.func45, Try.ntmps45
  go_wp2_with ((with_reducible refine gate_callee (f := 66) rfl ?_); (try (refine gate_guard (by rfl) ?_; dsimp only)); refine goesL_ (some 8) rfl rfl Try.func66 (by kernel_rfl) rfl #[.slice A l.length c, .string t, .func (.func 44) #[] #[]] rfl (by (try simp only [List.map_toArray, List.map_cons, List.map_nil]); first | done | rfl) ?_; (with_reducible refine (find_calls A c l t _ HS.out hl HR.out HC.out).mono ?_); rintro e w2 ⟨⟨i, rfl⟩, ⟨m2, rfl⟩⟩; refine ⟨_, rfl, ?_⟩)
  go_ret2
  exact ⟨⟨i, rfl⟩, by repeat (first | exact Drawn0.refl _ | apply Drawn0.step)⟩
def withoutP (l m : List ByteArray) : List ByteArray := l.filter fun x => !hasT m x
set_option maxHeartbeats 4000000 in
set_option maxRecDepth 100000 in
theorem without_calls (A : Option Addr) (c : Nat) (l : List ByteArray) (B : Option Addr) (cb : Nat) (m : List ByteArray) (w : World) (hs : m.Pairwise ltB) (hl : l.length ≤ 1000) (hm : m.length ≤ 1000) (hr : Kd.C Kd.string w A l.length l) (hc : l.length ≤ c) (hrm : Kd.C Kd.string w B m.length m) (hcm : m.length ≤ cb) :
    Calls Try.prog 29 #[.slice A l.length c, .slice B m.length cb] w fun e w' => ∃ v, e = .returned v ∧ Kd.R Kd.string 9 w' w.heap.size (fun _ => True) v (withoutP l m) ∧ Below w.heap.size w w' := by
  have HR := Aside0.mk hr
  have HC := Aside0.mk hc
  have HS := Aside0.mk hs
  have HRM := Aside0.mk hrm
  have HCM := Aside0.mk hcm
  clear hr hc hs hrm hcm
  go_enter Try.func29, Try.ntmps29
  go_wp2_with fail
  go_loopg [5, 12] l.length (fun kq v5 v12 W => ∃ (i : Nat) (acc : List ByteArray), v12 = .int .i64 i ∧ Aside0 (i + kq = l.length) ∧ Aside0 (acc = (l.take i).filter (fun x => !hasT m x)) ∧ Aside0 (Kd.R Kd.string 9 W w.heap.size (fun _ => True) v5 acc) ∧ Aside0 (Below w.heap.size w W))
  case atStart => exact ⟨0, [], rfl, ⟨by omega⟩, ⟨by simp⟩, ⟨Kd.R_nil _ _ _ _ _⟩, ⟨Below.refl _ _⟩⟩
  case round =>
    obtain ⟨i, acc, rfl, HI, HACC, HO, HW⟩ := hrel
    have HR0 := Aside0.mk (Kd.C_below HR.out HW.out)
    have HRM0 := Aside0.mk (Kd.C_below HRM.out HW.out)
    have hi := HI.out
    cases gk with
    | zero =>
      obtain rfl : i = l.length := by omega
      have hlt2 : decide ((l.length : Int) < (l.length : Int)) = false := decide_eq_false (by omega)
      go_wp2_with fail
      go_ret
      refine ⟨_, rfl, ?_, HW.out⟩
      have e := HACC.out
      rw [List.take_length] at e
      unfold withoutP
      rw [← e]
      exact HO.out
    | succ ko =>
        have hil : i < l.length := by omega
        have hil2 : decide ((i : Int) < (l.length : Int)) = true := decide_eq_true (by omega)
        have hh0 : (0 : Int) ≤ (i : Int) := by omega
        have hh1 : (i : Int) < (l.length : Int) := by omega
        obtain ⟨ad, e101, hx⟩ := Kd.at_string HR0.out (i : Int) (by omega) (by omega)
        cases e101
        rw [Int.toNat_natCast, rdOf_nat _ _ _ hil] at hx
        obtain ⟨y, hy⟩ : ∃ y, l[i]'hil = y := ⟨_, rfl⟩
        rw [hy] at hx
        have HY := Aside0.mk hy
        obtain ⟨b, hb⟩ : ∃ b, hasT m y = b := ⟨_, rfl⟩
        have HB := Aside0.mk hb
        have hacc : acc.length ≤ l.length := by
          rw [HACC.out]
          exact Nat.le_trans (List.length_filter_le _ _) (by rw [List.length_take]; omega)
        have hnew : (l.take (i + 1)).filter (fun x => !hasT m x) = acc ++ (if b = true then [] else [y]) := by
          rw [List.take_add_one, List.getElem?_eq_getElem hil, hy, List.filter_append, HACC.out]
          congr 1
          show List.filter (fun x => !hasT m x) [y] = _
          rw [List.filter_cons, hb]
          cases b <;> rfl
        have HN := Aside0.mk hnew
        clear hnew hb hy
        cases b with
        | true =>
          go_wp2_with ((with_reducible refine gate_callee (f := 45) rfl ?_); (try (refine gate_guard (by rfl) ?_; dsimp only)); refine goesL_ (some 19) rfl rfl Try.func45 (by kernel_rfl) rfl #[.slice B m.length cb, .string y] rfl (by (try simp only [List.map_toArray, List.map_cons, List.map_nil]); first | done | rfl) ?_; (with_reducible refine (at_calls B cb m y _ HS.out hm HRM0.out HCM.out).mono ?_); rintro e w2 ⟨⟨i2, rfl⟩, hd⟩; rw [HB.out]; refine ⟨_, rfl, ?_⟩; have hb := hd.below; have HO2 := Aside0.mk (Kd.R_below HO.out hb); have HW2 := Aside0.mk (below_step HW.out hb); clear hb hd HO HW HR0 HRM0 hx)
          go_roundg ko
          case measure => omega
          case rel => exact ⟨i + 1, acc, by go_num, ⟨by omega⟩, ⟨by have := HN.out; simp only [if_true, List.append_nil] at this; exact this.symm⟩, HO2, HW2⟩
        | false =>
          go_wp2_with (first | ((with_reducible refine gate_callee (f := 45) rfl ?_); (try (refine gate_guard (by rfl) ?_; dsimp only)); refine goesL_ (some 19) rfl rfl Try.func45 (by kernel_rfl) rfl #[.slice B m.length cb, .string y] rfl (by (try simp only [List.map_toArray, List.map_cons, List.map_nil]); first | done | rfl) ?_; (with_reducible refine (at_calls B cb m y _ HS.out hm HRM0.out HCM.out).mono ?_); rintro e w2 ⟨⟨i2, rfl⟩, hd⟩; rw [HB.out]; refine ⟨_, rfl, ?_⟩; have hb := hd.below; have HO2 := Aside0.mk (Kd.R_below HO.out hb); have HW2 := Aside0.mk (below_step HW.out hb); clear hb hd HO HW HR0 HRM0 hx) | ((with_reducible refine gate_builtin (b := .append) (xs := #[.tmp 24, .tmp 26]) rfl ?_); at_builtin; refine Kd.R_append Kd.string (w0 := w) w.heap.size rfl (.tmp 24) (.tmp 26) 22 9 (.string ⟨#[]⟩) 16 rfl Try.underlying22 info9 rfl (by decide) (by omega) u5 acc y [.string y] (fun _ => True) (fun _ => False) rfl rfl ?aP (fun _ hk => hk.elim) (fun _ _ => trivial) HO2.out HW2.out HW2.out.size (by omega) ?_; (case aP => exact rfl); intro v1 w1 ho hb hg hat; have HO3 := Aside0.mk ho; have HW3 := Aside0.mk hb; clear ho hb hg hat HO2 HW2))
          go_roundg ko
          case measure => omega
          case rel => exact ⟨i + 1, acc ++ [y], by go_num, ⟨by omega⟩, ⟨by have := HN.out; simp only [Bool.false_eq_true, if_false] at this; exact this.symm⟩, HO3, HW3⟩
end Go.Proofs.Ytklidannncajiaa.OW

namespace Go.Proofs.Ytklidannncajiaa.OW
open Go.RowKit Go.Proofs.YtklidannncajiaaW.PrintWords Go.Proofs.YtklidannncajiaaW.PrintLast Go.Proofs.YtklidannncajiaaW.PrintMore Go.Proofs.Ytklidannncajiaa.Am
set_option linter.unusedVariables false
set_option linter.unusedSimpArgs false

theorem good_good {l : List ByteArray} (hg : GoodW l) (hb : ∀ w ∈ l, w.size ≤ 1000000) : Ev (fun K => list_Good.f K l) 0 := by
  have hl := hg.len
  have k1 : ∀ (d i : Nat), 1 ≤ i → i + d = max l.length 1 → Ev (fun K => list_Good.l1 K l (i : Int)) 0 := by
    intro d
    induction d with
    | zero =>
      intro i h1 hi
      exact Ev.step (f := fun _ => some 0) (fun K => by simp only [list_Good.l1]; rw [if_neg (by omega)]) (Ev.now _)
    | succ d ih =>
      intro i h1 hi
      have hil : i < l.length := by omega
      have hlt : Lib.compareBytes l[i - 1].data.toList l[i].data.toList < 0 := (List.pairwise_iff_getElem.1 hg.sorted) (i - 1) i (by omega) hil (by omega)
      refine Ev.step (fun K => ?_) (ih (i + 1) (by omega) (by omega))
      simp only [list_Good.l1]
      rw [if_pos (by omega), wr64 _ (by omega) (by omega), if_pos (by omega), if_pos (by omega), if_pos (by omega), show ((i : Int) - 1) = ((i - 1 : Nat) : Int) by omega, rdOf_nat _ _ _ (by omega), rdOf_nat _ _ _ hil, compare_eq, Option.bind_some, wr64 _ (by omega) (by omega), if_neg (by omega)]
      rfl
  have k0 : ∀ (d i : Nat), i + d = l.length → Ev (fun K => list_Good.l0 K l l (l.length : Int) (i : Int)) 0 := by
    intro d
    induction d with
    | zero =>
      intro i hi
      exact Ev.step (f := fun K => list_Good.l1 K l 1) (fun K => by simp only [list_Good.l0]; rw [if_neg (by omega)]) (k1 (max l.length 1 - 1) 1 (by omega) (by omega))
    | succ d ih =>
      intro i hi
      have hil : i < l.length := by omega
      refine Ev.step (fun K => ?_) (ih (i + 1) (by omega))
      simp only [list_Good.l0]
      rw [if_pos (by omega), if_pos (by omega), if_pos (by omega), rdOf_nat _ _ _ hil, word_eq (hb _ (List.getElem_mem hil)), Option.bind_some, decide_eq_true (hg.words _ (List.getElem_mem hil)), if_pos rfl, wr64 _ (by omega) (by omega)]
      rfl
  exact Ev.congr (fun K => by unfold list_Good.f; rw [if_neg (by omega)]; rfl) (k0 l.length 0 (by omega))
theorem build_good {l : List ByteArray} (hs : Small l) (hg : GoodW l) : ∃ ns, Ev (fun K => graph_Build.f K l) (0, ns) ∧ Graph ns l := by
  obtain ⟨e, ns, hE, hG⟩ := build_ev hs
  obtain ⟨K0, h0⟩ := hE
  obtain ⟨K1, h1⟩ := good_good hg (fun w hw => Nat.le_trans (hs.2 w hw) (by omega))
  have e0 : e = 0 := by
    have h2 : graph_Build.f (max K0 K1) l = some (e, ns) := h0 _ (by omega)
    have h3 : list_Good.f (max K0 K1) l = some 0 := h1 _ (by omega)
    unfold graph_Build.f at h2
    rw [h3, Option.bind_some, if_pos rfl] at h2
    split at h2
    · exact (Prod.mk.inj (Option.some.inj h2)).1.symm
    · obtain ⟨y, _, hy⟩ := Option.bind_eq_some_iff.1 h2
      exact (Prod.mk.inj (Option.some.inj hy)).1.symm
  subst e0
  exact ⟨ns, ⟨K0, h0⟩, (hG rfl).2⟩
theorem without_sub (l m : List ByteArray) : (withoutP l m).Sublist l := List.filter_sublist
theorem without_good {l : List ByteArray} (hg : GoodW l) (m : List ByteArray) : GoodW (withoutP l m) :=
  ⟨Nat.le_trans (without_sub l m).length_le hg.len, fun s hs => hg.words s ((without_sub l m).subset hs), hg.sorted.sublist (without_sub l m)⟩
theorem without_small {l : List ByteArray} (hg : Small l) (m : List ByteArray) : Small (withoutP l m) :=
  ⟨Nat.le_trans (without_sub l m).length_le hg.1, fun s hs => hg.2 s ((without_sub l m).subset hs)⟩
theorem near_without (q : List Int) (d : Nat) (l m : List ByteArray) : near q d (withoutP l m) = withoutP (near q d l) m := by
  unfold near withoutP
  rw [List.filter_filter, List.filter_filter]
  exact List.filter_congr fun x _ => Bool.and_comm _ _
theorem put_len (x : S24) : ∀ l : List S24, (putP l x).length = l.length + 1
  | [] => rfl
  | y :: ys => by
    unfold putP
    split
    · rfl
    · rw [List.length_cons, put_len x ys, List.length_cons]
theorem levels_total (q : List Int) {l : List ByteArray} (h : l.Pairwise ltB) (n : Nat) : (levels q l 0 n).length ≤ l.length := by
  have key : ∀ i, i ≤ l.length → (levels q (l.take i) 0 n).length ≤ i := by
    intro i
    induction i with
    | zero =>
      intro _
      have := levels_len q (l.take 0) n 0
      rw [List.take_zero, List.length_nil, Nat.mul_zero] at this
      rw [List.take_zero]
      exact this
    | succ i ih =>
      intro hi
      have hil : i < l.length := by omega
      have e : l.take (i + 1) = l.take i ++ [l[i]] := by rw [List.take_add_one, List.getElem?_eq_getElem hil]; rfl
      have hp : (l.take i ++ [l[i]]).Pairwise ltB := by rw [← e]; exact h.sublist (List.take_sublist _ _)
      rw [e, levels_put hp]
      have := ih (by omega)
      split
      · rw [put_len]; omega
      · omega
  have := key l.length (Nat.le_refl _)
  rw [List.take_length] at this
  exact this
theorem ev_all {α : Type} (g : Nat → Nat → Option α) (r : Nat → α) (h : ∀ d, Ev (g d) (r d)) : ∀ n : Nat, ∃ K, ∀ k, K ≤ k → ∀ d, d ≤ n → g d k = some (r d)
  | 0 => by
    obtain ⟨K, hK⟩ := h 0
    exact ⟨K, fun k hk d hd => by obtain rfl : d = 0 := by omega
                                  exact hK k hk⟩
  | n + 1 => by
    obtain ⟨K, hK⟩ := h (n + 1)
    obtain ⟨K1, h1⟩ := ev_all g r h n
    exact ⟨max K K1, fun k hk d hd => by
      by_cases e : d = n + 1
      · subst e; exact hK k (by omega)
      · exact h1 k (by omega) d (by omega)⟩
theorem levels_facts {l m : List ByteArray} (hs : Small l) (hg : GoodW l) (q0 : ByteArray) (hq : q0.size ≤ 100) (ha : isAsked q0) (n : Nat) (hn : n ≤ 4) :
    ∃ K ns ns2, graph_Build.f K l = some (0, ns) ∧ graph_Build.f K (withoutP l m) = some (0, ns2) ∧
      (∀ d, d ≤ n → walk_Dists.f K ns q0 (d : Int) = some (near (runes q0 0) d l) ∧ walk_Dists.f K ns2 q0 (d : Int) = some (withoutP (near (runes q0 0) d l) m) ∧ inkhornlaw0_SameTexts.f K (withoutP (near (runes q0 0) d l) m) (withoutP (near (runes q0 0) d l) m) = some true) ∧
      walk_Next.f K ns q0 (n : Int) true ⟨0, ⟨#[]⟩⟩ 100 = some (levels (runes q0 0) l 0 (n + 1), true) ∧ inkhornlaw0_SameItems.f K (levels (runes q0 0) l 0 (n + 1)) (levels (runes q0 0) l 0 (n + 1)) = some true := by
  obtain ⟨ns, ⟨K0, h0⟩, hG⟩ := build_good hs hg
  obtain ⟨ns2, ⟨K1, h1⟩, hG2⟩ := build_good (without_small hs m) (without_good hg m)
  have hlen := hg.len
  have hnl : ∀ d, (withoutP (near (runes q0 0) d l) m).length ≤ 1000000 := fun d => by
    have h1 := (without_sub (near (runes q0 0) d l) m).length_le
    have h2 := near_len (runes q0 0) d l
    omega
  obtain ⟨K2, h2⟩ := ev_all (fun d K => walk_Dists.f K ns q0 (d : Int)) (fun d => distsP q0 (d : Int) l) (fun d => dists_ev hG q0 (by omega) _) n
  obtain ⟨K3, h3⟩ := ev_all (fun d K => walk_Dists.f K ns2 q0 (d : Int)) (fun d => distsP q0 (d : Int) (withoutP l m)) (fun d => dists_ev hG2 q0 (by omega) _) n
  obtain ⟨K4, h4⟩ := ev_all (fun d K => inkhornlaw0_SameTexts.f K (withoutP (near (runes q0 0) d l) m) (withoutP (near (runes q0 0) d l) m)) (fun d => true) (fun d => sameTexts_ev _ (hnl d)) n
  obtain ⟨K5, h5⟩ := next_ev hG q0 (by omega) (n : Int) true ⟨0, ⟨#[]⟩⟩ 100
  have htot := levels_total (runes q0 0) hg.sorted (n + 1)
  obtain ⟨K6, h6⟩ := sameItems_ev (levels (runes q0 0) l 0 (n + 1)) (by omega)
  have en : nextP q0 (n : Int) l true ⟨0, ⟨#[]⟩⟩ 100 = (levels (runes q0 0) l 0 (n + 1), true) := by
    have e1 : restP q0 (n : Int) l true ⟨0, ⟨#[]⟩⟩ = levels (runes q0 0) l 0 (n + 1) := by
      unfold restP allP
      rw [if_pos ⟨ha, by omega, by omega⟩, show ((n : Int)).toNat = n by omega, List.filter_eq_self]
      intro x _
      rfl
    unfold nextP
    rw [e1, show ((100 : Int)).toNat = 100 by omega, List.take_of_length_le (by omega), decide_eq_true (by omega)]
  have hd : ∀ d, d ≤ n → ∀ u : List ByteArray, distsP q0 (d : Int) u = near (runes q0 0) d u := fun d hd u => by
    unfold distsP
    rw [if_pos ⟨ha, by omega, by omega⟩, show ((d : Int)).toNat = d by omega]
  refine ⟨max K0 (max K1 (max K2 (max K3 (max K4 (max K5 K6))))), ns, ns2, h0 _ (by omega), h1 _ (by omega), fun d hdn => ⟨?_, ?_, h4 _ (by omega) d hdn⟩, ?_, h6 _ (by omega)⟩
  · have := h2 (max K0 (max K1 (max K2 (max K3 (max K4 (max K5 K6)))))) (by omega) d hdn
    rw [hd d hdn] at this
    exact this
  · have := h3 (max K0 (max K1 (max K2 (max K3 (max K4 (max K5 K6)))))) (by omega) d hdn
    rw [hd d hdn, near_without] at this
    exact this
  · have := h5 (max K0 (max K1 (max K2 (max K3 (max K4 (max K5 K6)))))) (by omega)
    rw [en] at this
    exact this
end Go.Proofs.Ytklidannncajiaa.OW
