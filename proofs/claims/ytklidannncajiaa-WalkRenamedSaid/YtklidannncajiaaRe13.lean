/- What the row of the law WalkRenamed leans on: contracts of functions and plain laws, each for all inputs that its own theorem names. -/
import Derived.Test.YtklidannncajiaaRe12
import Derived.Test.YtklidannncajiaaRe2
import Derived.Test.YtklidannncajiaaRe11
import Derived.Test.YtklidannncajiaaRe0
import Derived.Outline
import Derived.Deep.CutRange
namespace Go.Proofs.Ytklidannncajiaa.OW
open Go.RowKit Go.Proofs.YtklidannncajiaaW.PrintWords Go.Proofs.YtklidannncajiaaW.PrintLast Go.Proofs.YtklidannncajiaaW.PrintMore
set_option linter.unusedVariables false
set_option linter.unusedSimpArgs false

theorem cell_own {w : World} {base g cap : Nat} {ok : Nat → Prop} {ys : List ByteArray} (h : Kd.R Kd.string 9 w base ok (.slice (some ⟨g, 0, none⟩) ys.length cap) ys) (j : Nat) (hj : j < ys.length) : w.cell? ⟨g, 0 + j, none⟩ = some (.string ys[j]) ∧ w.frozen? ⟨g, 0 + j, none⟩ = false := by
  have := Kd.R_cell (enc := Value.string) (h1 := fun _ => rfl) ByteArray.empty h (j : Int) (by omega) (by omega)
  rw [Int.toNat_natCast, rdOf_nat _ _ _ hj] at this
  rw [Nat.zero_add]
  exact this
theorem compact_calls {W : World} {base : Nat} {ok : Nat → Prop} (A : Option Addr) (c : Nat) (ys : List ByteArray) (hl : ys.length ≤ 1000) (h : Kd.R Kd.string 9 W base ok (.slice A ys.length c) ys) :
    Calls Try.prog 49 #[.slice A ys.length c] W fun e w' => ∃ v', e = .returned v' ∧ Kd.R Kd.string 9 w' base ok v' (compactP ys) ∧ W.grownBy w' (Value.slice A ys.length c).ownBlock := by
  by_cases h0 : ys.length = 0
  · obtain rfl : ys = [] := List.eq_nil_of_length_eq_zero h0
    refine (Try.slices_Compact_string_empty A c W).mono ?_
    rintro e w' ⟨rfl, rfl⟩
    exact ⟨_, rfl, h, ⟨rfl, rfl, rfl, Nat.le_refl _, fun _ _ _ => rfl⟩⟩
  · obtain ⟨g, cg, e, _, _, _, _⟩ := Kd.R_form h (by omega)
    injection e with e1 _ e3
    subst e1
    subst e3
    have hH : Go.Sort.Holds encStr W g 0 (ys.map bytesL).toArray := by
      intro j hj
      have hj : j < ys.length := by simpa using hj
      obtain ⟨h1, h2⟩ := cell_own h j hj
      refine ⟨?_, h2⟩
      rw [h1, arr_at ys j hj]
      show some (Value.string ys[j]) = some (Value.string (textL (bytesL ys[j])))
      rw [text_bytes]
    have hcap : ys.length ≤ c := (Kd.R_reads' h).2.1
    have hc := Try.slices_Compact_string g 0 c (ys.map bytesL) W hH (by simp; omega) (by simp; exact hcap)
    rw [List.length_map] at hc
    refine hc.mono ?_
    rintro e w' ⟨rfl, q, rfl⟩
    have hcl : (Lib.compact (ys.map bytesL)).length = (compactP ys).length := by unfold compactP; rw [List.length_map]
    have hle := compactP_len ys
    have hd : (Lib.compact (ys.map bytesL) ++ List.replicate ((ys.map bytesL).length - (Lib.compact (ys.map bytesL)).length) []).toArray.size = ys.length := by
      simp only [List.size_toArray, List.length_append, List.length_replicate, List.length_map]
      omega
    have hR := R_putRow encStr h rfl q (Lib.compact (ys.map bytesL) ++ List.replicate ((ys.map bytesL).length - (Lib.compact (ys.map bytesL)).length) []).toArray #[] hd hle (by
      rw [← hcl]
      simp only [List.take_left']
      unfold compactP
      rw [List.map_map]
      rfl)
    have hG := put_grown encStr W q g (Lib.compact (ys.map bytesL) ++ List.replicate ((ys.map bytesL).length - (Lib.compact (ys.map bytesL)).length) []).toArray #[]
    rw [Go.Sort.grow_empty] at hR hG
    rw [List.length_map] at hR hG
    rw [← hcl] at hR
    exact ⟨_, rfl, hR, hG⟩
end Go.Proofs.Ytklidannncajiaa.OW

namespace Go.Proofs.Ytklidannncajiaa.OW
open Go.RowKit Go.Proofs.YtklidannncajiaaW.PrintWords Go.Proofs.YtklidannncajiaaW.PrintLast Go.Proofs.YtklidannncajiaaW.PrintMore
set_option linter.unusedVariables false
set_option linter.unusedSimpArgs false

def cfT (a b : ByteArray) : Int := Lib.compareBytes a.data.toList b.data.toList
theorem ltT (a b : ByteArray) : ltOf cfT a b = true ↔ ltB a b := by unfold ltOf cfT ltB; exact decide_eq_true_iff
theorem ltT' (a b : ByteArray) : ltOf cfT a b = false ↔ ¬ ltB a b := by rw [← ltT, Bool.not_eq_true]
theorem swoT : Go.Sort.SWO (ltOf cfT) where
  irrefl x := (ltT' x x).2 (ltB.irrefl x)
  trans x y z h1 h2 := (ltT x z).2 (((ltT x y).1 h1).trans ((ltT y z).1 h2))
  ntrans x y z h1 h2 := by
    rw [ltT'] at *
    intro h
    by_cases e : x = y
    · rw [e] at h; exact h2 h
    · exact h2 ((ltB.total h1 e).trans h)
theorem cmpT (x y : ByteArray) (W : World) : Calls Try.prog 44 (#[.string x, .string y] ++ #[]) W fun e w' => e = .returned (.int .i64 (cfT x y)) ∧ ∃ q, w' = W.drewN q :=
  (text_Compare.calls x y _ W (compare_eq x y)).mono fun _ _ ⟨h1, h2⟩ => ⟨h1, by obtain ⟨m, rfl⟩ := h2; exact ⟨m, rfl⟩⟩
theorem cmpReadsT (g size : Nat) (w : World) : CmpReads Try.prog 44 #[] Value.string cfT g 0 size w := fun _ _ _ _ x y => cmpT x y _
theorem sort_calls {W : World} {base : Nat} {ok : Nat → Prop} (A : Option Addr) (c : Nat) (xs : List ByteArray) (hl : xs.length ≤ 1000) (h : Kd.R Kd.string 9 W base ok (.slice A xs.length c) xs) :
    Calls Try.prog 48 #[.slice A xs.length c, .func (.func 44) #[] #[]] W fun e w' => e = .returned (.tuple #[]) ∧ ∃ ys, ys.length = xs.length ∧ (∀ s ∈ ys, s ∈ xs) ∧ (∀ i j, (hi : i < ys.length) → (hj : j < ys.length) → i < j → ¬ ltB ys[j] ys[i]) ∧ Kd.R Kd.string 9 w' base ok (.slice A xs.length c) ys ∧ W.grownBy w' (Value.slice A xs.length c).ownBlock := by
  have eg : ∀ args w, (callFunc 44 args).run Try.prog w = .ok (.enter 44 args) w := enters_of Try.func44 (by kernel_rfl) rfl
  by_cases h0 : xs.length = 0
  · obtain rfl : xs = [] := List.eq_nil_of_length_eq_zero h0
    have hcon := AnyF.slices_SortFunc_none { Try.sortS with } A c (.func (.func 44) #[] #[]) W
    change Calls Try.prog 48 _ _ _ at hcon
    refine hcon.mono ?_
    rintro e w' ⟨rfl, rfl⟩
    exact ⟨rfl, [], rfl, fun _ h => h, fun i j hi => absurd hi (by simp), h, ⟨rfl, rfl, rfl, Nat.le_refl _, fun _ _ _ => rfl⟩⟩
  · obtain ⟨g, cg, e, _, _, _, hg⟩ := Kd.R_form h (by omega)
    injection e with e1 _ e3
    subst e1
    subst e3
    have hat : ∀ (ys : List ByteArray) (j : Nat) (hj : j < ys.length), ys.toArray[j]! = ys[j] := fun ys j hj => by
      rw [getElem!_pos _ j (by simpa using hj)]; simp
    have hH : Go.Sort.Holds Value.string W g 0 xs.toArray := by
      intro j hj
      have hj : j < xs.length := by simpa using hj
      obtain ⟨h1, h2⟩ := cell_own h j hj
      exact ⟨by rw [h1, hat xs j hj], h2⟩
    have hgl : g < W.heap.size := by
      rcases (Kd.own_of_R (enc := Value.string) (h1 := fun _ => rfl) h).2 with ⟨e, _⟩ | ⟨g', cap', cur, e, hb, hh, _⟩
      · cases e
      · cases e
        exact blk_lt hh
    have hcon := Any.slices_SortFunc Try.sortS Value.string (fun _ => rfl) cfT swoT 44 #[] g 0 c xs.toArray W eg (cmpReadsT g xs.toArray.size W).lays hH hgl (by simp; omega)
    change Calls Try.prog 48 _ _ _ at hcon
    rw [List.size_toArray] at hcon
    refine hcon.mono ?_
    rintro e w' ⟨rfl, d', n, os, hp, hs, rfl⟩
    obtain ⟨p1, p2, p3⟩ := hp
    replace p1 : d'.size = xs.length := by simpa using p1
    have hds : d'.toList.length = xs.length := by rw [Array.length_toList]; exact p1
    refine ⟨rfl, d'.toList, hds, ?_, ?_, ?_, put_grown Value.string W n g d' os⟩
    · intro s hsm
      have e1 : d'.extract 0 xs.length = d' := by rw [← p1]; simp
      have e2 : xs.toArray.extract 0 xs.length = xs.toArray := by simp
      rw [e1, e2] at p3
      exact p3.subset hsm
    · intro i j hi hj hij
      have := hs i j (Nat.zero_le _) hij (by omega)
      rw [ltT'] at this
      have h1 : d'[j]! = d'.toList[j] := by rw [getElem!_pos d' j (by omega)]; simp
      have h2 : d'[i]! = d'.toList[i] := by rw [getElem!_pos d' i (by omega)]; simp
      rw [h1, h2] at this
      exact this
    · have hR := R_putRow Value.string h rfl n d' os p1 (Nat.le_of_eq hds) (by rw [List.take_length])
      rw [hds] at hR
      exact hR
end Go.Proofs.Ytklidannncajiaa.OW

namespace Go.Proofs.Ytklidannncajiaa.OW
open Go.RowKit Go.Proofs.YtklidannncajiaaW.PrintWords Go.Proofs.YtklidannncajiaaW.PrintLast Go.Proofs.YtklidannncajiaaW.PrintMore Go.Proofs.Ytklidannncajiaa.Am
set_option linter.unusedVariables false
set_option linter.unusedSimpArgs false

theorem good_good {l : List ByteArray} (hg : GoodW l) (hb : ∀ w ∈ l, w.size ≤ 1000000) : Ev (fun K => list_Good.f K l) 0 := by
  have hl := hg.len
  have k1 : ∀ (d i : Nat), 1 ≤ i → i + d = max l.length 1 → Ev (fun K => list_Good.l1 K l (i : Int)) 0 := by
    intro d
    induction d with
    | zero =>
      intro i h1 hi
      exact Ev.step (f := fun _ => some 0) (fun K => by simp only [list_Good.l1]; rw [if_neg (by omega)]) (Ev.now _)
    | succ d ih =>
      intro i h1 hi
      have hil : i < l.length := by omega
      have hlt : Lib.compareBytes l[i - 1].data.toList l[i].data.toList < 0 := (List.pairwise_iff_getElem.1 hg.sorted) (i - 1) i (by omega) hil (by omega)
      refine Ev.step (fun K => ?_) (ih (i + 1) (by omega) (by omega))
      simp only [list_Good.l1]
      rw [if_pos (by omega), wr64 _ (by omega) (by omega), if_pos (by omega), if_pos (by omega), if_pos (by omega), show ((i : Int) - 1) = ((i - 1 : Nat) : Int) by omega, rdOf_nat _ _ _ (by omega), rdOf_nat _ _ _ hil, compare_eq, Option.bind_some, wr64 _ (by omega) (by omega), if_neg (by omega)]
      rfl
  have k0 : ∀ (d i : Nat), i + d = l.length → Ev (fun K => list_Good.l0 K l l (l.length : Int) (i : Int)) 0 := by
    intro d
    induction d with
    | zero =>
      intro i hi
      exact Ev.step (f := fun K => list_Good.l1 K l 1) (fun K => by simp only [list_Good.l0]; rw [if_neg (by omega)]) (k1 (max l.length 1 - 1) 1 (by omega) (by omega))
    | succ d ih =>
      intro i hi
      have hil : i < l.length := by omega
      refine Ev.step (fun K => ?_) (ih (i + 1) (by omega))
      simp only [list_Good.l0]
      rw [if_pos (by omega), if_pos (by omega), if_pos (by omega), rdOf_nat _ _ _ hil, word_eq (hb _ (List.getElem_mem hil)), Option.bind_some, decide_eq_true (hg.words _ (List.getElem_mem hil)), if_pos rfl, wr64 _ (by omega) (by omega)]
      rfl
  exact Ev.congr (fun K => by unfold list_Good.f; rw [if_neg (by omega)]; rfl) (k0 l.length 0 (by omega))
theorem build_good {l : List ByteArray} (hs : Small l) (hg : GoodW l) : ∃ ns, Ev (fun K => graph_Build.f K l) (0, ns) ∧ Graph ns l := by
  obtain ⟨e, ns, hE, hG⟩ := build_ev hs
  obtain ⟨K0, h0⟩ := hE
  obtain ⟨K1, h1⟩ := good_good hg (fun w hw => Nat.le_trans (hs.2 w hw) (by omega))
  have e0 : e = 0 := by
    have h2 : graph_Build.f (max K0 K1) l = some (e, ns) := h0 _ (by omega)
    have h3 : list_Good.f (max K0 K1) l = some 0 := h1 _ (by omega)
    unfold graph_Build.f at h2
    rw [h3, Option.bind_some, if_pos rfl] at h2
    split at h2
    · exact (Prod.mk.inj (Option.some.inj h2)).1.symm
    · obtain ⟨y, _, hy⟩ := Option.bind_eq_some_iff.1 h2
      exact (Prod.mk.inj (Option.some.inj hy)).1.symm
  subst e0
  exact ⟨ns, ⟨K0, h0⟩, (hG rfl).2⟩
end Go.Proofs.Ytklidannncajiaa.OW

namespace Go.Proofs.Ytklidannncajiaa.OW
open Go.RowKit Go.Proofs.YtklidannncajiaaW.PrintWords Go.Proofs.YtklidannncajiaaW.PrintLast Go.Proofs.YtklidannncajiaaW.PrintMore
attribute [local go_sem] max2_int min2_int max_two min_two
set_option linter.unusedVariables false
set_option linter.unusedSimpArgs false

theorem compact_calls' {W : World} {base : Nat} {ok : Nat → Prop} (A : Option Addr) (c n : Nat) (ys : List ByteArray) (hn : ys.length = n) (hl : ys.length ≤ 1000) (h : Kd.R Kd.string 9 W base ok (.slice A n c) ys) :
    Calls Try.prog 49 #[.slice A n c] W fun e w' => ∃ v', e = .returned v' ∧ Kd.R Kd.string 9 w' base ok v' (compactP ys) ∧ W.grownBy w' (Value.slice A n c).ownBlock := by
  subst hn
  exact compact_calls A c ys hl h
theorem take_texts (A : Option Addr) (n c m : Nat) (hm : m ≤ c) : ∀ W : World, (Instr.slice 22 (.slice A n c) none (some (.int .i64 (m : Int))) none).run Try.prog W = .ok (.slice A m c) W := by
  intro W
  obtain ⟨i, hi, hz⟩ := Option.map_eq_some_iff.1 info9
  simp only [Prod.mk.injEq] at hz
  have hel : Try.prog.elem 22 = 9 := by simp [Program.elem, Try.underlying22]
  have hu : Try.prog.underlying 22 = some (.slice (Try.prog.elem 22)) := by rw [hel]; exact Try.underlying22
  have ha : (A.map fun x => x.add 0) = A := by cases A <;> simp [Addr.add]
  rw [run_slice_h W 22 A n c hu .i64 (m : Int) (by omega) (by omega), hel]
  simp [sizeOf, typeInfo, hi, hz.2.1, sliced, Result.andThen, ha]
set_option maxHeartbeats 8000000 in
set_option maxRecDepth 100000 in
theorem sorted_calls (A : Option Addr) (c : Nat) (l : List ByteArray) (w : World) (hl : l.length ≤ 1000) (hb : ∀ s ∈ l, s.size ≤ 1000000) (hr : Kd.C Kd.string w A l.length l) (hc : l.length ≤ c) :
    Calls Try.prog 31 #[.slice A l.length c] w fun e w' => ∃ v r, e = .returned v ∧ Kd.R Kd.string 9 w' w.heap.size (fun _ => True) v r ∧ (r.Pairwise ltB ∧ (∀ s ∈ r, isWord s ∧ s ∈ l) ∧ r.length ≤ l.length) ∧ Below w.heap.size w w' := by
  have HR := Aside0.mk hr
  have HC := Aside0.mk hc
  have HBS := Aside0.mk hb
  have hmin : (if (l.length : Int) < 1000 then (l.length : Int) else 1000) = (l.length : Int) := by split <;> omega
  have hrun := take_texts A l.length c l.length hc
  have hl0 : (0 : Int) ≤ (l.length : Int) := by omega
  clear hr hb
  go_enter Try.func31, Try.ntmps31
  go_upto_region 3 with fail
  clear hrun hmin hc
  go_wp2_with fail
  go_loopg [3, 13] l.length (fun kq v3 v13 W => ∃ (i : Nat) (acc : List ByteArray), v13 = .int .i64 i ∧ Aside0 (i + kq = l.length) ∧ Aside0 (acc = (l.take i).filter (fun x => decide (isWord x))) ∧ Aside0 (Kd.R Kd.string 9 W w.heap.size (fun _ => True) v3 acc) ∧ Aside0 (Below w.heap.size w W))
  case atStart => exact ⟨0, [], rfl, ⟨by omega⟩, ⟨by simp⟩, ⟨Kd.R_nil _ _ _ _ _⟩, ⟨Below.refl _ _⟩⟩
  case round =>
    obtain ⟨i, acc, rfl, HI, HACC, HO, HW⟩ := hrel
    have HR0 := Aside0.mk (Kd.C_below HR.out HW.out)
    have hi := HI.out
    cases gk with
    | zero =>
      obtain rfl : i = l.length := by omega
      have hlt2 : decide ((l.length : Int) < (l.length : Int)) = false := decide_eq_false (by omega)
      obtain ⟨A3, c3, e3⟩ := Kd.R_slice HO.out
      subst e3
      have hal : acc.length ≤ l.length := by
        rw [HACC.out]
        exact Nat.le_trans (List.length_filter_le _ _) (by rw [List.length_take]; omega)
      go_wp2_with (first | ((with_reducible refine gate_callee (f := 48) rfl ?_); (try (refine gate_guard (by rfl) ?_; dsimp only)); refine goesL_ (some 26) rfl rfl Try.func48 (by kernel_rfl) rfl #[.slice A3 acc.length c3, .func (.func 44) #[] #[]] rfl (by (try simp only [List.map_toArray, List.map_cons, List.map_nil]); first | done | rfl) ?_; (with_reducible refine (sort_calls A3 c3 acc (by omega) HO.out).mono ?_); rintro e w2 ⟨rfl, ys, hyl, hym, hys, hyr, hyg⟩; refine ⟨_, rfl, ?_⟩; have HW2 := Aside0.mk (HW.out.grown hyg HW.out.size (Kd.R_base HO.out)); have HYL := Aside0.mk hyl; have HYM := Aside0.mk hym; have HYS := Aside0.mk hys; have HYR := Aside0.mk hyr; clear hyl hym hys hyr hyg) | ((with_reducible refine gate_callee (f := 49) rfl ?_); (try (refine gate_guard (by rfl) ?_; dsimp only)); refine goesL_ (some 28) rfl rfl Try.func49 (by kernel_rfl) rfl #[.slice A3 acc.length c3] rfl (by (try simp only [List.map_toArray, List.map_cons, List.map_nil]); first | done | rfl) ?_; (with_reducible refine (compact_calls' A3 c3 acc.length ys HYL.out (by have := HYL.out; omega) HYR.out).mono ?_); rintro e w3 ⟨v3, rfl, hcr, hcg⟩; refine ⟨_, rfl, ?_⟩; have HW3 := Aside0.mk (HW2.out.grown hcg HW2.out.size (Kd.R_base HYR.out)); have HCR := Aside0.mk hcr; clear hcr hcg))
      go_ret
      refine ⟨_, compactP ys, rfl, HCR.out, ⟨compactP_sorted HYS.out, fun s hs => ?_, ?_⟩, HW3.out⟩
      · have h1 := HYM.out s (compactP_mem hs)
        rw [HACC.out, List.take_length] at h1
        obtain ⟨h2, h3⟩ := List.mem_filter.1 h1
        exact ⟨of_decide_eq_true h3, h2⟩
      · have := compactP_len ys
        have := HYL.out
        omega
    | succ ko =>
        have hil : i < l.length := by omega
        have hil2 : decide ((i : Int) < (l.length : Int)) = true := decide_eq_true (by omega)
        have hh0 : (0 : Int) ≤ (i : Int) := by omega
        have hh1 : (i : Int) < (l.length : Int) := by omega
        obtain ⟨ad, e101, hx⟩ := Kd.at_string HR0.out (i : Int) (by omega) (by omega)
        cases e101
        rw [Int.toNat_natCast, rdOf_nat _ _ _ hil] at hx
        obtain ⟨y, hy⟩ : ∃ y, l[i]'hil = y := ⟨_, rfl⟩
        rw [hy] at hx
        have hys : y.size ≤ 1000000 := by rw [← hy]; exact HBS.out _ (List.getElem_mem hil)
        obtain ⟨b, hb⟩ : ∃ b, decide (isWord y) = b := ⟨_, rfl⟩
        have HB := Aside0.mk (show text_Word.f y = some b by rw [word_eq hys, hb])
        have hacc : acc.length ≤ l.length := by
          rw [HACC.out]
          exact Nat.le_trans (List.length_filter_le _ _) (by rw [List.length_take]; omega)
        have hnew : (l.take (i + 1)).filter (fun x => decide (isWord x)) = acc ++ (if b = true then [y] else []) := by
          rw [List.take_add_one, List.getElem?_eq_getElem hil, hy, List.filter_append, HACC.out]
          congr 1
          show List.filter (fun x => decide (isWord x)) [y] = _
          rw [List.filter_cons, hb]
          cases b <;> rfl
        have HN := Aside0.mk hnew
        clear hnew hb hy hys
        cases b with
        | false =>
          go_wp2_with ((with_reducible refine gate_callee (f := 43) rfl ?_); (try (refine gate_guard (by rfl) ?_; dsimp only)); refine goesL_ (some 18) rfl rfl Try.func43 (by kernel_rfl) rfl #[.string y] rfl (by (try simp only [List.map_toArray, List.map_cons, List.map_nil]); first | done | rfl) ?_; (with_reducible refine (text_Word.calls y false _ HB.out).mono ?_); rintro e w2 ⟨rfl, hb⟩; refine ⟨_, rfl, ?_⟩; have HO2 := Aside0.mk (Kd.R_below HO.out hb); have HW2 := Aside0.mk (below_step HW.out hb); clear hb HO HW HR0 hx)
          go_roundg ko
          case measure => omega
          case rel => exact ⟨i + 1, acc, by go_num, ⟨by omega⟩, ⟨by have := HN.out; simp only [Bool.false_eq_true, if_false, List.append_nil] at this; exact this.symm⟩, HO2, HW2⟩
        | true =>
          go_wp2_with (first | ((with_reducible refine gate_callee (f := 43) rfl ?_); (try (refine gate_guard (by rfl) ?_; dsimp only)); refine goesL_ (some 18) rfl rfl Try.func43 (by kernel_rfl) rfl #[.string y] rfl (by (try simp only [List.map_toArray, List.map_cons, List.map_nil]); first | done | rfl) ?_; (with_reducible refine (text_Word.calls y true _ HB.out).mono ?_); rintro e w2 ⟨rfl, hb⟩; refine ⟨_, rfl, ?_⟩; have HO2 := Aside0.mk (Kd.R_below HO.out hb); have HW2 := Aside0.mk (below_step HW.out hb); clear hb HO HW HR0 hx) | ((with_reducible refine gate_builtin (b := .append) (xs := #[.tmp 19, .tmp 21]) rfl ?_); at_builtin; refine Kd.R_append Kd.string (w0 := w) w.heap.size rfl (.tmp 19) (.tmp 21) 22 9 (.string ⟨#[]⟩) 16 rfl Try.underlying22 info9 rfl (by decide) (by omega) u3 acc y [.string y] (fun _ => True) (fun _ => False) rfl rfl ?aP (fun _ hk => hk.elim) (fun _ _ => trivial) HO2.out HW2.out HW2.out.size (by omega) ?_; (case aP => exact rfl); intro v1 w1 ho hb hg hat; have HO3 := Aside0.mk ho; have HW3 := Aside0.mk hb; clear ho hb hg hat HO2 HW2))
          go_roundg ko
          case measure => omega
          case rel => exact ⟨i + 1, acc ++ [y], by go_num, ⟨by omega⟩, ⟨by have := HN.out; simp only [if_true] at this; exact this.symm⟩, HO3, HW3⟩
end Go.Proofs.Ytklidannncajiaa.OW

namespace Go.Proofs.Ytklidannncajiaa.OW
open Go.RowKit Go.Proofs.YtklidannncajiaaW.PrintWords Go.Proofs.YtklidannncajiaaW.PrintLast Go.Proofs.YtklidannncajiaaW.PrintMore Go.Proofs.Ytklidannncajiaa.Am
set_option linter.unusedVariables false
set_option linter.unusedSimpArgs false

theorem low_ev (a : Int) (n : Nat) (h0 : 0 < n) (hn : n < 1000) : ∃ r : Nat, inkhornlaw0_Low.f a (n : Int) = some (r : Int) ∧ r < n := by
  have e1 : IntKind.u64.wrap (n : Int) = n := by show (n : Int) % 18446744073709551616 = n; omega
  have e2 : 0 ≤ IntKind.u64.wrap a := by show 0 ≤ a % 18446744073709551616; omega
  unfold inkhornlaw0_Low.f
  rw [e1, if_neg (by omega), Int.tmod_eq_emod_of_nonneg e2]
  have h2 := Int.emod_nonneg (IntKind.u64.wrap a) (b := (n : Int)) (by omega)
  have h3 := Int.emod_lt_of_pos (IntKind.u64.wrap a) (b := (n : Int)) (by omega)
  exact ⟨(IntKind.u64.wrap a % (n : Int)).toNat, by rw [wr64 _ (by omega) (by omega), Int.toNat_of_nonneg h2], by omega⟩
end Go.Proofs.Ytklidannncajiaa.OW

namespace Go.Proofs.Ytklidannncajiaa.OW
open Go.RowKit Go.Proofs.YtklidannncajiaaW.PrintWords Go.Proofs.YtklidannncajiaaW.PrintLast Go.Proofs.YtklidannncajiaaW.PrintMore Go.Proofs.Ytklidannncajiaa.Am
attribute [local go_sem] max2_int min2_int max_two min_two
set_option linter.unusedVariables false
set_option linter.unusedSimpArgs false

/-- All near words, as the machine's functions tell them. -/
def allL (q0 : ByteArray) (k : Nat) (l : List ByteArray) : List S24 := levels (runes q0 0) l 0 (k + 1)
theorem allL_len {q0 : ByteArray} {k : Nat} {l : List ByteArray} (hg : GoodW l) : (allL q0 k l).length ≤ 60 := by
  have h : (l.filterMap (nearI (runes q0 0) k)).Perm (allL q0 k l) := by
    have h1 := nearI_nodup (q := runes q0 0) (k := k) hg.sorted
    have h2 : (allL q0 k l).Nodup := (levels_sorted (runes q0 0) hg.sorted (k + 1) 0).imp fun {a b} hab e => by rw [e] at hab; exact lessP_irrefl _ hab
    exact (List.perm_ext_iff_of_nodup h1 h2).2 fun x => mem_nearI
  rw [← h.length_eq]
  exact Nat.le_trans (List.length_filterMap_le _ _) hg.len
theorem filter_first (af : S24) (L : List S24) : L.filter (keepP true af) = L := List.filter_eq_self.2 (fun x _ => rfl)
theorem rest_first {q0 : ByteArray} {k : Nat} {l : List ByteArray} (ha : isAsked q0) (hk : k ≤ 4) (af : S24) : restP q0 (k : Int) l true af = allL q0 k l := by
  unfold restP allP
  rw [if_pos ⟨ha, by omega, by omega⟩]
  rw [filter_first]
  rfl
theorem next_firstP {ns : List S72} {l : List ByteArray} (hG : Graph ns l) {q0 : ByteArray} (hq : q0.size ≤ 100) {k : Nat} (ha : isAsked q0) (hk : k ≤ 4) (b : Int) : Ev (fun K => walk_Next.f K ns q0 (k : Int) true ⟨0, ⟨#[]⟩⟩ b) ((allL q0 k l).take b.toNat, decide ((allL q0 k l).length ≤ b.toNat)) := by
  have h := next_ev hG q0 (by omega) (k : Int) true ⟨0, ⟨#[]⟩⟩ b
  unfold nextP at h
  rw [rest_first ha hk] at h
  exact h
end Go.Proofs.Ytklidannncajiaa.OW

namespace Go.Proofs.Ytklidannncajiaa.OW
open Go.RowKit Go.Proofs.YtklidannncajiaaW.PrintWords Go.Proofs.YtklidannncajiaaW.PrintLast Go.Proofs.YtklidannncajiaaW.PrintMore Go.Proofs.Ytklidannncajiaa.Am
attribute [local go_sem] max2_int min2_int max_two min_two
set_option linter.unusedVariables false
set_option linter.unusedSimpArgs false

def upS (s : ByteArray) : ByteArray := runesBytes (upR s)
theorem upS_eq {s : ByteArray} (h : Asc s) : upS s = up s := runesBytes_up h
theorem map_upS {l : List ByteArray} (h : AscL l) : l.map upS = l.map up := List.map_congr_left fun s hs => upS_eq (h s hs)
theorem small_up {l : List ByteArray} (hg : GoodW l) (hl : AscL l) : Small (l.map up) := ⟨by rw [List.length_map]; exact Nat.le_trans hg.len (by omega), fun s hs => by
  obtain ⟨x, hx, rfl⟩ := List.mem_map.1 hs
  have h1 := (hg.words x hx).2.2
  rw [(runes_asc x.size x (Nat.le_refl _) (hl x hx)).2] at h1
  rw [up_size]; omega⟩
theorem ren_facts {l : List ByteArray} (hs : Small l) (hg : GoodW l) (hl : AscL l) {q : ByteArray} (hq : Asc q) (hqs : q.size ≤ 16) (n : Nat) (hn : n ≤ 4) :
    ∃ K ns ns' a, graph_Build.f K l = some (0, ns) ∧ graph_Build.f K (l.map up) = some (0, ns') ∧ ns.length = ns'.length ∧ a.length ≤ 60 ∧ (∀ x ∈ a, Asc x.f1 ∧ x.f1.size ≤ 100) ∧
      walk_Next.f K ns q (n : Int) true ⟨0, ⟨#[]⟩⟩ 60 = some (a, true) ∧ walk_Next.f K ns' (up q) (n : Int) true ⟨0, ⟨#[]⟩⟩ 60 = some (a.map upI, true) := by
  obtain ⟨ns, hB, hG⟩ := build_good hs hg
  obtain ⟨ns', hB', hG'⟩ := build_good (small_up hg hl) (good_up hl hg)
  have hnn := build_nodes hl hB hB'
  have hlen : (allL q n l).length ≤ 60 := allL_len hg
  have h1 := next_firstP hG (by omega) (asc_asked hq hqs) hn 60
  have h2 := next_firstP hG' (by rw [up_size]; omega) (up_asked hq hqs) hn 60
  have e2 : allL (up q) n (l.map up) = (allL q n l).map upI := allL_up hq hl n
  rw [e2, List.length_map, show ((60 : Int)).toNat = 60 from rfl, List.take_of_length_le (by rw [List.length_map]; exact hlen), decide_eq_true hlen] at h2
  rw [show ((60 : Int)).toNat = 60 from rfl, List.take_of_length_le hlen, decide_eq_true hlen] at h1
  obtain ⟨K0, k0⟩ := hB
  obtain ⟨K1, k1⟩ := hB'
  obtain ⟨K2, k2⟩ := h1
  obtain ⟨K3, k3⟩ := h2
  refine ⟨max K0 (max K1 (max K2 K3)), ns, ns', allL q n l, k0 _ (by omega), k1 _ (by omega), hnn, hlen, fun x hx => ?_, k2 _ (by omega), k3 _ (by omega)⟩
  obtain ⟨v, hv, _, rfl⟩ := mem_levels.1 hx
  exact ⟨hl v hv, hs.2 v hv⟩
/-- The bytes of a text and of words behind it. -/
def allB (s : ByteArray) (l : List ByteArray) : List UInt8 := s.data.toList ++ l.flatMap fun x => x.data.toList
theorem rowI_by {W : World} {base g n cap : Nat} {ok : Nat → Prop} {xs : List S24} (h : Kd.R k24 24 W base ok (.slice (some ⟨g, 0, none⟩) n cap) xs) (i : Nat) (hi : i < n) (x : S24) (hx : xs[i]? = some x) : (∀ p : BelowBy W, p.wd.cell? ⟨g, i * 2, none⟩ = some (.int .i64 x.f0)) ∧ ∀ p : BelowBy W, p.wd.cell? ⟨g, i * 2 + 1, none⟩ = some (.string x.f1) := by
  have key : ∀ p : BelowBy W, p.wd.cell? ⟨g, i * 2, none⟩ = some (.int .i64 x.f0) ∧ p.wd.cell? ⟨g, i * 2 + 1, none⟩ = some (.string x.f1) := fun p => by
    obtain ⟨c, h1, h2, h3, h4⟩ := Kd.R_elem (Kd.R_below h p.be) z24 (i : Int) (by omega) (by omega)
    obtain rfl := k24_openM h2
    have hg : xs.getD i z24 = x := by rw [List.getD_eq_getElem?_getD, hx]; rfl
    have e0 := h3 0 _ rfl
    have e1 := h3 1 _ rfl
    rw [Int.toNat_natCast, hg] at e0 e1
    exact ⟨e0, e1⟩
  exact ⟨fun p => (key p).1, fun p => (key p).2⟩
theorem allB_asc {s : ByteArray} {l : List ByteArray} (h : ∀ b ∈ allB s l, b.toNat < 128) : Asc s ∧ AscL l :=
  ⟨fun b hb => h b (List.mem_append_left _ hb), fun x hx b hb => h b (List.mem_append_right _ (List.mem_flatMap.2 ⟨x, hx, hb⟩))⟩
set_option maxHeartbeats 16000000 in
set_option maxRecDepth 100000 in
theorem walkRenamed_calls (A : Option Addr) (c : Nat) (l : List ByteArray) (s : ByteArray) (k : Int) (w : World) (hr : Kd.C Kd.string w A l.length l) (hc : l.length ≤ c) :
    Calls Try.prog 11 #[.slice A l.length c, .string s, .int .i64 k] w fun e w' => e = .returned (.bool true) ∧ Below w.heap.size w w' := by
  have HW := Aside0.mk (Below.refl w.heap.size w)
  have HR := Aside0.mk hr
  have HC := Aside0.mk hc
  clear hr hc
  obtain ⟨T, hT⟩ : ∃ T, T = !decide (Small l) := ⟨_, rfl⟩
  obtain ⟨KT, hK2⟩ := great_ev l
  have HT := Aside0.mk (show inkhornlaw0_GreatTexts.f KT l = some T by rw [hT]; exact hK2 KT (Nat.le_refl _))
  clear hK2
  cases T with
  | true =>
    clear hT
    go_enter Try.func11, Try.ntmps11
    go_wp2_with (first | ((with_reducible refine gate_callee (f := 27) rfl ?_); (try (refine gate_guard (by rfl) ?_; dsimp only)); refine goesL_ (some 22) rfl rfl Try.func27 (by kernel_rfl) rfl #[.slice A l.length c] rfl (by (try simp only [List.map_toArray, List.map_cons, List.map_nil]); first | done | rfl) ?_; (with_reducible refine (inkhornlaw0_GreatTexts.calls KT A c l true _ HR.out HC.out HT.out).mono ?_); rintro e w2 ⟨rfl, hd⟩; refine ⟨_, rfl, ?_⟩; have hb := hd.below; have q_HW := Aside0.mk (below_step HW.out hb); clear HW; have HW := q_HW; clear q_HW; have q_HR := Aside0.mk (Kd.C_below HR.out hb); clear HR; have HR := q_HR; clear q_HR; clear hb hd) | ((with_reducible refine gate_callee (f := 13) rfl ?_); (try (refine gate_guard (by rfl) ?_; dsimp only)); refine goesL_ (some 28) rfl rfl Try.func13 (by kernel_rfl) rfl #[] rfl (by (try simp only [List.map_toArray, List.map_cons, List.map_nil]); first | done | rfl) ?_; (with_reducible refine (awake_calls _).mono ?_); rintro e w3 ⟨rfl, hb⟩; refine ⟨_, rfl, ?_⟩; have q_HW := Aside0.mk (below_step HW.out hb); clear HW; have HW := q_HW; clear q_HW; have q_HR := Aside0.mk (Kd.C_below HR.out hb); clear HR; have HR := q_HR; clear q_HR; clear hb))
    go_ret
    exact ⟨rfl, HW.out⟩
  | false =>
    have hsm : Small l := by simpa using hT.symm
    clear hT
    by_cases hlong : (s.size : Int) > 16
    · have hlong2 : decide ((s.size : Int) > 16) = true := decide_eq_true hlong
      clear hsm
      go_enter Try.func11, Try.ntmps11
      go_wp2_with (first | ((with_reducible refine gate_callee (f := 27) rfl ?_); (try (refine gate_guard (by rfl) ?_; dsimp only)); refine goesL_ (some 22) rfl rfl Try.func27 (by kernel_rfl) rfl #[.slice A l.length c] rfl (by (try simp only [List.map_toArray, List.map_cons, List.map_nil]); first | done | rfl) ?_; (with_reducible refine (inkhornlaw0_GreatTexts.calls KT A c l false _ HR.out HC.out HT.out).mono ?_); rintro e w2 ⟨rfl, hd⟩; refine ⟨_, rfl, ?_⟩; have hb := hd.below; have q_HW := Aside0.mk (below_step HW.out hb); clear HW; have HW := q_HW; clear q_HW; have q_HR := Aside0.mk (Kd.C_below HR.out hb); clear HR; have HR := q_HR; clear q_HR; clear hb hd) | ((with_reducible refine gate_callee (f := 13) rfl ?_); (try (refine gate_guard (by rfl) ?_; dsimp only)); refine goesL_ (some 28) rfl rfl Try.func13 (by kernel_rfl) rfl #[] rfl (by (try simp only [List.map_toArray, List.map_cons, List.map_nil]); first | done | rfl) ?_; (with_reducible refine (awake_calls _).mono ?_); rintro e w3 ⟨rfl, hb⟩; refine ⟨_, rfl, ?_⟩; have q_HW := Aside0.mk (below_step HW.out hb); clear HW; have HW := q_HW; clear q_HW; have q_HR := Aside0.mk (Kd.C_below HR.out hb); clear HR; have HR := q_HR; clear q_HR; clear hb))
      go_ret
      exact ⟨rfl, HW.out⟩
    have hlong2 : decide ((s.size : Int) > 16) = false := decide_eq_false hlong
    have hlong3 : ¬ (16 : Int) < (s.size : Int) := hlong
    have HSM1 := Aside0.mk hsm.1
    have HSM2 := Aside0.mk hsm.2
    clear hsm
    go_enter Try.func11, Try.ntmps11
    go_upto_region 4 with (first | ((with_reducible refine gate_callee (f := 27) rfl ?_); (try (refine gate_guard (by rfl) ?_; dsimp only)); refine goesL_ (some 22) rfl rfl Try.func27 (by kernel_rfl) rfl #[.slice A l.length c] rfl (by (try simp only [List.map_toArray, List.map_cons, List.map_nil]); first | done | rfl) ?_; (with_reducible refine (inkhornlaw0_GreatTexts.calls KT A c l false _ HR.out HC.out HT.out).mono ?_); rintro e w2 ⟨rfl, hd⟩; refine ⟨_, rfl, ?_⟩; have hb := hd.below; have q_HW := Aside0.mk (below_step HW.out hb); clear HW; have HW := q_HW; clear q_HW; have q_HR := Aside0.mk (Kd.C_below HR.out hb); clear HR; have HR := q_HR; clear q_HR; clear hb hd) | ((with_reducible refine gate_callee (f := 31) rfl ?_); (try (refine gate_guard (by rfl) ?_; dsimp only)); refine goesL_ (some 30) rfl rfl Try.func31 (by kernel_rfl) rfl #[.slice A l.length c] rfl (by (try simp only [List.map_toArray, List.map_cons, List.map_nil]); first | done | rfl) ?_; (with_reducible refine (sorted_calls A c l _ (Nat.le_trans HSM1.out (by omega)) (fun s hs => Nat.le_trans (HSM2.out s hs) (by omega)) HR.out HC.out).mono ?_); rintro e w3 ⟨v3, r, rfl, ho, hp, hb⟩; refine ⟨_, rfl, ?_⟩; have q_HW := Aside0.mk (below_step HW.out hb); clear HW; have HW := q_HW; clear q_HW; have HO := Aside0.mk (ho); clear HR; have HP := Aside0.mk hp; obtain ⟨A3, c3, e3⟩ := Kd.R_slice ho; subst e3; clear ho hp; have hrl : r.length ≤ 80 := Nat.le_trans HP.out.2.2 HSM1.out; clear hb))
    by_cases hr40 : (40 : Int) < (r.length : Int)
    · have hr2 : decide ((r.length : Int) > 40) = true := decide_eq_true hr40
      go_wp2_with (first | ((with_reducible refine gate_callee (f := 13) rfl ?_); (try (refine gate_guard (by rfl) ?_; dsimp only)); refine goesL_ (some 34) rfl rfl Try.func13 (by kernel_rfl) rfl #[] rfl (by (try simp only [List.map_toArray, List.map_cons, List.map_nil]); first | done | rfl) ?_; (with_reducible refine (awake_calls _).mono ?_); rintro e w4 ⟨rfl, hb⟩; refine ⟨_, rfl, ?_⟩; have q_HW := Aside0.mk (below_step HW.out hb); clear HW; have HW := q_HW; clear q_HW; clear hb))
      go_ret
      exact ⟨rfl, HW.out⟩
    have hr2 : decide ((r.length : Int) > 40) = false := decide_eq_false hr40
    have hgr : GoodW r := ⟨by omega, fun s hs => (HP.out.2.1 s hs).1, HP.out.1⟩
    have hsr : Small r := ⟨by omega, fun s hs => HSM2.out s (HP.out.2.1 s hs).2⟩
    have HGR0 := Aside0.mk hgr
    have HSR := Aside0.mk hsr
    have hr40n : r.length ≤ 40 := by omega
    clear hgr hsr HP
    go_wp2_with fail
    go_loopg [8, 9, 10] r.length (fun kq v8 v9 v10 W => ∃ (i : Nat) (str : ByteArray), v8 = .string str ∧ v10 = .int .i64 i ∧ Aside0 (i + kq = r.length) ∧ Aside0 (str.data.toList = allB s (r.take i)) ∧ Aside0 (str.size ≤ 16 + 1000 * i) ∧ Aside0 (Kd.R Kd.string 9 W w3.heap.size (fun _ => True) v9 ((r.take i).map upS)) ∧ Aside0 (Below w3.heap.size w3 W))
    case atStart => exact ⟨0, s, rfl, rfl, ⟨by omega⟩, ⟨by simp [allB]⟩, ⟨by omega⟩, ⟨Kd.R_nil _ _ _ _ _⟩, ⟨Below.refl _ _⟩⟩
    case round =>
      obtain ⟨i, str, rfl, rfl, HI, HSTR, HSS, HO9, HB3⟩ := hrel
      have hi := HI.out
      have hss := HSS.out
      have HO1 := Aside0.mk (Kd.R_below HO.out HB3.out)
      cases gk with
      | succ ko =>
        have hil : i < r.length := by omega
        have hil2 : decide ((i : Int) < (r.length : Int)) = true := decide_eq_true (by omega)
        have hh0 : (0 : Int) ≤ (i : Int) := by omega
        have hh1 : (i : Int) < (r.length : Int) := by omega
        obtain ⟨ad, e101, hx⟩ := Kd.at_string (Kd.R_reads' HO1.out).2.2 (i : Int) (by omega) (by omega)
        cases e101
        rw [Int.toNat_natCast, rdOf_nat _ _ _ hil] at hx
        obtain ⟨y, hy⟩ : ∃ y, r[i]'hil = y := ⟨_, rfl⟩
        rw [hy] at hx
        have hys : y.size ≤ 1000 := by rw [← hy]; exact Nat.le_trans (HSR.out.2 _ (List.getElem_mem hil)) (by omega)
        have HTK := Aside0.mk (show r.take (i + 1) = r.take i ++ [y] by rw [List.take_add_one, List.getElem?_eq_getElem hil, hy]; rfl)
        have hlen : ((r.take i).map upS).length ≤ 1000 := by rw [List.length_map, List.length_take]; omega
        have hcat : ¬ (((str.size + y.size : Nat) : Int) > IntKind.i64.max) := by show ¬ (((str.size + y.size : Nat) : Int) > 9223372036854775807); omega
        have hcat2 : ¬ ((str.size : Int) + (y.size : Int) > 9223372036854775807) := by omega
        have hcat3 : ¬ (9223372036854775807 : Int) < (str.size : Int) + (y.size : Int) := by omega
        have hsy : str.size + y.size ≤ 16 + 1000 * (i + 1) := by omega
        clear hy
        go_wp2_with (first | ((with_reducible refine gate_callee (f := 32) rfl ?_); (try (refine gate_guard (by rfl) ?_; dsimp only)); refine goesL_ (some 53) rfl rfl Try.func32 (by kernel_rfl) rfl #[.string y] rfl (by (try simp only [List.map_toArray, List.map_cons, List.map_nil]); first | done | rfl) ?_; (with_reducible refine (up_calls y hys _).mono ?_); rintro e w5 ⟨rfl, hb⟩; refine ⟨_, rfl, ?_⟩; have HO10 := Aside0.mk (Kd.R_below HO9.out hb); have HB5 := Aside0.mk (below_step HB3.out hb); clear hb HO9 HB3 HO1 hx) | ((with_reducible refine gate_builtin (b := .append) (xs := #[.tmp 48, .tmp 54]) rfl ?_); at_builtin; refine Kd.R_append Kd.string (w0 := w3) w3.heap.size rfl (.tmp 48) (.tmp 54) 22 9 (.string ⟨#[]⟩) 16 rfl Try.underlying22 info9 rfl (by decide) (by omega) u9 ((r.take i).map upS) (runesBytes (upR y)) [.string (runesBytes (upR y))] (fun _ => True) (fun _ => False) rfl rfl ?aP (fun _ hk => hk.elim) (fun _ _ => trivial) HO10.out HB5.out HB5.out.size (by omega) ?_; (case aP => exact rfl); intro v1 w1 ho hb hg hat; have HO11 := Aside0.mk ho; have HB6 := Aside0.mk hb; clear ho hb hg hat HO10 HB5))
        go_roundg ko
        case measure => omega
        case rel => exact ⟨i + 1, str ++ y, rfl, by go_num, ⟨by omega⟩, ⟨by rw [ByteArray.data_append, Array.toList_append, HSTR.out, HTK.out]; unfold allB; rw [List.flatMap_append, List.append_assoc]; simp⟩, ⟨by rw [ByteArray.size_append]; exact hsy⟩, ⟨by rw [HTK.out, List.map_append]; exact HO11.out⟩, HB6⟩
      | zero =>
        obtain rfl : i = r.length := by omega
        have hlt2 : decide ((r.length : Int) < (r.length : Int)) = false := decide_eq_false (by omega)
        have HSB := Aside0.mk (show str.data.toList = allB s r by have := HSTR.out; rwa [List.take_length] at this)
        have HOT := Aside0.mk (show Kd.R Kd.string 9 wr w3.heap.size (fun _ => True) u9 (r.map upS) by have := HO9.out; rwa [List.take_length] at this)
        clear HSTR HO9 HI
        have hss2 : str.size ≤ 100000 := by omega
        clear hss HSS
        go_wp2_with fail
        go_loopg [11] str.size (fun kq v11 W => ∃ (i : Nat), v11 = .int .i64 i ∧ Aside0 (i + kq = str.size) ∧ Aside0 (∀ j, j < i → (h : j < str.data.toList.length) → (str.data.toList[j]).toNat < 128) ∧ Aside0 (Below w3.heap.size w3 W) ∧ Aside0 (Kd.R Kd.string 9 W w3.heap.size (fun _ => True) u9 (r.map upS)))
        case atStart => exact ⟨0, rfl, ⟨by omega⟩, ⟨fun j h => absurd h (by omega)⟩, HB3, HOT⟩
        case round =>
          clear HB3 HOT HO1
          obtain ⟨i, rfl, HI, HASC, HB3, HOT⟩ := hrel
          have hi := HI.out
          cases gk with
          | succ ko =>
            have hil : i < str.size := by omega
            have hil2 : decide ((i : Int) < (str.size : Int)) = true := decide_eq_true (by omega)
            have hh0 : (0 : Int) ≤ (i : Int) := by omega
            have hh1 : (i : Int) < (str.size : Int) := by omega
            obtain ⟨y, hy⟩ : ∃ y, str[i]'(hil) = y := ⟨_, rfl⟩
            have HYL := Aside0.mk (show ∀ h : i < str.data.toList.length, str.data.toList[i] = y from fun h => hy)
            by_cases hbig : (127 : Int) < (y.toNat : Int)
            · have hbig2 : decide ((y.toNat : Int) > 127) = true := decide_eq_true hbig
              have hbig3 : 127 < y.toNat := by omega
              have HW1 := Aside0.mk (below_step HW.out HB3.out)
              go_wp2_with (first | ((with_reducible refine gate_callee (f := 13) rfl ?_); (try (refine gate_guard (by rfl) ?_; dsimp only)); refine goesL_ (some 66) rfl rfl Try.func13 (by kernel_rfl) rfl #[] rfl (by (try simp only [List.map_toArray, List.map_cons, List.map_nil]); first | done | rfl) ?_; (with_reducible refine (awake_calls _).mono ?_); rintro e w5 ⟨rfl, hb⟩; refine ⟨_, rfl, ?_⟩; have q_HW1 := Aside0.mk (below_step HW1.out hb); clear HW1; have HW1 := q_HW1; clear q_HW1; clear hb))
              go_ret
              exact ⟨rfl, HW1.out⟩
            · have hbig2 : decide ((y.toNat : Int) > 127) = false := decide_eq_false hbig
              have hbig3 : ¬ 127 < y.toNat := by omega
              go_wp2_with fail
              go_roundg ko
              case measure => omega
              case rel =>
                refine ⟨i + 1, by go_num, ⟨by omega⟩, ⟨fun j hj h => ?_⟩, HB3, HOT⟩
                by_cases e : j = i
                · subst e; rw [HYL.out h]; exact Nat.lt_of_not_le (fun h5 => hbig3 h5)
                · exact HASC.out j (by omega) h
          | zero =>
            obtain rfl : i = str.size := by omega
            have hlt3 : decide ((str.size : Int) < (str.size : Int)) = false := decide_eq_false (by omega)
            obtain ⟨has, hasl⟩ : Asc s ∧ AscL r := allB_asc (fun b hb => by
              rw [← HSB.out] at hb
              obtain ⟨j, hj, rfl⟩ := List.getElem_of_mem hb
              exact HASC.out j (by rw [size_list]; exact hj) hj)
            obtain ⟨n, hlk, hn⟩ := low_ev k 5 (by omega) (by omega)
            have HLK := Aside0.mk (show inkhornlaw0_Low.f k 5 = some (n : Int) from hlk)
            obtain ⟨K, ns, ns', a, hB, hB', hnn, hal, hax, hN, hN'⟩ := ren_facts HSR.out HGR0.out hasl has (by omega) n (by omega)
            have HBD := Aside0.mk hB
            have HBD' := Aside0.mk hB'
            have HN := Aside0.mk hN
            have HN' := Aside0.mk hN'
            have HAX := Aside0.mk hax
            have HAS := Aside0.mk has
            have HOU := Aside0.mk (show Kd.R Kd.string 9 wr w3.heap.size (fun _ => True) u9 (r.map up) by have := HOT.out; rwa [map_upS hasl] at this)
            have hs1000 : s.size ≤ 1000 := by omega
            obtain ⟨b, hbm⟩ : ∃ b, a.map upI = b := ⟨_, rfl⟩
            have HBM := Aside0.mk hbm
            have hbl : b.length = a.length := by rw [← hbm, List.length_map]
            obtain ⟨ru, hru⟩ : ∃ ru, r.map up = ru := ⟨_, rfl⟩
            rw [hru] at HOU HBD'
            rw [hbm] at HN'
            obtain ⟨A9, c9, e9⟩ := Kd.R_slice HOU.out
            subst e9
            clear hlk hB hB' hN hN' hax has hasl HOT HSB HASC HI hi hlong hlong2 hlong3 hbm hru hr40 hr2
            have HW1 := Aside0.mk (below_step HW.out HB3.out)
            have HO1 := Aside0.mk (Kd.R_below HO.out HB3.out)
            clear HW HO HB3
            go_wp2_with (first | ((with_reducible refine gate_callee (f := 20) rfl ?_); (try (refine gate_guard (by rfl) ?_; dsimp only)); refine goesL_ (some 68) rfl rfl Try.func20 (by kernel_rfl) rfl #[.int .i64 k, .int .i64 5] rfl (by (try simp only [List.map_toArray, List.map_cons, List.map_nil]); first | done | rfl) ?_; (with_reducible refine (inkhornlaw0_Low.calls k 5 (n : Int) _ HLK.out).mono ?_); rintro e w5 ⟨rfl, hd⟩; refine ⟨_, rfl, ?_⟩; have hb := hd.below; have q_HW1 := Aside0.mk (below_step HW1.out hb); clear HW1; have HW1 := q_HW1; clear q_HW1; have q_HO1 := Aside0.mk (Kd.R_below HO1.out hb); clear HO1; have HO1 := q_HO1; clear q_HO1; have q_HOU := Aside0.mk (Kd.R_below HOU.out hb); clear HOU; have HOU := q_HOU; clear q_HOU; clear hb hd) | ((with_reducible refine gate_callee (f := 14) rfl ?_); (try (refine gate_guard (by rfl) ?_; dsimp only)); refine goesL_ (some 71) rfl rfl Try.func14 (by kernel_rfl) rfl #[.slice A3 r.length c3] rfl (by (try simp only [List.map_toArray, List.map_cons, List.map_nil]); first | done | rfl) ?_; (with_reducible refine (graph_Build.calls K A3 c3 r ns _ (Kd.R_reads' HO1.out).2.2 (Kd.R_reads' HO1.out).2.1 HBD.out).mono ?_); rintro e w6 ⟨g, rfl, _, hgr, hb⟩; refine ⟨_, rfl, ?_⟩; have q_HW1 := Aside0.mk (below_step HW1.out hb); clear HW1; have HW1 := q_HW1; clear q_HW1; have q_HO1 := Aside0.mk (Kd.R_below HO1.out hb); clear HO1; have HO1 := q_HO1; clear q_HO1; have q_HOU := Aside0.mk (Kd.R_below HOU.out hb); clear HOU; have HOU := q_HOU; clear q_HOU; have HG1 := Aside0.mk (hgr); clear hgr; clear hb) | ((with_reducible refine gate_callee (f := 14) rfl ?_); (try (refine gate_guard (by rfl) ?_; dsimp only)); refine goesL_ (some 76) rfl rfl Try.func14 (by kernel_rfl) rfl #[.slice A9 ru.length c9] rfl (by (try simp only [List.map_toArray, List.map_cons, List.map_nil]); first | done | rfl) ?_; (with_reducible refine (graph_Build.calls K A9 c9 ru ns' _ (Kd.R_reads' HOU.out).2.2 (Kd.R_reads' HOU.out).2.1 HBD'.out).mono ?_); rintro e w7 ⟨g2, rfl, _, hgr, hb⟩; refine ⟨_, rfl, ?_⟩; have q_HW1 := Aside0.mk (below_step HW1.out hb); clear HW1; have HW1 := q_HW1; clear q_HW1; have q_HO1 := Aside0.mk (Kd.R_below HO1.out hb); clear HO1; have HO1 := q_HO1; clear q_HO1; have q_HOU := Aside0.mk (Kd.R_below HOU.out hb); clear HOU; have HOU := q_HOU; clear q_HOU; have q_HG1 := Aside0.mk (HG1.out.below hb); clear HG1; have HG1 := q_HG1; clear q_HG1; have HG2 := Aside0.mk (hgr); clear hgr; clear hb) | ((with_reducible refine gate_callee (f := 33) rfl ?_); (try (refine gate_guard (by rfl) ?_; dsimp only)); refine goesL_ (some 87) rfl rfl Try.func33 (by kernel_rfl) rfl #[.pointer (some ⟨g, 0, none⟩)] rfl (by (try simp only [List.map_toArray, List.map_cons, List.map_nil]); first | done | rfl) ?_; (with_reducible refine (graph_Nodes.calls g ns _ HG1.out).mono ?_); rintro e w7b ⟨rfl, hw⟩; subst hw; refine ⟨_, rfl, ?_⟩) | ((with_reducible refine gate_callee (f := 33) rfl ?_); (try (refine gate_guard (by rfl) ?_; dsimp only)); refine goesL_ (some 89) rfl rfl Try.func33 (by kernel_rfl) rfl #[.pointer (some ⟨g2, 0, none⟩)] rfl (by (try simp only [List.map_toArray, List.map_cons, List.map_nil]); first | done | rfl) ?_; (with_reducible refine (graph_Nodes.calls g2 ns' _ HG2.out).mono ?_); rintro e w7c ⟨rfl, hw⟩; subst hw; refine ⟨_, rfl, ?_⟩) | ((with_reducible refine gate_callee (f := 15) rfl ?_); (try (refine gate_guard (by rfl) ?_; dsimp only)); refine goesL_ (some 97) rfl rfl Try.func15 (by kernel_rfl) rfl #[.pointer (some ⟨g, 0, none⟩), .string s, .int .i64 (n : Int), .bool true, .agg #[.int .i64 0, .string ⟨#[]⟩], .int .i64 60] rfl (by (try simp only [List.map_toArray, List.map_cons, List.map_nil]); first | done | rfl) ?_; (with_reducible refine (walk_Next.calls K g ns s (n : Int) true ⟨0, ⟨#[]⟩⟩ 60 a true _ HG1.out HN.out).mono ?_); rintro e w8 ⟨v8, rfl, ho, hb⟩; refine ⟨_, rfl, ?_⟩; have q_HW1 := Aside0.mk (below_step HW1.out hb); clear HW1; have HW1 := q_HW1; clear q_HW1; have q_HO1 := Aside0.mk (Kd.R_below HO1.out hb); clear HO1; have HO1 := q_HO1; clear q_HO1; have q_HOU := Aside0.mk (Kd.R_below HOU.out hb); clear HOU; have HOU := q_HOU; clear q_HOU; have q_HG1 := Aside0.mk (HG1.out.below hb); clear HG1; have HG1 := q_HG1; clear q_HG1; have q_HG2 := Aside0.mk (HG2.out.below hb); clear HG2; have HG2 := q_HG2; clear q_HG2; have HA1 := Aside0.mk (ho); obtain ⟨A7, c7, e7⟩ := Kd.R_slice ho; subst e7; clear ho; clear hb) | ((with_reducible refine gate_callee (f := 32) rfl ?_); (try (refine gate_guard (by rfl) ?_; dsimp only)); refine goesL_ (some 103) rfl rfl Try.func32 (by kernel_rfl) rfl #[.string s] rfl (by (try simp only [List.map_toArray, List.map_cons, List.map_nil]); first | done | rfl) ?_; (with_reducible refine (up_asc s HAS.out hs1000 _).mono ?_); rintro e w8b ⟨rfl, hb⟩; refine ⟨_, rfl, ?_⟩; have q_HW1 := Aside0.mk (below_step HW1.out hb); clear HW1; have HW1 := q_HW1; clear q_HW1; have q_HO1 := Aside0.mk (Kd.R_below HO1.out hb); clear HO1; have HO1 := q_HO1; clear q_HO1; have q_HOU := Aside0.mk (Kd.R_below HOU.out hb); clear HOU; have HOU := q_HOU; clear q_HOU; have q_HG1 := Aside0.mk (HG1.out.below hb); clear HG1; have HG1 := q_HG1; clear q_HG1; have q_HG2 := Aside0.mk (HG2.out.below hb); clear HG2; have HG2 := q_HG2; clear q_HG2; have q_HA1 := Aside0.mk (Kd.R_below HA1.out hb); clear HA1; have HA1 := q_HA1; clear q_HA1; clear hb) | ((with_reducible refine gate_callee (f := 15) rfl ?_); (try (refine gate_guard (by rfl) ?_; dsimp only)); refine goesL_ (some 106) rfl rfl Try.func15 (by kernel_rfl) rfl #[.pointer (some ⟨g2, 0, none⟩), .string (up s), .int .i64 (n : Int), .bool true, .agg #[.int .i64 0, .string ⟨#[]⟩], .int .i64 60] rfl (by (try simp only [List.map_toArray, List.map_cons, List.map_nil]); first | done | rfl) ?_; (with_reducible refine (walk_Next.calls K g2 ns' (up s) (n : Int) true ⟨0, ⟨#[]⟩⟩ 60 b true _ HG2.out HN'.out).mono ?_); rintro e w9 ⟨v9, rfl, ho, hb⟩; refine ⟨_, rfl, ?_⟩; have q_HW1 := Aside0.mk (below_step HW1.out hb); clear HW1; have HW1 := q_HW1; clear q_HW1; have q_HO1 := Aside0.mk (Kd.R_below HO1.out hb); clear HO1; have HO1 := q_HO1; clear q_HO1; have q_HOU := Aside0.mk (Kd.R_below HOU.out hb); clear HOU; have HOU := q_HOU; clear q_HOU; have q_HG1 := Aside0.mk (HG1.out.below hb); clear HG1; have HG1 := q_HG1; clear q_HG1; have q_HG2 := Aside0.mk (HG2.out.below hb); clear HG2; have HG2 := q_HG2; clear q_HG2; have q_HA1 := Aside0.mk (Kd.R_below HA1.out hb); clear HA1; have HA1 := q_HA1; clear q_HA1; have HA2 := Aside0.mk (ho); obtain ⟨A8, c8, e8⟩ := Kd.R_slice ho; subst e8; clear ho; clear hb))
            go_loopg [20] a.length (fun kq v20 W => ∃ (i : Nat), v20 = .int .i64 i ∧ Aside0 (i + kq = a.length) ∧ Aside0 (Below w9.heap.size w9 W))
            case atStart => exact ⟨0, rfl, ⟨by omega⟩, ⟨Below.refl _ _⟩⟩
            case round =>
              obtain ⟨i, rfl, HI, HB9⟩ := hrel
              have hi := HI.out
              have hb9 := HB9.out
              have HW2 := Aside0.mk (below_step HW1.out hb9)
              have HP1 := Aside0.mk (Kd.R_below HA1.out hb9)
              have HP2 := Aside0.mk (Kd.R_below HA2.out hb9)
              clear hb9
              cases gk with
              | zero =>
                obtain rfl : i = a.length := by omega
                have hlt4 : decide ((a.length : Int) < (a.length : Int)) = false := decide_eq_false (by omega)
                go_wp2_with (first | ((with_reducible refine gate_callee (f := 13) rfl ?_); (try (refine gate_guard (by rfl) ?_; dsimp only)); refine goesL_ (some 142) rfl rfl Try.func13 (by kernel_rfl) rfl #[] rfl (by (try simp only [List.map_toArray, List.map_cons, List.map_nil]); first | done | rfl) ?_; (with_reducible refine (awake_calls _).mono ?_); rintro e w11 ⟨rfl, hb⟩; refine ⟨_, rfl, ?_⟩; have q_HW2 := Aside0.mk (below_step HW2.out hb); clear HW2; have HW2 := q_HW2; clear q_HW2; clear hb))
                go_ret
                exact ⟨rfl, HW2.out⟩
              | succ ko =>
                have hil : i < a.length := by omega
                have hil2 : decide ((i : Int) < (a.length : Int)) = true := decide_eq_true (by omega)
                have hh0 : (0 : Int) ≤ (i : Int) := by omega
                have hh1 : (i : Int) < (a.length : Int) := by omega
                obtain ⟨x, hx⟩ : ∃ x, a[i]? = some x := ⟨a[i], List.getElem?_eq_getElem hil⟩
                have hxm : x ∈ a := List.mem_of_getElem? hx
                obtain ⟨hxa, hxs⟩ := HAX.out x hxm
                have hxs2 : x.f1.size ≤ 1000 := by omega
                have hy : b[i]? = some (upI x) := by rw [← HBM.out, List.getElem?_map, hx]; rfl
                obtain ⟨g1, cg1, e1, _, _, _, _⟩ := Kd.R_form HP1.out (by omega)
                injection e1 with e1 _ e1c
                subst e1
                subst e1c
                obtain ⟨g2b, cg2, e2, _, _, _, _⟩ := Kd.R_form HP2.out (by omega)
                injection e2 with e2 _ e2c
                subst e2
                subst e2c
                obtain ⟨ax0, ax1⟩ := rowI_by HP1.out i hil x hx
                obtain ⟨by0, by1⟩ := rowI_by HP2.out i (by omega) (upI x) hy
                have by0' : ∀ p : BelowBy wr, p.wd.cell? ⟨g2b, i * 2, none⟩ = some (.int .i64 x.f0) := by0
                have by1' : ∀ p : BelowBy wr, p.wd.cell? ⟨g2b, i * 2 + 1, none⟩ = some (.string (up x.f1)) := by1
                have mixed : Try.prog.follows .mixedOrders = true := by kernel_rfl
                have eg : ∀ args w, (callFunc 32 args).run Try.prog w = .ok (.enter 32 args) w := enters_of Try.func32 (by kernel_rfl) rfl
                have HXA := Aside0.mk hxa
                have hu24 := Try.underlying24
                clear hx hxm hxa hxs hy by0 by1
                obtain ⟨d, t⟩ := x
                dsimp only at ax0 ax1 by0' by1' hxs2
                go_wp2_with fail
                refine wp_region_quiet_by mixed (by kernel_rfl) ?_
                repeat (quiet_step (first | (go_at_fn 32; refine calls_by (up_asc t HXA.out hxs2 _))))
                refine wpQuiet_nil ?_
                intro _ hw'
                obtain ⟨⟨w10, hb10⟩, hw''⟩ := hw'
                subst hw''
                have HB10 := Aside0.mk (below_step HB9.out hb10)
                clear ax0 ax1 by0' by1' hb10
                go_wp2
                go_roundg ko
                case measure => omega
                case rel => exact ⟨i + 1, by go_num, ⟨by omega⟩, HB10⟩
end Go.Proofs.Ytklidannncajiaa.OW
