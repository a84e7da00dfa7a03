/- What the row of the law WalkBatches leans on: contracts of functions and plain laws, each for all inputs that its own theorem names. -/
import Derived.Test.YtklidannncajiaaBa14
import Derived.Sort.WalkA
import Derived.Outline
import Derived.Deep.CutRange
namespace Go.Proofs.Ytklidannncajiaa.OW
open Go.RowKit Go.Lib Go.Sort Go.Proofs.YtklidannncajiaaW.PrintWords Go.Proofs.YtklidannncajiaaW.PrintLast Go.Proofs.YtklidannncajiaaW.PrintMore
set_option linter.unusedVariables false
set_option linter.unusedSimpArgs false

instance (w : World) : Inhabited (BelowBy w) := ⟨⟨w, Below.refl _ _⟩⟩
theorem wp_region_quiet_by {P : Program} {id : Nat} {Q : Exit → Act → World → Prop} {a : Act} {w : World} {l : List Oper} (hm : P.follows .mixedOrders = true) (hB : Region.lexB .any l.toArray = true)
    (h : wpQuiet P l.toArray (fun w' => ∃ p : BelowBy w, w' = p.wd) (fun a' => ∀ w', (∃ p : BelowBy w, w' = p.wd) → Q .normal a' w') l a) : (Code.region id l.toArray true).wp P Q a w :=
  wp_region_quiet (C := fun w' => ∃ p : BelowBy w, w' = p.wd) hm hB ⟨⟨w.drew, below_drew (Below.refl _ _)⟩, rfl⟩ (by simpa using h)
theorem calls_by {P : Program} {f : FuncId} {args : Array Value} {w : World} {p : BelowBy w} {v : Value}
    (h : Calls P f args p.wd fun e w' => e = .returned v ∧ Below p.wd.heap.size p.wd w') : Calls P f args p.wd fun e w'' => e = .returned v ∧ ∃ q : BelowBy w, w'' = q.wd :=
  h.mono fun _ _ ⟨he, hb⟩ => ⟨he, ⟨⟨_, below_step p.be hb⟩, rfl⟩⟩
/-- The contract of the comparison that is handed in (function 60). -/
def CmpB (cf : S24 → S24 → Int) : Prop := ∀ (x y : S24) (W : World), Calls Try.prog 60 #[.agg #[.int .i64 x.f0, .string x.f1], .agg #[.int .i64 y.f0, .string y.f1]] W fun e w' => e = .returned (.int .i64 (cf x y)) ∧ Below W.heap.size W w'
theorem SI.by_ {w0 W : World} {base g n cap : Nat} {ok : Nat → Prop} {xs : Array S24} (h : SI w0 base g n cap ok xs W) (i : Nat) (hi : i < n) : (∀ p : BelowBy W, p.wd.cell? ⟨g, i * 2, none⟩ = some (.int .i64 xs[i]!.f0)) ∧ ∀ p : BelowBy W, p.wd.cell? ⟨g, i * 2 + 1, none⟩ = some (.string xs[i]!.f1) :=
  ⟨fun p => ((h.below p.be).at_ i hi).1, fun p => ((h.below p.be).at_ i hi).2⟩
set_option maxHeartbeats 4000000 in
set_option maxRecDepth 100000 in
theorem insertion_calls {cf : S24 → S24 → Int} (hcmp : CmpB cf) (hS : SWO (ltOf cf)) {w0 w : World} {base g n cap : Nat} {ok : Nat → Prop} {xs : Array S24} (a b : Nat) (hab : a ≤ b) (hb : b ≤ n) (hn : n ≤ 1000) (S : SI w0 base g n cap ok xs w) :
    Calls Try.prog 105 #[.slice (some ⟨g, 0, none⟩) n cap, .int .i64 a, .int .i64 b, .func (.func 60) #[] #[]] w fun e w' => e = .returned (.tuple #[]) ∧ ∃ ys, SI w0 base g n cap ok ys w' ∧ PermIn a b xs ys ∧ SortedIn (ltOf cf) a b ys := by
  have hu24 := Try.underlying24
  have mixed : Try.prog.follows .mixedOrders = true := by kernel_rfl
  have eg : ∀ args w, (callFunc 60 args).run Try.prog w = .ok (.enter 60 args) w := enters_of Try.func60 (by kernel_rfl) rfl
  have HC := Aside0.mk hcmp
  have S0 := Aside0.mk S
  have hxs := S.len
  have HEND := Aside0.mk (insertionSort_holds hS xs a b hab (by omega))
  clear S hcmp
  go_enter Try.func105, Try.ntmps105
  go_wp2_with fail
  go_loopg [8] (b - a) (fun kq v8 W => ∃ (i : Nat) (ys : Array S24), v8 = .int .i64 i ∧ Aside0 (a < i ∧ i ≤ b + 1 ∧ b + 1 - i ≤ kq + 1) ∧ Aside0 (SI w0 base g n cap ok ys W) ∧ Aside0 (insOuter (ltOf cf) a b i ys = insOuter (ltOf cf) a b (a + 1) xs))
  case atStart => exact ⟨a + 1, xs, by go_num, ⟨by omega⟩, S0, ⟨rfl⟩⟩
  case round =>
    obtain ⟨i, ys, rfl, HI, S1, HO⟩ := hrel
    obtain ⟨h1, h2, h3⟩ := HI.out
    have hys := S1.out.len
    by_cases hlt : i < b
    · have hltz : (i : Int) < (b : Int) := by omega
      go_wp2_with fail
      go_loopg [9] i (fun kq2 v9 W2 => ∃ (j : Nat) (zs : Array S24), v9 = .int .i64 j ∧ Aside0 (a ≤ j ∧ j ≤ i ∧ j ≤ kq2) ∧ Aside0 (SI w0 base g n cap ok zs W2) ∧ Aside0 (insInner (ltOf cf) a j zs = insInner (ltOf cf) a i ys))
      case atStart => exact ⟨i, ys, rfl, ⟨by omega⟩, S1, ⟨rfl⟩⟩
      case round =>
        obtain ⟨j, zs, rfl, HJ, S2, HI2⟩ := hrel
        obtain ⟨k1, k2, k3⟩ := HJ.out
        have hzs := S2.out.len
        have OUT := Aside0.mk (show (j ≤ a ∨ ltOf cf zs[j]! zs[j - 1]! = false) → insOuter (ltOf cf) a b (i + 1) zs = insOuter (ltOf cf) a b (a + 1) xs from fun hs => by
          rw [← HO.out, insOuter_go _ _ _ _ _ hlt, ← HI2.out, insInner_stop _ _ _ _ hs])
        by_cases hja : a < j
        · have hjaz : (a : Int) < (j : Int) := by omega
          obtain ⟨jp, rfl⟩ : ∃ jp, j = jp + 1 := ⟨j - 1, by omega⟩
          have hjaz' : (a : Int) < (jp : Int) + 1 := by omega
          have hjaz2 : decide ((jp : Int) + 1 > (a : Int)) = true := decide_eq_true (by omega)
          cases hl : ltOf cf zs[jp + 1]! zs[jp]! with
          | true =>
            have HL1 := Aside0.mk hl
            clear hl
            have pi1 : (0 : Int) ≤ (jp : Int) + 1 := by omega
            have qi1 : (jp : Int) + 1 < (n : Int) := by omega
            have ei1 : ((jp : Int) + 1).toNat = jp + 1 := by omega
            have ri1 : IntKind.i64.wrap ((jp : Int) + 1) = (jp : Int) + 1 := by rw [IntKind.wrap_i64]; omega
            have pj1 : (0 : Int) ≤ (jp : Int) := by omega
            have qj1 : (jp : Int) < (n : Int) := by omega
            have ej1 : ((jp : Int)).toNat = jp := by omega
            have rj1 : IntKind.i64.wrap ((jp : Int)) = (jp : Int) := by rw [IntKind.wrap_i64]; omega
            obtain ⟨ai1, bi1⟩ := S2.out.by_ (jp + 1) (by omega)
            obtain ⟨aj1, bj1⟩ := S2.out.by_ (jp) (by omega)
            have hc1 : cf zs[jp + 1]! zs[jp]! < 0 := of_decide_eq_true HL1.out
            generalize zs[jp + 1]! = x1 at ai1 bi1 hc1
            generalize zs[jp]! = y1 at aj1 bj1 hc1
            have hd1 : decide (cf x1 y1 < 0) = true := decide_eq_true hc1
            go_wp2_with fail
            refine wp_region_quiet_by mixed (by kernel_rfl) ?_
            repeat (quiet_step (first | (go_at_fn 60; refine calls_by (HC.out x1 y1 _))))
            refine wpQuiet_nil ?_
            intro _ hw'
            obtain ⟨⟨w3, hb1⟩, hw''⟩ := hw'
            subst hw''
            have S3 := Aside0.mk (S2.out.below hb1)
            clear ai1 bi1 aj1 bj1 hb1 S2
            go_wp2_with fail
            have S4 := Aside0.mk (S3.out.swapped (jp + 1) (jp) (by omega) (by omega)).drew
            obtain ⟨ai2, bi2⟩ := S3.out.at_ (jp + 1) (by omega)
            obtain ⟨aj2, bj2⟩ := S3.out.at_ (jp) (by omega)
            have fi2 := S3.out.frozen ((jp + 1) * 2)
            have gi2 := S3.out.frozen ((jp + 1) * 2 + 1)
            have fj2 := S3.out.frozen ((jp) * 2)
            have gj2 := S3.out.frozen ((jp) * 2 + 1)
            generalize hu2 : zs[jp + 1]! = u2 at ai2 bi2 S4
            generalize hv2 : zs[jp]! = v2 at aj2 bj2 S4
            go_wp2_with fail
            go_big_region_o
            all_goals go_wp2
            clear ai2 bi2 aj2 bj2 fi2 gi2 fj2 gj2 S3
            go_roundg jp
            case measure => omega
            case rel =>
              refine ⟨jp, swp zs (jp + 1) jp, by first | rfl | go_num | (congr 1; omega), ⟨by omega⟩, S4, ⟨?_⟩⟩
              have := insInner_go (ltOf cf) a (jp + 1) zs hja (by simp only [Nat.add_sub_cancel]; exact HL1.out)
              simp only [Nat.add_sub_cancel] at this
              rw [← HI2.out, this]
          | false =>
            have HL1 := Aside0.mk hl
            clear hl
            have pi1 : (0 : Int) ≤ (jp : Int) + 1 := by omega
            have qi1 : (jp : Int) + 1 < (n : Int) := by omega
            have ei1 : ((jp : Int) + 1).toNat = jp + 1 := by omega
            have ri1 : IntKind.i64.wrap ((jp : Int) + 1) = (jp : Int) + 1 := by rw [IntKind.wrap_i64]; omega
            have pj1 : (0 : Int) ≤ (jp : Int) := by omega
            have qj1 : (jp : Int) < (n : Int) := by omega
            have ej1 : ((jp : Int)).toNat = jp := by omega
            have rj1 : IntKind.i64.wrap ((jp : Int)) = (jp : Int) := by rw [IntKind.wrap_i64]; omega
            obtain ⟨ai1, bi1⟩ := S2.out.by_ (jp + 1) (by omega)
            obtain ⟨aj1, bj1⟩ := S2.out.by_ (jp) (by omega)
            have hc1 : ¬ cf zs[jp + 1]! zs[jp]! < 0 := of_decide_eq_false HL1.out
            generalize zs[jp + 1]! = x1 at ai1 bi1 hc1
            generalize zs[jp]! = y1 at aj1 bj1 hc1
            have hd1 : decide (cf x1 y1 < 0) = false := decide_eq_false hc1
            go_wp2_with fail
            refine wp_region_quiet_by mixed (by kernel_rfl) ?_
            repeat (quiet_step (first | (go_at_fn 60; refine calls_by (HC.out x1 y1 _))))
            refine wpQuiet_nil ?_
            intro _ hw'
            obtain ⟨⟨w3, hb1⟩, hw''⟩ := hw'
            subst hw''
            have S3 := Aside0.mk (S2.out.below hb1)
            clear ai1 bi1 aj1 bj1 hb1 S2
            go_wp2
            go_roundg (b - (i + 1))
            case measure => omega
            case rel => exact ⟨i + 1, zs, by go_num, ⟨by omega⟩, S3, ⟨OUT.out (Or.inr (by simp only [Nat.add_sub_cancel]; exact HL1.out))⟩⟩
        · have hjaz : decide ((j : Int) > (a : Int)) = false := decide_eq_false (by omega)
          have hjaz' : ¬ (a : Int) < (j : Int) := by omega
          have S3 := Aside0.mk S2.out.drew
          go_wp2_with fail
          go_big_region_o
          all_goals go_wp2
          go_roundg (b - (i + 1))
          case measure => omega
          case rel => exact ⟨i + 1, zs, by go_num, ⟨by omega⟩, S3, ⟨OUT.out (Or.inl (by omega))⟩⟩
    · have hltz : ¬ (i : Int) < (b : Int) := by omega
      go_wp2
      go_end0
      have hfin : ys = Sort.insertionSort (ltOf cf) xs a b := by unfold Sort.insertionSort; rw [← HO.out, insOuter_stop _ _ _ _ _ hlt]
      refine ⟨rfl, ys, S1.out, ?_⟩
      rw [hfin]
      exact HEND.out
end Go.Proofs.Ytklidannncajiaa.OW

namespace Go.Proofs.Ytklidannncajiaa.OW
open Go.RowKit Go.Lib Go.Sort Go.Proofs.YtklidannncajiaaW.PrintWords Go.Proofs.YtklidannncajiaaW.PrintLast Go.Proofs.YtklidannncajiaaW.PrintMore
set_option linter.unusedVariables false
set_option linter.unusedSimpArgs false

theorem rot_none (f : Nat → S24) (s m e t : Nat) (h1 : s ≤ m) (h2 : m ≤ e) (h : s = m ∨ m = e) : rot f s m e t = f t := by
  unfold rot
  by_cases c : t < s ∨ e ≤ t
  · rw [if_pos c]
  · rw [if_neg c]
    by_cases c2 : t < s + (e - m)
    · rw [if_pos c2]; congr 1; omega
    · rw [if_neg c2]; congr 1; omega
theorem asym_ {lt : S24 → S24 → Bool} (hS : SWO lt) {x y : S24} (h : lt x y = true) : lt y x = false := by
  cases hb : lt y x with
  | false => rfl
  | true => exact absurd (hS.trans _ _ _ h hb) (by rw [hS.irrefl]; decide)
theorem le_tr {lt : S24 → S24 → Bool} (hS : SWO lt) : ∀ x y w : S24, lt y x = false → lt w y = false → lt w x = false := fun x y w h1 h2 => hS.ntrans _ _ _ h2 h1

set_option maxHeartbeats 16000000 in
set_option maxRecDepth 100000 in
theorem smA {cf : S24 → S24 → Int} (hcmp : CmpB cf) (hS : SWO (ltOf cf)) {w0 : World} {base g n cap : Nat} {ok : Nat → Prop} (hn : n ≤ 1000) (xs : Array S24) (w : World) (a m b : Nat) (c1 : (m : Int) - (a : Int) = 1) (ham : a < m) (hmb : m < b) (hbn : b ≤ n) (S : SI w0 base g n cap ok xs w) (hA : SortedIn (ltOf cf) a m xs) (hB : SortedIn (ltOf cf) m b xs) : Calls Try.prog 106 #[.slice (some ⟨g, 0, none⟩) n cap, .int .i64 a, .int .i64 m, .int .i64 b, .func (.func 60) #[] #[]] w fun e w' => e = .returned (.tuple #[]) ∧ ∃ ys, SI w0 base g n cap ok ys w' ∧ PermIn a b xs ys ∧ SortedIn (ltOf cf) a b ys := by
    have hu24 := Try.underlying24
    have mixed : Try.prog.follows .mixedOrders = true := by kernel_rfl
    have eg : ∀ args w, (callFunc 60 args).run Try.prog w = .ok (.enter 60 args) w := enters_of Try.func60 (by kernel_rfl) rfl
    have HC := Aside0.mk hcmp
    have HSW := Aside0.mk hS
    have S0 := Aside0.mk S
    have hxs := S.len
    have HA := Aside0.mk hA
    have HB := Aside0.mk hB
    clear S hA hB
    go_enter Try.func106, Try.ntmps106
    · have c1d : decide ((m : Int) - (a : Int) = 1) = true := decide_eq_true c1
      have c1b : ((m : Int) - (a : Int) == 1) = true := by simp [c1]
      go_wp2_with fail
      go_loopg [10, 11] (b - m) (fun kq v10 v11 W => ∃ (i j : Nat), v10 = .int .i64 i ∧ v11 = .int .i64 j ∧ Aside0 (m ≤ i ∧ i ≤ j ∧ j ≤ b ∧ j - i ≤ kq) ∧ Aside0 (∀ t, m ≤ t → t < i → ltOf cf xs[t]! xs[a]! = true) ∧ Aside0 (∀ t, j ≤ t → t < b → ltOf cf xs[t]! xs[a]! = false) ∧ Aside0 (SI w0 base g n cap ok xs W))
      case atStart => exact ⟨m, b, rfl, rfl, ⟨by omega⟩, ⟨fun t h1 h2 => by omega⟩, ⟨fun t h1 h2 => by omega⟩, S0⟩
      case round =>
        obtain ⟨i, j, rfl, rfl, HI, HL, HH, S1⟩ := hrel
        obtain ⟨h1, h2, h3, h4⟩ := HI.out
        by_cases hlt : i < j
        · have hlt2 : decide ((i : Int) < (j : Int)) = true := decide_eq_true (by omega)
          cases gk with
          | zero => omega
          | succ ko =>
            go_upto_region 5 with fail
            obtain ⟨h, hh⟩ : ∃ h : Nat, ((i : Int) + (j : Int)) / 2 = (h : Int) := ⟨(i + j) / 2, by omega⟩
            have hih : i ≤ h := by omega
            have hhj : h < j := by omega
            rw [hh]
            clear hh
            cases hl : ltOf cf xs[h]! xs[a]! with
        | true =>
          have HL1 := Aside0.mk hl
          clear hl
          have pi1 : (0 : Int) ≤ (h : Int) := by omega
          have qi1 : (h : Int) < (n : Int) := by omega
          have ei1 : ((h : Int)).toNat = h := by omega
          have ri1 : IntKind.i64.wrap ((h : Int)) = (h : Int) := by rw [IntKind.wrap_i64]; omega
          have pj1 : (0 : Int) ≤ (a : Int) := by omega
          have qj1 : (a : Int) < (n : Int) := by omega
          have ej1 : ((a : Int)).toNat = a := by omega
          have rj1 : IntKind.i64.wrap ((a : Int)) = (a : Int) := by rw [IntKind.wrap_i64]; omega
          obtain ⟨ai1, bi1⟩ := S1.out.by_ (h) (by omega)
          obtain ⟨aj1, bj1⟩ := S1.out.by_ (a) (by omega)
          have hc1 : cf xs[h]! xs[a]! < 0 := of_decide_eq_true HL1.out
          generalize xs[h]! = x1 at ai1 bi1 hc1
          generalize xs[a]! = y1 at aj1 bj1 hc1
          have hd1 : decide (cf x1 y1 < 0) = true := decide_eq_true hc1
          go_wp2_with fail
          refine wp_region_quiet_by mixed (by kernel_rfl) ?_
          repeat (quiet_step (first | (go_at_fn 60; refine calls_by (HC.out x1 y1 _))))
          refine wpQuiet_nil ?_
          intro _ hw'
          obtain ⟨⟨w3, hb1⟩, hw''⟩ := hw'
          subst hw''
          have S2 := Aside0.mk (S1.out.below hb1)
          clear ai1 bi1 aj1 bj1 hb1 S1
          go_wp2
          go_roundg ko
          case measure => omega
          case rel =>
            refine ⟨h + 1, j, by go_num, rfl, ⟨by omega⟩, ⟨fun t ht1 ht2 => ?_⟩, HH, S2⟩
            by_cases e : t = h
            · rw [e]; exact HL1.out
            · cases hb : ltOf cf xs[t]! xs[a]! with
              | true => rfl
              | false => exact absurd (HSW.out.ntrans _ _ _ (HB.out t h ht1 (by omega) (by omega)) hb) (by rw [HL1.out]; decide)
        | false =>
          have HL1 := Aside0.mk hl
          clear hl
          have pi1 : (0 : Int) ≤ (h : Int) := by omega
          have qi1 : (h : Int) < (n : Int) := by omega
          have ei1 : ((h : Int)).toNat = h := by omega
          have ri1 : IntKind.i64.wrap ((h : Int)) = (h : Int) := by rw [IntKind.wrap_i64]; omega
          have pj1 : (0 : Int) ≤ (a : Int) := by omega
          have qj1 : (a : Int) < (n : Int) := by omega
          have ej1 : ((a : Int)).toNat = a := by omega
          have rj1 : IntKind.i64.wrap ((a : Int)) = (a : Int) := by rw [IntKind.wrap_i64]; omega
          obtain ⟨ai1, bi1⟩ := S1.out.by_ (h) (by omega)
          obtain ⟨aj1, bj1⟩ := S1.out.by_ (a) (by omega)
          have hc1 : ¬ cf xs[h]! xs[a]! < 0 := of_decide_eq_false HL1.out
          generalize xs[h]! = x1 at ai1 bi1 hc1
          generalize xs[a]! = y1 at aj1 bj1 hc1
          have hd1 : decide (cf x1 y1 < 0) = false := decide_eq_false hc1
          go_wp2_with fail
          refine wp_region_quiet_by mixed (by kernel_rfl) ?_
          repeat (quiet_step (first | (go_at_fn 60; refine calls_by (HC.out x1 y1 _))))
          refine wpQuiet_nil ?_
          intro _ hw'
          obtain ⟨⟨w3, hb1⟩, hw''⟩ := hw'
          subst hw''
          have S2 := Aside0.mk (S1.out.below hb1)
          clear ai1 bi1 aj1 bj1 hb1 S1
          go_wp2
          go_roundg ko
          case measure => omega
          case rel =>
            refine ⟨i, h, rfl, rfl, ⟨by omega⟩, HL, ⟨fun t ht1 ht2 => ?_⟩, S2⟩
            by_cases e : t = h
            · rw [e]; exact HL1.out
            · exact HSW.out.ntrans _ _ _ (HB.out h t (by omega) (by omega) ht2) HL1.out
        · have hlt2 : decide ((i : Int) < (j : Int)) = false := decide_eq_false (by omega)
          obtain rfl : i = j := by omega
          go_wp2_with fail
          go_loopg [13] (i - 1 - a) (fun kq2 v13 W2 => ∃ (k : Nat) (ys : Array S24), v13 = .int .i64 k ∧ Aside0 (a ≤ k ∧ k + 1 ≤ i ∧ i - 1 - k ≤ kq2) ∧ Aside0 (SI w0 base g n cap ok ys W2) ∧ Aside0 (PermIn a b xs ys ∧ ∀ t, ys[t]! = upTo (fun t => xs[t]!) a k t))
          case atStart => exact ⟨a, xs, rfl, ⟨by omega⟩, S1, ⟨permIn_refl _ _ _, fun t => (upTo_zero _ _ _).symm⟩⟩
          case round =>
            obtain ⟨k, ys, rfl, HK, S2, HP⟩ := hrel
            obtain ⟨k1, k2, k3⟩ := HK.out
            have hys := S2.out.len
            by_cases hk : k + 1 < i
            · have hk2 : decide ((k : Int) < (i : Int) - 1) = true := decide_eq_true (by omega)
              cases gk with
              | zero => omega
              | succ ko2 =>
                go_wp2_with fail
                have pi2 : (0 : Int) ≤ (k : Int) := by omega
                have qi2 : (k : Int) < (n : Int) := by omega
                have ei2 : ((k : Int)).toNat = k := by omega
                have ri2 : IntKind.i64.wrap ((k : Int)) = (k : Int) := by rw [IntKind.wrap_i64]; omega
                have pj2 : (0 : Int) ≤ (k : Int) + 1 := by omega
                have qj2 : (k : Int) + 1 < (n : Int) := by omega
                have ej2 : ((k : Int) + 1).toNat = k + 1 := by omega
                have rj2 : IntKind.i64.wrap ((k : Int) + 1) = (k : Int) + 1 := by rw [IntKind.wrap_i64]; omega
                have S3 := Aside0.mk (S2.out.swapped (k) (k + 1) (by omega) (by omega)).drew
                obtain ⟨ai2, bi2⟩ := S2.out.at_ (k) (by omega)
                obtain ⟨aj2, bj2⟩ := S2.out.at_ (k + 1) (by omega)
                have fi2 := S2.out.frozen ((k) * 2)
                have gi2 := S2.out.frozen ((k) * 2 + 1)
                have fj2 := S2.out.frozen ((k + 1) * 2)
                have gj2 := S2.out.frozen ((k + 1) * 2 + 1)
                generalize hu2 : ys[k]! = u2 at ai2 bi2 S3
                generalize hv2 : ys[k + 1]! = v2 at aj2 bj2 S3
                go_wp2_with fail
                go_big_region_o
                all_goals go_wp2
                clear ai2 bi2 aj2 bj2 fi2 gi2 fj2 gj2 S2
                go_roundg ko2
                case measure => omega
                case rel => exact ⟨k + 1, swp ys k (k + 1), by go_num, ⟨by omega⟩, S3, ⟨permIn_trans _ _ _ _ _ HP.out.1 (swp_permIn _ _ _ _ _ (by omega) (by omega) (by omega) (by omega) (by omega)), upTo_swp xs ys a k (by omega) (by omega) (by omega) HP.out.2⟩⟩
            · have hk2 : decide ((k : Int) < (i : Int) - 1) = false := decide_eq_false (by omega)
              obtain rfl : k = i - 1 := by omega
              go_wp2_with fail
              (try simp only [Exit.inBlock, Exit.then]); refine bodyPost_ret (results_none rfl _ _ _) rfl ?_
              exact ⟨rfl, ys, S2.out, HP.out.1, upTo_seg (le := fun x y => ltOf cf y x = false) (i := i) (by omega) (by omega) (fun u v q1 q2 q3 => HB.out u v (by omega) q2 q3) (fun t q1 q2 => asym_ HSW.out (HL.out t (by omega) q2)) (fun t q1 q2 => HH.out t q1 q2) HP.out.2⟩
set_option maxHeartbeats 16000000 in
set_option maxRecDepth 100000 in
theorem smB {cf : S24 → S24 → Int} (hcmp : CmpB cf) (hS : SWO (ltOf cf)) {w0 : World} {base g n cap : Nat} {ok : Nat → Prop} (hn : n ≤ 1000) (xs : Array S24) (w : World) (a m b : Nat) (c1 : ¬ (m : Int) - (a : Int) = 1) (c2 : (b : Int) - (m : Int) = 1) (ham : a < m) (hmb : m < b) (hbn : b ≤ n) (S : SI w0 base g n cap ok xs w) (hA : SortedIn (ltOf cf) a m xs) (hB : SortedIn (ltOf cf) m b xs) : Calls Try.prog 106 #[.slice (some ⟨g, 0, none⟩) n cap, .int .i64 a, .int .i64 m, .int .i64 b, .func (.func 60) #[] #[]] w fun e w' => e = .returned (.tuple #[]) ∧ ∃ ys, SI w0 base g n cap ok ys w' ∧ PermIn a b xs ys ∧ SortedIn (ltOf cf) a b ys := by
      have hu24 := Try.underlying24
      have mixed : Try.prog.follows .mixedOrders = true := by kernel_rfl
      have eg : ∀ args w, (callFunc 60 args).run Try.prog w = .ok (.enter 60 args) w := enters_of Try.func60 (by kernel_rfl) rfl
      have HC := Aside0.mk hcmp
      have HSW := Aside0.mk hS
      have S0 := Aside0.mk S
      have hxs := S.len
      have HA := Aside0.mk hA
      have HB := Aside0.mk hB
      clear S hA hB
      go_enter Try.func106, Try.ntmps106
      have c1d : decide ((m : Int) - (a : Int) = 1) = false := decide_eq_false c1
      have c1b : ((m : Int) - (a : Int) == 1) = false := by simp [c1]
      · have c2d : decide ((b : Int) - (m : Int) = 1) = true := decide_eq_true c2
        have c2b : ((b : Int) - (m : Int) == 1) = true := by simp [c2]
        go_wp2_with fail
        go_loopg [14, 15] (m - a) (fun kq v14 v15 W => ∃ (i j : Nat), v14 = .int .i64 i ∧ v15 = .int .i64 j ∧ Aside0 (a ≤ i ∧ i ≤ j ∧ j ≤ m ∧ j - i ≤ kq) ∧ Aside0 (∀ t, a ≤ t → t < i → ltOf cf xs[m]! xs[t]! = false) ∧ Aside0 (∀ t, j ≤ t → t < m → ltOf cf xs[m]! xs[t]! = true) ∧ Aside0 (SI w0 base g n cap ok xs W))
        case atStart => exact ⟨a, m, rfl, rfl, ⟨by omega⟩, ⟨fun t h1 h2 => by omega⟩, ⟨fun t h1 h2 => by omega⟩, S0⟩
        case round =>
          obtain ⟨i, j, rfl, rfl, HI, HL, HH, S1⟩ := hrel
          obtain ⟨h1, h2, h3, h4⟩ := HI.out
          by_cases hlt : i < j
          · have hlt2 : decide ((i : Int) < (j : Int)) = true := decide_eq_true (by omega)
            cases gk with
            | zero => omega
            | succ ko =>
              go_upto_region 17 with fail
              obtain ⟨h, hh⟩ : ∃ h : Nat, ((i : Int) + (j : Int)) / 2 = (h : Int) := ⟨(i + j) / 2, by omega⟩
              have hih : i ≤ h := by omega
              have hhj : h < j := by omega
              rw [hh]
              clear hh
              cases hl : ltOf cf xs[m]! xs[h]! with
          | true =>
            have HL1 := Aside0.mk hl
            clear hl
            have pi1 : (0 : Int) ≤ (m : Int) := by omega
            have qi1 : (m : Int) < (n : Int) := by omega
            have ei1 : ((m : Int)).toNat = m := by omega
            have ri1 : IntKind.i64.wrap ((m : Int)) = (m : Int) := by rw [IntKind.wrap_i64]; omega
            have pj1 : (0 : Int) ≤ (h : Int) := by omega
            have qj1 : (h : Int) < (n : Int) := by omega
            have ej1 : ((h : Int)).toNat = h := by omega
            have rj1 : IntKind.i64.wrap ((h : Int)) = (h : Int) := by rw [IntKind.wrap_i64]; omega
            obtain ⟨ai1, bi1⟩ := S1.out.by_ (m) (by omega)
            obtain ⟨aj1, bj1⟩ := S1.out.by_ (h) (by omega)
            have hc1 : cf xs[m]! xs[h]! < 0 := of_decide_eq_true HL1.out
            generalize xs[m]! = x1 at ai1 bi1 hc1
            generalize xs[h]! = y1 at aj1 bj1 hc1
            have hd1 : decide (cf x1 y1 < 0) = true := decide_eq_true hc1
            go_wp2_with fail
            refine wp_region_quiet_by mixed (by kernel_rfl) ?_
            repeat (quiet_step (first | (go_at_fn 60; refine calls_by (HC.out x1 y1 _))))
            refine wpQuiet_nil ?_
            intro _ hw'
            obtain ⟨⟨w3, hb1⟩, hw''⟩ := hw'
            subst hw''
            have S2 := Aside0.mk (S1.out.below hb1)
            clear ai1 bi1 aj1 bj1 hb1 S1
            go_wp2
            go_roundg ko
            case measure => omega
            case rel =>
              refine ⟨i, h, rfl, rfl, ⟨by omega⟩, HL, ⟨fun t ht1 ht2 => ?_⟩, S2⟩
              by_cases e : t = h
              · rw [e]; exact HL1.out
              · cases hb : ltOf cf xs[m]! xs[t]! with
                | true => rfl
                | false => exact absurd (HSW.out.ntrans _ _ _ hb (HA.out h t (by omega) (by omega) ht2)) (by rw [HL1.out]; decide)
          | false =>
            have HL1 := Aside0.mk hl
            clear hl
            have pi1 : (0 : Int) ≤ (m : Int) := by omega
            have qi1 : (m : Int) < (n : Int) := by omega
            have ei1 : ((m : Int)).toNat = m := by omega
            have ri1 : IntKind.i64.wrap ((m : Int)) = (m : Int) := by rw [IntKind.wrap_i64]; omega
            have pj1 : (0 : Int) ≤ (h : Int) := by omega
            have qj1 : (h : Int) < (n : Int) := by omega
            have ej1 : ((h : Int)).toNat = h := by omega
            have rj1 : IntKind.i64.wrap ((h : Int)) = (h : Int) := by rw [IntKind.wrap_i64]; omega
            obtain ⟨ai1, bi1⟩ := S1.out.by_ (m) (by omega)
            obtain ⟨aj1, bj1⟩ := S1.out.by_ (h) (by omega)
            have hc1 : ¬ cf xs[m]! xs[h]! < 0 := of_decide_eq_false HL1.out
            generalize xs[m]! = x1 at ai1 bi1 hc1
            generalize xs[h]! = y1 at aj1 bj1 hc1
            have hd1 : decide (cf x1 y1 < 0) = false := decide_eq_false hc1
            go_wp2_with fail
            refine wp_region_quiet_by mixed (by kernel_rfl) ?_
            repeat (quiet_step (first | (go_at_fn 60; refine calls_by (HC.out x1 y1 _))))
            refine wpQuiet_nil ?_
            intro _ hw'
            obtain ⟨⟨w3, hb1⟩, hw''⟩ := hw'
            subst hw''
            have S2 := Aside0.mk (S1.out.below hb1)
            clear ai1 bi1 aj1 bj1 hb1 S1
            go_wp2
            go_roundg ko
            case measure => omega
            case rel =>
              refine ⟨h + 1, j, by go_num, rfl, ⟨by omega⟩, ⟨fun t ht1 ht2 => ?_⟩, HH, S2⟩
              by_cases e : t = h
              · rw [e]; exact HL1.out
              · exact HSW.out.ntrans _ _ _ HL1.out (HA.out t h ht1 (by omega) (by omega))
          · have hlt2 : decide ((i : Int) < (j : Int)) = false := decide_eq_false (by omega)
            obtain rfl : i = j := by omega
            go_wp2_with fail
            go_loopg [17] (m - i) (fun kq2 v17 W2 => ∃ (k : Nat) (ys : Array S24), v17 = .int .i64 k ∧ Aside0 (i ≤ k ∧ k ≤ m ∧ k - i ≤ kq2) ∧ Aside0 (SI w0 base g n cap ok ys W2) ∧ Aside0 (PermIn a b xs ys ∧ ∀ t, ys[t]! = downTo (fun t => xs[t]!) m k t))
            case atStart => exact ⟨m, xs, rfl, ⟨by omega⟩, S1, ⟨permIn_refl _ _ _, fun t => (downTo_zero _ _ _).symm⟩⟩
            case round =>
              obtain ⟨k, ys, rfl, HK, S2, HP⟩ := hrel
              obtain ⟨k1, k2, k3⟩ := HK.out
              have hys := S2.out.len
              by_cases hk : i < k
              · obtain ⟨kp, rfl⟩ : ∃ kp, k = kp + 1 := ⟨k - 1, by omega⟩
                have hk2 : decide ((kp : Int) + 1 > (i : Int)) = true := decide_eq_true (by omega)
                have hk3 : (i : Int) < (kp : Int) + 1 := by omega
                cases gk with
                | zero => omega
                | succ ko2 =>
                  go_wp2_with fail
                  have pi2 : (0 : Int) ≤ (kp : Int) + 1 := by omega
                  have qi2 : (kp : Int) + 1 < (n : Int) := by omega
                  have ei2 : ((kp : Int) + 1).toNat = kp + 1 := by omega
                  have ri2 : IntKind.i64.wrap ((kp : Int) + 1) = (kp : Int) + 1 := by rw [IntKind.wrap_i64]; omega
                  have pj2 : (0 : Int) ≤ (kp : Int) := by omega
                  have qj2 : (kp : Int) < (n : Int) := by omega
                  have ej2 : ((kp : Int)).toNat = kp := by omega
                  have rj2 : IntKind.i64.wrap ((kp : Int)) = (kp : Int) := by rw [IntKind.wrap_i64]; omega
                  have S3 := Aside0.mk (S2.out.swapped (kp + 1) (kp) (by omega) (by omega)).drew
                  obtain ⟨ai2, bi2⟩ := S2.out.at_ (kp + 1) (by omega)
                  obtain ⟨aj2, bj2⟩ := S2.out.at_ (kp) (by omega)
                  have fi2 := S2.out.frozen ((kp + 1) * 2)
                  have gi2 := S2.out.frozen ((kp + 1) * 2 + 1)
                  have fj2 := S2.out.frozen ((kp) * 2)
                  have gj2 := S2.out.frozen ((kp) * 2 + 1)
                  generalize hu2 : ys[kp + 1]! = u2 at ai2 bi2 S3
                  generalize hv2 : ys[kp]! = v2 at aj2 bj2 S3
                  go_wp2_with fail
                  go_big_region_o
                  all_goals go_wp2
                  clear ai2 bi2 aj2 bj2 fi2 gi2 fj2 gj2 S2
                  go_roundg ko2
                  case measure => omega
                  case rel => exact ⟨kp, swp ys (kp + 1) kp, by first | rfl | go_num | (congr 1; omega), ⟨by omega⟩, S3, ⟨permIn_trans _ _ _ _ _ HP.out.1 (swp_permIn _ _ _ _ _ (by omega) (by omega) (by omega) (by omega) (by omega)), downTo_swp xs ys m kp (by omega) (by omega) (by omega) HP.out.2⟩⟩
              · have hk2 : decide ((k : Int) > (i : Int)) = false := decide_eq_false (by omega)
                obtain rfl : k = i := by omega
                go_wp2_with fail
                (try simp only [Exit.inBlock, Exit.then]); refine bodyPost_ret (results_none rfl _ _ _) rfl ?_
                have := downTo_seg (le := fun x y => ltOf cf y x = false) (i := k) h1 (by omega) HA.out (fun t q1 q2 => HL.out t q1 q2) (fun t q1 q2 => asym_ HSW.out (HH.out t q1 q2)) HP.out.2
                rw [show m + 1 = b by omega] at this
                exact ⟨rfl, ys, S2.out, HP.out.1, this⟩
end Go.Proofs.Ytklidannncajiaa.OW

namespace Go.Proofs.Ytklidannncajiaa.OW
open Go.RowKit Go.Lib Go.Sort Go.Proofs.YtklidannncajiaaW.PrintWords Go.Proofs.YtklidannncajiaaW.PrintLast Go.Proofs.YtklidannncajiaaW.PrintMore
set_option linter.unusedVariables false
set_option linter.unusedSimpArgs false

set_option maxHeartbeats 16000000 in
set_option maxRecDepth 100000 in
theorem smC {cf : S24 → S24 → Int} (hcmp : CmpB cf) (hS : SWO (ltOf cf)) {w0 : World} {base g n cap : Nat} {ok : Nat → Prop} (hn : n ≤ 1000) (d : Nat) (ih : ∀ (xs : Array S24) (w : World) (a m b : Nat), b - a ≤ d → a < m → m < b → b ≤ n → SI w0 base g n cap ok xs w → SortedIn (ltOf cf) a m xs → SortedIn (ltOf cf) m b xs → Calls Try.prog 106 #[.slice (some ⟨g, 0, none⟩) n cap, .int .i64 a, .int .i64 m, .int .i64 b, .func (.func 60) #[] #[]] w fun e w' => e = .returned (.tuple #[]) ∧ ∃ ys, SI w0 base g n cap ok ys w' ∧ PermIn a b xs ys ∧ SortedIn (ltOf cf) a b ys) (xs : Array S24) (w : World) (a m b : Nat) (hd : b - a ≤ d + 1) (c1 : ¬ (m : Int) - (a : Int) = 1) (c2 : ¬ (b : Int) - (m : Int) = 1) (ham : a < m) (hmb : m < b) (hbn : b ≤ n) (S : SI w0 base g n cap ok xs w) (hA : SortedIn (ltOf cf) a m xs) (hB : SortedIn (ltOf cf) m b xs) : Calls Try.prog 106 #[.slice (some ⟨g, 0, none⟩) n cap, .int .i64 a, .int .i64 m, .int .i64 b, .func (.func 60) #[] #[]] w fun e w' => e = .returned (.tuple #[]) ∧ ∃ ys, SI w0 base g n cap ok ys w' ∧ PermIn a b xs ys ∧ SortedIn (ltOf cf) a b ys := by
      have IH := Aside0.mk ih
      clear ih
      have hu24 := Try.underlying24
      have mixed : Try.prog.follows .mixedOrders = true := by kernel_rfl
      have eg : ∀ args w, (callFunc 60 args).run Try.prog w = .ok (.enter 60 args) w := enters_of Try.func60 (by kernel_rfl) rfl
      have HC := Aside0.mk hcmp
      have HSW := Aside0.mk hS
      have S0 := Aside0.mk S
      have hxs := S.len
      have HA := Aside0.mk hA
      have HB := Aside0.mk hB
      clear S hA hB
      go_enter Try.func106, Try.ntmps106
      have c1d : decide ((m : Int) - (a : Int) = 1) = false := decide_eq_false c1
      have c1b : ((m : Int) - (a : Int) == 1) = false := by simp [c1]
      · have c2d : decide ((b : Int) - (m : Int) = 1) = false := decide_eq_false c2
        have c2b : ((b : Int) - (m : Int) == 1) = false := by simp [c2]
        go_upto_if 140 with fail
        obtain ⟨mid, hmid⟩ : ∃ mid : Nat, ((a : Int) + (b : Int)) / 2 = (mid : Int) := ⟨(a + b) / 2, by omega⟩
        have hmid2 : 2 * mid ≤ a + b := by omega
        have hmid3 : a + b ≤ 2 * mid + 1 := by omega
        rw [hmid]
        clear hmid
        obtain ⟨s0, hs0⟩ : ∃ s0 : Nat, s0 = if mid < m then mid + m - b else a := ⟨_, rfl⟩
        obtain ⟨r0, hr0⟩ : ∃ r0 : Nat, r0 = if mid < m then mid else m := ⟨_, rfl⟩
        go_cut [20, 21] from 140 to 146 (fun v20 v21 w3 => v20 = .int .i64 s0 ∧ v21 = .int .i64 r0 ∧ Aside0 (SI w0 base g n cap ok xs w3))
        case first =>
          by_cases hgt : mid < m
          · have hgt2 : decide ((m : Int) > (mid : Int)) = true := decide_eq_true (by omega)
            have hgt3 : (mid : Int) < (m : Int) := by omega
            rw [if_pos hgt] at hs0 hr0
            obtain ⟨s1, hs1⟩ : ∃ s1 : Nat, (mid : Int) + (m : Int) - (b : Int) = (s1 : Int) := ⟨mid + m - b, by omega⟩
            obtain rfl : s0 = s1 := by omega
            obtain rfl : r0 = mid := hr0
            clear hs0
            go_wp2_with fail
            go_meet
            exact ⟨by first | rfl | exact congrArg _ hs1, rfl, S0⟩
          · have hgt2 : decide ((m : Int) > (mid : Int)) = false := decide_eq_false (by omega)
            have hgt3 : ¬ (mid : Int) < (m : Int) := by omega
            rw [if_neg hgt] at hs0 hr0
            obtain rfl : s0 = a := hs0
            obtain rfl : r0 = m := hr0
            go_wp2_with fail
            go_meet
            exact ⟨rfl, rfl, S0⟩
        case rest =>
          obtain ⟨rfl, rfl, S1⟩ := hcut
          have hsr : s0 ≤ r0 ∧ a ≤ s0 ∧ r0 ≤ m ∧ r0 ≤ mid ∧ mid + m ≤ s0 + b ∧ (s0 = a ∨ s0 + b = mid + m) ∧ (r0 = m ∨ r0 = mid) ∧ mid < b ∧ a < mid := by
            rw [hs0, hr0]
            split <;> omega
          clear hs0 hr0 c1 c2 c1d c2d c1b c2b S0
          obtain ⟨f1, f2, f3, f4, f5, f6, f7, f8, f9⟩ := hsr
          go_wp2_with fail
          go_loopg [20, 21] (r0 - s0) (fun kq v20 v21 W => ∃ (s r : Nat), v20 = .int .i64 s ∧ v21 = .int .i64 r ∧ Aside0 (s0 ≤ s ∧ s ≤ r ∧ r ≤ r0 ∧ r - s ≤ kq) ∧ Aside0 (∀ c, s0 ≤ c → c < s → ltOf cf xs[mid + m - 1 - c]! xs[c]! = false) ∧ Aside0 (∀ c, r ≤ c → c < r0 → ltOf cf xs[mid + m - 1 - c]! xs[c]! = true) ∧ Aside0 (SI w0 base g n cap ok xs W))
          case atStart => exact ⟨s0, r0, rfl, rfl, ⟨by omega⟩, ⟨fun t h1 h2 => by omega⟩, ⟨fun t h1 h2 => by omega⟩, S1⟩
          case round =>
            clear S1
            obtain ⟨s, r, rfl, rfl, HI, HL, HH, S1⟩ := hrel
            obtain ⟨h1, h2, h3, h4⟩ := HI.out
            by_cases hlt : s < r
            · have hlt2 : decide ((s : Int) < (r : Int)) = true := decide_eq_true (by omega)
              cases gk with
              | zero => omega
              | succ ko =>
                go_upto_region 35 with fail
                obtain ⟨c, hc⟩ : ∃ c : Nat, ((s : Int) + (r : Int)) / 2 = (c : Int) := ⟨(s + r) / 2, by omega⟩
                have hsc : s ≤ c := by omega
                have hcr : c < r := by omega
                rw [hc]
                clear hc
                obtain ⟨pc, hpc⟩ : ∃ pc : Nat, (mid : Int) + (m : Int) - 1 - (c : Int) = (pc : Int) := ⟨mid + m - 1 - c, by omega⟩
                have hpc2 : pc + c + 1 = mid + m := by omega
                have hpc3 : mid + m - 1 - c = pc := by omega
                obtain ⟨bb, hl⟩ : ∃ bb, ltOf cf xs[pc]! xs[c]! = bb := ⟨_, rfl⟩
                have HL1 := Aside0.mk hl
                clear hl
                have pi1 : (0 : Int) ≤ (pc : Int) := by omega
                have qi1 : (pc : Int) < (n : Int) := by omega
                have ei1 : ((pc : Int)).toNat = pc := by omega
                have ri1 : IntKind.i64.wrap ((pc : Int)) = (pc : Int) := by rw [IntKind.wrap_i64]; omega
                have pj1 : (0 : Int) ≤ (c : Int) := by omega
                have qj1 : (c : Int) < (n : Int) := by omega
                have ej1 : ((c : Int)).toNat = c := by omega
                have rj1 : IntKind.i64.wrap ((c : Int)) = (c : Int) := by rw [IntKind.wrap_i64]; omega
                obtain ⟨ai1, bi1⟩ := S1.out.by_ (pc) (by omega)
                obtain ⟨aj1, bj1⟩ := S1.out.by_ (c) (by omega)
                have hd1 : decide (cf xs[pc]! xs[c]! < 0) = bb := HL1.out
                generalize xs[pc]! = x1 at ai1 bi1 hd1
                generalize xs[c]! = y1 at aj1 bj1 hd1
                go_wp2_with fail
                refine wp_region_quiet_by mixed (by kernel_rfl) ?_
                repeat (quiet_step (first | (go_at_fn 60; refine calls_by (HC.out x1 y1 _))))
                refine wpQuiet_nil ?_
                intro _ hw'
                obtain ⟨⟨w4, hb1⟩, hw''⟩ := hw'
                subst hw''
                have S2 := Aside0.mk (S1.out.below hb1)
                clear ai1 bi1 aj1 bj1 hb1 hd1 S1
                cases bb with
                | true =>
                  go_wp2
                  go_roundg ko
                  case measure => omega
                  case rel =>
                    refine ⟨s, c, rfl, rfl, ⟨by omega⟩, HL, ⟨fun t ht1 ht2 => ?_⟩, S2⟩
                    by_cases e : t = c
                    · rw [e, hpc3]; exact HL1.out
                    · cases hb : ltOf cf xs[mid + m - 1 - t]! xs[t]! with
                      | true => rfl
                      | false => exact absurd (HSW.out.ntrans _ _ _ (HB.out (mid + m - 1 - t) pc (by omega) (by omega) (by omega)) (HSW.out.ntrans _ _ _ hb (HA.out c t (by omega) (by omega) (by omega)))) (by rw [HL1.out]; decide)
                | false =>
                  go_wp2
                  go_roundg ko
                  case measure => omega
                  case rel =>
                    refine ⟨c + 1, r, by go_num, rfl, ⟨by omega⟩, ⟨fun t ht1 ht2 => ?_⟩, HH, S2⟩
                    by_cases e : t = c
                    · rw [e, hpc3]; exact HL1.out
                    · exact HSW.out.ntrans _ _ _ (HB.out pc (mid + m - 1 - t) (by omega) (by omega) (by omega)) (HSW.out.ntrans _ _ _ HL1.out (HA.out t c (by omega) (by omega) (by omega)))
            · have hlt2 : decide ((s : Int) < (r : Int)) = false := decide_eq_false (by omega)
              obtain rfl : s = r := by omega
              have HLe := Aside0.mk (show s = a ∨ s + b = mid + m ∨ ltOf cf xs[mid + m - s]! xs[s - 1]! = false from by
                by_cases e : s = s0
                · rw [e]; rcases f6 with h | h
                  · exact .inl h
                  · exact .inr (.inl h)
                · refine .inr (.inr ?_)
                  have := HL.out (s - 1) (by omega) (by omega)
                  rwa [show mid + m - 1 - (s - 1) = mid + m - s by omega] at this)
              have HRe := Aside0.mk (show s = m ∨ s = mid ∨ ltOf cf xs[s]! xs[mid + m - s - 1]! = false from by
                by_cases e : s = r0
                · rw [e]; rcases f7 with h | h
                  · exact .inl h
                  · exact .inr (.inl h)
                · refine .inr (.inr ?_)
                  have := HH.out s (by omega) (by omega)
                  rw [show mid + m - 1 - s = mid + m - s - 1 by omega] at this
                  exact asym_ HSW.out this)
              clear HL HH
              obtain ⟨e, he⟩ : ∃ e : Nat, (mid : Int) + (m : Int) - (s : Int) = (e : Int) := ⟨mid + m - s, by omega⟩
              have he2 : e + s = mid + m := by omega
              go_upto_region 39 with fail
              clear he
              go_cut [185] from 178 to 184 (fun v185 w5 => v185 = .bool (decide (s < m ∧ m < e)) ∧ Aside0 (SI w0 base g n cap ok xs w5))
              case first =>
                by_cases q1 : s < m
                · have q1d : decide ((s : Int) < (m : Int)) = true := decide_eq_true (by omega)
                  by_cases q2 : m < e
                  · have q2d : decide ((m : Int) < (e : Int)) = true := decide_eq_true (by omega)
                    go_wp2_with fail
                    go_meet
                    exact ⟨congrArg Value.bool (decide_eq_true (And.intro q1 q2)).symm, S1⟩
                  · have q2d : decide ((m : Int) < (e : Int)) = false := decide_eq_false (by omega)
                    go_wp2_with fail
                    go_meet
                    exact ⟨congrArg Value.bool (decide_eq_false (fun h => q2 h.2)).symm, S1⟩
                · have q1d : decide ((s : Int) < (m : Int)) = false := decide_eq_false (by omega)
                  go_wp2_with fail
                  go_meet
                  exact ⟨congrArg Value.bool (decide_eq_false (fun h => q1 h.1)).symm, S1⟩
              case rest =>
              clear S1
              obtain ⟨rfl, S1⟩ := hcut
              go_upto_if 185 with fail
              go_cut [] from 185 to 191 (fun w5 => ∃ zs, Aside0 (SI w0 base g n cap ok zs w5 ∧ PermIn a b xs zs ∧ ∀ t, zs[t]! = rot (fun t => xs[t]!) s m e t))
              case first =>
                by_cases q : s < m ∧ m < e
                · have qd : decide (s < m ∧ m < e) = true := decide_eq_true q
                  have HCC := Aside0.mk (rotate_calls (.func (.func 60) #[] #[]) s m e q.1 q.2 (by omega) hn S1.out)
                  rw [qd]
                  go_wp2_with ((with_reducible refine gate_callee (f := 115) rfl ?_); (try (refine gate_guard (by rfl) ?_; dsimp only)); refine goesL_ (some 191) rfl rfl Try.func115 (by kernel_rfl) rfl #[.slice (some ⟨g, 0, none⟩) n cap, .int .i64 s, .int .i64 m, .int .i64 e, .func (.func 60) #[] #[]] rfl (by (try simp only [List.map_toArray, List.map_cons, List.map_nil]); first | done | rfl) ?_; (with_reducible refine HCC.out.mono ?_); rintro e w5 ⟨rfl, zs, hz⟩; refine ⟨_, rfl, ?_⟩; have HZ := Aside0.mk hz; clear hz)
                  go_meet
                  exact ⟨zs, ⟨HZ.out.1, permIn_mono _ _ _ _ _ _ (by omega) (by omega) (by omega) HZ.out.2.1, HZ.out.2.2⟩⟩
                · have qd : decide (s < m ∧ m < e) = false := decide_eq_false q
                  rw [qd]
                  go_wp2_with fail
                  go_meet
                  exact ⟨xs, ⟨S1.out, permIn_refl _ _ _, fun t => (rot_none (fun t => xs[t]!) s m e t (by omega) (by omega) (by omega)).symm⟩⟩
              case rest =>
                clear S1
                obtain ⟨zs, HZS⟩ := hcut
                have HZI := Aside0.mk HZS.out.1
                obtain ⟨g1, g2, g3, g4, g5⟩ := merge_turned (le := fun x y => ltOf cf y x = false) (le_tr HSW.out) ham hmb (show mid = (a + b) / 2 by omega) (by omega) (by omega) (by omega) (by omega) HA.out HB.out (fun t => by rw [HZS.out.2.2, show e = mid + m - s by omega]) HLe.out HRe.out
                rw [show mid + m - s = e by omega] at g3 g4
                have G1 := Aside0.mk g1
                have G2 := Aside0.mk g2
                have G3 := Aside0.mk g3
                have G4 := Aside0.mk g4
                have G5 := Aside0.mk g5
                clear g1 g2 g3 g4 g5 HLe HRe
                have hzs := HZS.out.1.len
                go_upto_region 41 with fail
                go_cut [199] from 192 to 198 (fun v199 w6 => v199 = .bool (decide (a < s ∧ s < mid)) ∧ Aside0 (SI w0 base g n cap ok zs w6))
                case first =>
                  by_cases q1 : a < s
                  · have q1d : decide ((a : Int) < (s : Int)) = true := decide_eq_true (by omega)
                    by_cases q2 : s < mid
                    · have q2d : decide ((s : Int) < (mid : Int)) = true := decide_eq_true (by omega)
                      go_wp2_with fail
                      go_meet
                      exact ⟨congrArg Value.bool (decide_eq_true (And.intro q1 q2)).symm, HZI⟩
                    · have q2d : decide ((s : Int) < (mid : Int)) = false := decide_eq_false (by omega)
                      go_wp2_with fail
                      go_meet
                      exact ⟨congrArg Value.bool (decide_eq_false (fun h => q2 h.2)).symm, HZI⟩
                  · have q1d : decide ((a : Int) < (s : Int)) = false := decide_eq_false (by omega)
                    go_wp2_with fail
                    go_meet
                    exact ⟨congrArg Value.bool (decide_eq_false (fun h => q1 h.1)).symm, HZI⟩
                case rest =>
                clear HZI
                obtain ⟨rfl, HZI⟩ := hcut
                go_upto_if 199 with fail
                go_cut [] from 199 to 205 (fun w6 => ∃ y1, Aside0 (SI w0 base g n cap ok y1 w6 ∧ PermIn a mid zs y1 ∧ SortedIn (ltOf cf) a mid y1))
                case first =>
                  by_cases q : a < s ∧ s < mid
                  · have qd : decide (a < s ∧ s < mid) = true := decide_eq_true q
                    have HCC := Aside0.mk (IH.out zs _ a s mid (by omega) q.1 q.2 (by omega) HZI.out G1.out G2.out)
                    rw [qd]
                    go_wp2_with ((with_reducible refine gate_callee (f := 106) rfl ?_); (try (refine gate_guard (by rfl) ?_; dsimp only)); refine goesL_ (some 205) rfl rfl Try.func106 (by kernel_rfl) rfl #[.slice (some ⟨g, 0, none⟩) n cap, .int .i64 a, .int .i64 s, .int .i64 mid, .func (.func 60) #[] #[]] rfl (by (try simp only [List.map_toArray, List.map_cons, List.map_nil]); first | done | rfl) ?_; (with_reducible refine HCC.out.mono ?_); rintro e w7 ⟨rfl, y1, hz⟩; refine ⟨_, rfl, ?_⟩; have HZ := Aside0.mk hz; clear hz)
                    go_meet
                    exact ⟨y1, HZ⟩
                  · have qd : decide (a < s ∧ s < mid) = false := decide_eq_false q
                    have HM := Aside0.mk (show SortedIn (ltOf cf) a mid zs from by
                      rcases (show s = mid ∨ s = a by omega) with h | h
                      · rw [← h]; exact G1.out
                      · rw [← h]; exact G2.out)
                    rw [qd]
                    go_wp2_with fail
                    go_meet
                    exact ⟨zs, ⟨HZI.out, permIn_refl _ _ _, HM.out⟩⟩
                case rest =>
                  clear HZI
                  obtain ⟨y1, HY1⟩ := hcut
                  have hy1 := HY1.out.1.len
                  have HEND := Aside0.mk (show ∀ y2, PermIn mid b y1 y2 → SortedIn (ltOf cf) mid b y2 → PermIn a b xs y2 ∧ SortedIn (ltOf cf) a b y2 from fun y2 p2 s2 =>
                    ⟨permIn_trans _ _ _ _ _ HZS.out.2.1 (permIn_trans _ _ _ _ _ (permIn_mono _ _ _ _ _ _ (Nat.le_refl _) (by omega) (by omega) HY1.out.2.1) (permIn_mono _ _ _ _ _ _ (by omega) (Nat.le_refl _) (by omega) p2)),
                     merge_done (le := fun x y => ltOf cf y x = false) (by omega) (by omega) (by omega) G5.out HY1.out.2.1 HY1.out.2.2 p2 s2⟩)
                  have E3 := Aside0.mk (show SortedIn (ltOf cf) mid e y1 from Seg.same (le := fun x y => ltOf cf y x = false) G3.out fun t q1 q2 => HY1.out.2.1.2.1 t (.inr q1))
                  have E4 := Aside0.mk (show SortedIn (ltOf cf) e b y1 from Seg.same (le := fun x y => ltOf cf y x = false) G4.out fun t q1 q2 => HY1.out.2.1.2.1 t (.inr (by omega)))
                  by_cases q1 : mid < e
                  · have q1d : decide ((mid : Int) < (e : Int)) = true := decide_eq_true (by omega)
                    by_cases q2 : e < b
                    · have q2d : decide ((e : Int) < (b : Int)) = true := decide_eq_true (by omega)
                      have HCC := Aside0.mk (IH.out y1 _ mid e b (by omega) q1 q2 (by omega) HY1.out.1 E3.out E4.out)
                      go_wp2_with ((with_reducible refine gate_callee (f := 106) rfl ?_); (try (refine gate_guard (by rfl) ?_; dsimp only)); refine goesL_ (some 219) rfl rfl Try.func106 (by kernel_rfl) rfl #[.slice (some ⟨g, 0, none⟩) n cap, .int .i64 mid, .int .i64 e, .int .i64 b, .func (.func 60) #[] #[]] rfl (by (try simp only [List.map_toArray, List.map_cons, List.map_nil]); first | done | rfl) ?_; (with_reducible refine HCC.out.mono ?_); rintro e w8 ⟨rfl, y2, hz⟩; refine ⟨_, rfl, ?_⟩; have HZ := Aside0.mk hz; clear hz)
                      go_end0
                      exact ⟨rfl, y2, HZ.out.1, HEND.out y2 HZ.out.2.1 HZ.out.2.2⟩
                    · have q2d : decide ((e : Int) < (b : Int)) = false := decide_eq_false (by omega)
                      go_wp2_with fail
                      go_end0
                      have hE := E3.out
                      rw [show e = b by omega] at hE
                      exact ⟨rfl, y1, HY1.out.1, HEND.out y1 (permIn_refl _ _ _) hE⟩
                  · have q1d : decide ((mid : Int) < (e : Int)) = false := decide_eq_false (by omega)
                    go_wp2_with fail
                    go_end0
                    have hE := E4.out
                    rw [show e = mid by omega] at hE
                    exact ⟨rfl, y1, HY1.out.1, HEND.out y1 (permIn_refl _ _ _) hE⟩
theorem symMerge_calls {cf : S24 → S24 → Int} (hcmp : CmpB cf) (hS : SWO (ltOf cf)) {w0 : World} {base g n cap : Nat} {ok : Nat → Prop} (hn : n ≤ 1000) : ∀ (d : Nat) (xs : Array S24) (w : World) (a m b : Nat), b - a ≤ d → a < m → m < b → b ≤ n → SI w0 base g n cap ok xs w → SortedIn (ltOf cf) a m xs → SortedIn (ltOf cf) m b xs → Calls Try.prog 106 #[.slice (some ⟨g, 0, none⟩) n cap, .int .i64 a, .int .i64 m, .int .i64 b, .func (.func 60) #[] #[]] w fun e w' => e = .returned (.tuple #[]) ∧ ∃ ys, SI w0 base g n cap ok ys w' ∧ PermIn a b xs ys ∧ SortedIn (ltOf cf) a b ys := by
  intro d
  induction d with
  | zero => intro xs w a m b h1 h2 h3; omega
  | succ d ih =>
    intro xs w a m b hd ham hmb hbn S hA hB
    by_cases c1 : (m : Int) - (a : Int) = 1
    · exact smA hcmp hS hn xs w a m b c1 ham hmb hbn S hA hB
    · by_cases c2 : (b : Int) - (m : Int) = 1
      · exact smB hcmp hS hn xs w a m b c1 c2 ham hmb hbn S hA hB
      · exact smC hcmp hS hn d ih xs w a m b hd c1 c2 ham hmb hbn S hA hB
end Go.Proofs.Ytklidannncajiaa.OW
