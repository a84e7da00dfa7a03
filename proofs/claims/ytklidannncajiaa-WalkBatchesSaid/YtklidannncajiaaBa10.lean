/- What the row of the law WalkBatches leans on: contracts of functions and plain laws, each for all inputs that its own theorem names. -/
import Derived.Test.YtklidannncajiaaBa0
import Derived.Test.YtklidannncajiaaBa1
-- Laid by a program of this session (wip/ownprint.py, wip/hooks.py) over the seat's translation. Lean checks it.
namespace Go.Proofs.Ytklidannncajiaa.OW
open Go.RowKit Go.Proofs.YtklidannncajiaaW.PrintWords Go.Proofs.YtklidannncajiaaW.PrintLast Go.Proofs.YtklidannncajiaaW.PrintMore
attribute [local go_sem] max2_int min2_int max_two min_two max_three min_three max_four min_four   -- for this text's walks alone
set_option linter.unusedVariables false
set_option linter.unusedSimpArgs false

/-! ### band_Within: function 67 -/
mutual
def band_Within.j0 : Nat → List Int → List Int → Int → Bool → Option (Int × Bool)
  | 0, _, _, _, _ => none
  | k + 1, x0, x1, x2, x37 => if x37 = true then (some (0, false)) else (if 0 ≤ (wrap64 ((x1.length : Int) + 1)) then (if (wrap64 ((x1.length : Int) + 1) : Int).toNat ≤ 35184372088832 then ((some (List.replicate (wrap64 ((x1.length : Int) + 1) : Int).toNat 0 : List Int)).bind fun y313 => (band_Within.l0 k x0 x1 (mn x2 (wrap64 ((x0.length : Int) + (x1.length : Int)))) (wrap64 ((mn x2 (wrap64 ((x0.length : Int) + (x1.length : Int)))) + 1)) y313 (y313.length : Int) 0)) else (none)) else (none))
def band_Within.l0 : Nat → List Int → List Int → Int → Int → List Int → Int → Int → Option (Int × Bool)
  | 0, _, _, _, _, _, _, _ => none
  | k + 1, x0, x1, x2, x8, x9, x52, x53 => if x53 < x52 then (if 0 ≤ x53 then (if x53 < (x9.length : Int) then (band_Within.l0 k x0 x1 x2 x8 (x9.set (x53 : Int).toNat (mn x53 x8)) x52 (wrap64 (x53 + 1))) else (none)) else (none)) else (band_Within.l1 k x0 x1 x2 x8 x9 (x0.length : Int) 0)
def band_Within.l1 : Nat → List Int → List Int → Int → Int → List Int → Int → Int → Option (Int × Bool)
  | 0, _, _, _, _, _, _, _ => none
  | k + 1, x0, x1, x2, x8, x9, x64, x65 => if x65 < x64 then (if 0 ≤ (wrap64 ((mx (wrap64 ((wrap64 (x65 + 1)) - x2)) 1) - 1)) then (if (wrap64 ((mx (wrap64 ((wrap64 (x65 + 1)) - x2)) 1) - 1)) < (x9.length : Int) then ((some (x9.set ((wrap64 ((mx (wrap64 ((wrap64 (x65 + 1)) - x2)) 1) - 1)) : Int).toNat x8 : List Int)).bind fun y319 => (if (mx (wrap64 ((wrap64 (x65 + 1)) - x2)) 1) = 1 then (if 0 < (x9.length : Int) then (band_Within.j3 k x0 x1 x2 x8 (y319.set (0 : Int).toNat (mn (wrap64 (x65 + 1)) x8)) x65 (mx (wrap64 ((wrap64 (x65 + 1)) - x2)) 1) (mn (wrap64 ((wrap64 (x65 + 1)) + x2)) (x1.length : Int)) (rd x9 (wrap64 ((mx (wrap64 ((wrap64 (x65 + 1)) - x2)) 1) - 1))) x64 x65) else (none)) else (band_Within.j3 k x0 x1 x2 x8 y319 x65 (mx (wrap64 ((wrap64 (x65 + 1)) - x2)) 1) (mn (wrap64 ((wrap64 (x65 + 1)) + x2)) (x1.length : Int)) (rd x9 (wrap64 ((mx (wrap64 ((wrap64 (x65 + 1)) - x2)) 1) - 1))) x64 x65))) else (none)) else (none)) else (if 0 ≤ (x1.length : Int) then (if (x1.length : Int) < (x9.length : Int) then (if (rd x9 (x1.length : Int)) > x2 then (some (0, false)) else (some (rd x9 (x1.length : Int), true))) else (none)) else (none))
def band_Within.j3 : Nat → List Int → List Int → Int → Int → List Int → Int → Int → Int → Int → Int → Int → Option (Int × Bool)
  | 0, _, _, _, _, _, _, _, _, _, _, _ => none
  | k + 1, x0, x1, x2, x8, x9, x11, x12, x13, x14, x64, x65 => band_Within.l2 k x0 x1 x2 x8 x9 x11 x12 x13 x14 x64 x65 (wrap64 ((wrap64 (x13 - x12)) + 1)) 0
def band_Within.l2 : Nat → List Int → List Int → Int → Int → List Int → Int → Int → Int → Int → Int → Int → Int → Int → Option (Int × Bool)
  | 0, _, _, _, _, _, _, _, _, _, _, _, _, _ => none
  | k + 1, x0, x1, x2, x8, x9, x11, x12, x13, x14, x64, x65, x101, x102 => if x102 < x101 then (if 0 ≤ x11 then (if x11 < (x0.length : Int) then (if 0 ≤ (wrap64 ((wrap64 (x102 + x12)) - 1)) then (if (wrap64 ((wrap64 (x102 + x12)) - 1)) < (x1.length : Int) then (if (rd x0 x11) = (rd x1 (wrap64 ((wrap64 (x102 + x12)) - 1))) then (if 0 ≤ (wrap64 (x102 + x12)) then (if (wrap64 (x102 + x12)) < (x9.length : Int) then (if (wrap64 ((wrap64 (x102 + x12)) - 1)) < (x9.length : Int) then (band_Within.l2 k x0 x1 x2 x8 (x9.set ((wrap64 (x102 + x12)) : Int).toNat (mn (mn (mn (wrap64 ((rd x9 (wrap64 (x102 + x12))) + 1)) (wrap64 ((rd x9 (wrap64 ((wrap64 (x102 + x12)) - 1))) + 1))) x14) x8)) x11 x12 x13 (rd x9 (wrap64 (x102 + x12))) x64 x65 x101 (wrap64 (x102 + 1))) else (none)) else (none)) else (none)) else (if 0 ≤ (wrap64 (x102 + x12)) then (if (wrap64 (x102 + x12)) < (x9.length : Int) then (if (wrap64 ((wrap64 (x102 + x12)) - 1)) < (x9.length : Int) then (band_Within.l2 k x0 x1 x2 x8 (x9.set ((wrap64 (x102 + x12)) : Int).toNat (mn (mn (mn (wrap64 ((rd x9 (wrap64 (x102 + x12))) + 1)) (wrap64 ((rd x9 (wrap64 ((wrap64 (x102 + x12)) - 1))) + 1))) (wrap64 (x14 + 1))) x8)) x11 x12 x13 (rd x9 (wrap64 (x102 + x12))) x64 x65 x101 (wrap64 (x102 + 1))) else (none)) else (none)) else (none))) else (none)) else (none)) else (none)) else (none)) else (if x13 < (x1.length : Int) then (if 0 ≤ (wrap64 (x13 + 1)) then (if (wrap64 (x13 + 1)) < (x9.length : Int) then (band_Within.l1 k x0 x1 x2 x8 (x9.set ((wrap64 (x13 + 1)) : Int).toNat x8) x64 (wrap64 (x65 + 1))) else (none)) else (none)) else (band_Within.l1 k x0 x1 x2 x8 x9 x64 (wrap64 (x65 + 1))))
end
def band_Within.f (k : Nat) (l0 : List Int) (l1 : List Int) (a2 : Int) : Option (Int × Bool) := if a2 < 0 then (band_Within.j0 k l0 l1 a2 true) else (if (wrap64 ((l0.length : Int) - (l1.length : Int))) > a2 then (band_Within.j0 k l0 l1 a2 true) else (band_Within.j0 k l0 l1 a2 (decide ((wrap64 ((l1.length : Int) - (l0.length : Int))) > a2))))
set_option maxHeartbeats 8000000 in
set_option maxRecDepth 100000 in
theorem band_Within.calls (k : Nat) (A0 : Option Addr) (c0 : Nat) (l0 : List Int) (A1 : Option Addr) (c1 : Nat) (l1 : List Int) (a2 : Int) (r1 : Int) (r2 : Bool) (w : World) (hr0 : Kd.C (Kd.int .i32) w A0 l0.length l0) (hc0 : l0.length ≤ c0) (hr1 : Kd.C (Kd.int .i32) w A1 l1.length l1) (hc1 : l1.length ≤ c1) (h : band_Within.f k l0 l1 a2 = some (r1, r2)) :
    Calls Try.prog 67 #[.slice A0 l0.length c0, .slice A1 l1.length c1, .int .i64 a2] w fun e w' => e = .returned (.tuple #[.int .i64 r1, .bool r2]) ∧ Below w.heap.size w w' := by
  have HR0 := Aside0.mk hr0
  have HC0 := Aside0.mk hc0
  clear hr0 hc0
  have HR1 := Aside0.mk hr1
  have HC1 := Aside0.mk hc1
  clear hr1 hc1
  have HB := Aside0.mk (Below.refl w.heap.size w)
  have H : (if a2 < 0 then (band_Within.j0 k l0 l1 a2 true) else (if (wrap64 ((l0.length : Int) - (l1.length : Int))) > a2 then (band_Within.j0 k l0 l1 a2 true) else (band_Within.j0 k l0 l1 a2 (decide ((wrap64 ((l1.length : Int) - (l0.length : Int))) > a2))))) = some (r1, r2) := h
  clear h
  have HC4 := Aside0.mk H
  clear H
  go_enter Try.func67, Try.ntmps67
  go_upto_region 1 with (fail)
  repeat (go_quiet (fail); go_upto_region 1 with (fail))
  go_cut [37] (fun v37 wc => ∃ (kq : Nat) (x37_3 : Bool), v37 = .bool x37_3 ∧ Aside0 (band_Within.j0 kq l0 l1 a2 x37_3 = some (r1, r2)) ∧ Aside0 (kq ≤ k) ∧ Aside0 (Below w.heap.size w wc))
  case first =>
    have H := HC4.out
    clear HC4
    by_cases c5 : a2 < 0
    · rw [if_pos c5] at H
      have c5b0 : decide (a2 < 0) = true := decide_eq_true c5
      clear c5
      (first | rw [c5b0] | (simp only [i64_w, i32_w]; rw [c5b0]) | skip)
      have H' := Aside0.mk H
      clear H
      go_wp2
      repeat (go_quiet (fail); try go_wp2)
      go_meet
      case rel => exact ⟨_, (true), (by first | rfl | (simp; done) | (simp [*]; done)), H', ⟨by first | omega | exact Nat.le_refl _⟩, ⟨by repeat (first | (with_reducible first | exact HB.out | apply below_alloc | apply pw_below_drewN | apply below_drew1) | exact HB.out)⟩⟩
    · rw [if_neg c5] at H
      have c5b0 : decide (a2 < 0) = false := decide_eq_false c5
      clear c5
      (first | rw [c5b0] | (simp only [i64_w, i32_w]; rw [c5b0]) | skip)
      by_cases c6 : (wrap64 ((l0.length : Int) - (l1.length : Int))) > a2
      · rw [if_pos c6] at H
        have c6b0 : decide (a2 < (wrap64 ((l0.length : Int) - (l1.length : Int)))) = true := decide_eq_true c6
        clear c6
        have H' := Aside0.mk H
        clear H
        go_wp2
        repeat (go_quiet (fail); try go_wp2)
        go_meet
        case rel => exact ⟨_, (true), (by first | rfl | (simp; done) | (simp [*]; done)), H', ⟨by first | omega | exact Nat.le_refl _⟩, ⟨by repeat (first | (with_reducible first | exact HB.out | apply below_alloc | apply pw_below_drewN | apply below_drew1) | exact HB.out)⟩⟩
      · rw [if_neg c6] at H
        have c6b0 : decide (a2 < (wrap64 ((l0.length : Int) - (l1.length : Int)))) = false := decide_eq_false c6
        clear c6
        have H' := Aside0.mk H
        clear H
        go_wp2
        repeat (go_quiet (fail); try go_wp2)
        go_meet
        case rel => exact ⟨_, (decide ((wrap64 ((l1.length : Int) - (l0.length : Int))) > a2)), (by first | rfl | (simp; done) | (simp [*]; done)), H', ⟨by first | omega | exact Nat.le_refl _⟩, ⟨by repeat (first | (with_reducible first | exact HB.out | apply below_alloc | apply pw_below_drewN | apply below_drew1) | exact HB.out)⟩⟩
  case rest =>
    clear HC4
    try clear c1
    try clear p2
    try clear c5
    try clear c5b0
    try clear c6
    try clear c6b0
    try clear p6
    obtain ⟨kq, x37_3, rfl, HA, HJ3, HB⟩ := hcut
    cases kq with
    | zero => exact absurd HA.out (by simp [band_Within.j0])
    | succ kj3 =>
      have H := HA.out
      clear HA
      simp only [band_Within.j0] at H
      by_cases c7 : x37_3 = true
      · subst c7
        have H1 : (some (0, false)) = some (r1, r2) := by rw [if_pos rfl] at H; exact H
        clear H
        have H := H1
        clear H1
        simp only [Option.some.injEq, Prod.mk.injEq] at H
        obtain ⟨rfl, rfl⟩ := H
        go_wp2
        repeat (go_quiet (fail); try go_wp2)
        go_ret2
        exact ⟨by first | rfl | (simp [errW_none, errW_some] <;> rfl) | (simp [*, errW_none, errW_some] <;> rfl), by repeat (first | (with_reducible first | exact HB.out | apply below_alloc | apply pw_below_drewN | apply below_drew1) | exact HB.out)⟩
      · replace c7 := Bool.eq_false_iff.mpr c7
        subst c7
        have H1 : (if 0 ≤ (wrap64 ((l1.length : Int) + 1)) then (if (wrap64 ((l1.length : Int) + 1) : Int).toNat ≤ 35184372088832 then ((some (List.replicate (wrap64 ((l1.length : Int) + 1) : Int).toNat 0 : List Int)).bind fun y313 => (band_Within.l0 kj3 l0 l1 (mn a2 (wrap64 ((l0.length : Int) + (l1.length : Int)))) (wrap64 ((mn a2 (wrap64 ((l0.length : Int) + (l1.length : Int)))) + 1)) y313 (y313.length : Int) 0)) else (none)) else (none)) = some (r1, r2) := by rw [if_neg (show ¬ (false = true) by decide)] at H; exact H
        clear H
        have H := H1
        clear H1
        obtain ⟨ji8, hji8⟩ : ∃ j_ : Int, (mn a2 (wrap64 ((l0.length : Int) + (l1.length : Int)))) = j_ := ⟨_, rfl⟩
        replace H : (if 0 ≤ (wrap64 ((l1.length : Int) + 1)) then (if (wrap64 ((l1.length : Int) + 1) : Int).toNat ≤ 35184372088832 then ((some (List.replicate (wrap64 ((l1.length : Int) + 1) : Int).toNat 0 : List Int)).bind fun y313 => (band_Within.l0 kj3 l0 l1 ji8 (wrap64 ((ji8) + 1)) y313 (y313.length : Int) 0)) else (none)) else (none)) = some (r1, r2) := by first | (rw [hji8] at H; exact H) | (simp only [hji8] at H ⊢; exact H)
        have hji8_ : (if (wrap64 ((l0.length : Int) + (l1.length : Int))) < a2 then (wrap64 ((l0.length : Int) + (l1.length : Int))) else a2) = ji8 := hji8
        obtain ⟨ji9, hji9⟩ : ∃ j_ : Int, (wrap64 ((l1.length : Int) + 1)) = j_ := ⟨_, rfl⟩
        replace H : (if 0 ≤ (ji9) then (if (ji9 : Int).toNat ≤ 35184372088832 then ((some (List.replicate (ji9 : Int).toNat 0 : List Int)).bind fun y313 => (band_Within.l0 kj3 l0 l1 ji8 (wrap64 ((ji8) + 1)) y313 (y313.length : Int) 0)) else (none)) else (none)) = some (r1, r2) := by first | (rw [hji9] at H; exact H) | (simp only [hji9] at H ⊢; exact H)
        have hji9w : (IntKind.i64.wrap ((l1.length : Int) + 1)) = ji9 := (i64_w _).trans hji9
        by_cases c10 : 0 ≤ (ji9)
        · rw [if_pos c10] at H
          have c10b0 := eq_true c10
          have c10b1 : decide (0 ≤ (ji9)) = true := decide_eq_true c10
          clear c10
          by_cases c11 : (ji9 : Int).toNat ≤ 35184372088832
          · rw [if_pos c11] at H
            have c11b0 := eq_true c11
            have c11b1 : decide ((ji9 : Int).toNat ≤ 35184372088832) = true := decide_eq_true c11
            clear c11
            obtain ⟨y313, hy313⟩ : ∃ y_ : List Int, y_ = (List.replicate (ji9 : Int).toNat 0) := ⟨_, rfl⟩
            replace H : (band_Within.l0 kj3 l0 l1 ji8 (wrap64 ((ji8) + 1)) y313 (y313.length : Int) 0) = some (r1, r2) := by first | (rw [hy313]; with_reducible exact H) | (have H2_ := (Option.bind_some _ _).symm.trans H; rw [hy313]; with_reducible exact H2_) | (have H2_ := (Option.bind_some _ _).symm.trans H; with_reducible exact H2_) | with_reducible exact H | (rw [hy313]; exact H) | exact H
            have Ny313 := Aside0.mk hy313
            clear hy313
            have H' := Aside0.mk H
            clear H
            go_wp2_with (first | ((with_reducible refine gate_dst (N := 50) rfl ?_); (try (refine gate_guard (by rfl) ?_; dsimp only)); refine Kd.R_make (Kd.int .i64) _ 3 rfl (N := 50) rfl 55 _ _ rfl ji9 rfl rfl Try.underlying55 (.int .i64 0) 8 info3 rfl (by decide) (by omega) 0 (ok := fun _ => True) (okp := fun _ => True) rfl (fun _ hk => hk) trivial (of_decide_eq_true (by first | (with_reducible assumption) | assumption)) (Nat.le_trans (Nat.mul_le_mul_right _ (of_decide_eq_true (by first | (with_reducible assumption) | assumption) : ji9.toNat ≤ 35184372088832)) (by omega)) (Below.refl _ _) (Nat.le_refl _) ?_; intro v314 w12 ho13 hb hg_ hnew_; clear hg_ hnew_; (first | rw [← Ny313.out] at ho13 | (simp only [Int.reduceToNat] at ho13; rw [← Ny313.out] at ho13)); have n0_ := Aside0.mk (Kd.R_lower ho13 (below_size (by repeat (first | (with_reducible first | exact HB.out | apply below_alloc | apply pw_below_drewN | apply below_drew1) | exact HB.out)))); have n1_ := Aside0.mk (below_step (by repeat (first | (with_reducible first | exact HB.out | apply below_alloc | apply pw_below_drewN | apply below_drew1) | exact HB.out)) hb); clear HB; have HO315 := n0_; have HB := n1_; clear n0_ n1_; clear hb ho13; obtain ⟨Ao14, co14, eo14⟩ := Kd.R_slice HO315.out; subst eo14))
            repeat (go_quiet (first | ((with_reducible refine gate_dst (N := 50) rfl ?_); (try (refine gate_guard (by rfl) ?_; dsimp only)); refine Kd.R_make (Kd.int .i64) _ 3 rfl (N := 50) rfl 55 _ _ rfl ji9 rfl rfl Try.underlying55 (.int .i64 0) 8 info3 rfl (by decide) (by omega) 0 (ok := fun _ => True) (okp := fun _ => True) rfl (fun _ hk => hk) trivial (of_decide_eq_true (by first | (with_reducible assumption) | assumption)) (Nat.le_trans (Nat.mul_le_mul_right _ (of_decide_eq_true (by first | (with_reducible assumption) | assumption) : ji9.toNat ≤ 35184372088832)) (by omega)) (Below.refl _ _) (Nat.le_refl _) ?_; intro v314 w12 ho13 hb hg_ hnew_; clear hg_ hnew_; (first | rw [← Ny313.out] at ho13 | (simp only [Int.reduceToNat] at ho13; rw [← Ny313.out] at ho13)); have n0_ := Aside0.mk (Kd.R_lower ho13 (below_size (by repeat (first | (with_reducible first | exact HB.out | apply below_alloc | apply pw_below_drewN | apply below_drew1) | exact HB.out)))); have n1_ := Aside0.mk (below_step (by repeat (first | (with_reducible first | exact HB.out | apply below_alloc | apply pw_below_drewN | apply below_drew1) | exact HB.out)) hb); clear HB; have HO315 := n0_; have HB := n1_; clear n0_ n1_; clear hb ho13; obtain ⟨Ao14, co14, eo14⟩ := Kd.R_slice HO315.out; subst eo14)); try go_wp2_with (first | ((with_reducible refine gate_dst (N := 50) rfl ?_); (try (refine gate_guard (by rfl) ?_; dsimp only)); refine Kd.R_make (Kd.int .i64) _ 3 rfl (N := 50) rfl 55 _ _ rfl ji9 rfl rfl Try.underlying55 (.int .i64 0) 8 info3 rfl (by decide) (by omega) 0 (ok := fun _ => True) (okp := fun _ => True) rfl (fun _ hk => hk) trivial (of_decide_eq_true (by first | (with_reducible assumption) | assumption)) (Nat.le_trans (Nat.mul_le_mul_right _ (of_decide_eq_true (by first | (with_reducible assumption) | assumption) : ji9.toNat ≤ 35184372088832)) (by omega)) (Below.refl _ _) (Nat.le_refl _) ?_; intro v314 w12 ho13 hb hg_ hnew_; clear hg_ hnew_; (first | rw [← Ny313.out] at ho13 | (simp only [Int.reduceToNat] at ho13; rw [← Ny313.out] at ho13)); have n0_ := Aside0.mk (Kd.R_lower ho13 (below_size (by repeat (first | (with_reducible first | exact HB.out | apply below_alloc | apply pw_below_drewN | apply below_drew1) | exact HB.out)))); have n1_ := Aside0.mk (below_step (by repeat (first | (with_reducible first | exact HB.out | apply below_alloc | apply pw_below_drewN | apply below_drew1) | exact HB.out)) hb); clear HB; have HO315 := n0_; have HB := n1_; clear n0_ n1_; clear hb ho13; obtain ⟨Ao14, co14, eo14⟩ := Kd.R_slice HO315.out; subst eo14)))
            go_loopg [53] kj3 (fun kq v53 w' => ∃ (x9_2 : List Int) (x53_2 : Int), v53 = .int .i64 x53_2 ∧ Aside0 (band_Within.l0 kq l0 l1 ji8 (wrap64 ((ji8) + 1)) x9_2 (y313.length : Int) x53_2 = some (r1, r2)) ∧ Aside0 (kq ≤ kj3) ∧ Aside0 (Kd.R (Kd.int .i64) 3 w' w.heap.size (fun _ => True) (.slice Ao14 y313.length co14) x9_2) ∧ Aside0 (Below w.heap.size w w'))
            case atStart => exact ⟨(y313), (0), (by first | rfl | (simp; done) | (simp [*]; done)), H', ⟨Nat.le_refl _⟩, ⟨by (with_reducible repeat (first | apply Kd.R_alloc | apply Kd.R_drewN | apply Kd.R_drew)); exact HO315.out⟩, ⟨by repeat (first | (with_reducible first | exact HB.out | apply below_alloc | apply pw_below_drewN | apply below_drew1) | exact HB.out)⟩⟩
            case round =>
              clear H'
              try clear c1
              try clear p2
              try clear c5
              try clear c5b0
              try clear c6
              try clear c6b0
              try clear p6
              try clear c7
              try clear c10
              try clear c10b0
              try clear c10b1
              try clear c11
              try clear c11b0
              try clear c11b1
              try clear p2
              try clear p6
              obtain ⟨x9_2, x53_2, rfl, HA, HK2, HO_9, HB⟩ := hrel
              have hl9_2 := (Kd.R_reads' HO_9.out).1
              rw [hl9_2] at HO_9
              (try simp only [hl9_2])
              cases gk with
              | zero => exact absurd HA.out (by simp [band_Within.l0])
              | succ k2 =>
                have H := HA.out
                clear HA
                simp only [band_Within.l0] at H
                by_cases c15 : x53_2 < (y313.length : Int)
                · rw [if_pos c15] at H
                  have c15b0 : decide (x53_2 < (y313.length : Int)) = true := decide_eq_true c15
                  (try simp only [hl9_2] at c15b0)
                  clear c15
                  obtain ⟨ji16, hji16⟩ : ∃ j_ : Int, (mn x53_2 (wrap64 ((ji8) + 1))) = j_ := ⟨_, rfl⟩
                  replace H : (if 0 ≤ x53_2 then (if x53_2 < (x9_2.length : Int) then (band_Within.l0 k2 l0 l1 ji8 (wrap64 ((ji8) + 1)) (x9_2.set (x53_2 : Int).toNat (ji16)) (y313.length : Int) (wrap64 (x53_2 + 1))) else (none)) else (none)) = some (r1, r2) := by first | (rw [hji16] at H; exact H) | (simp only [hji16] at H ⊢; exact H)
                  (try rw [hji16] at hji9w)
                  have hji16_ : (if (wrap64 ((ji8) + 1)) < x53_2 then (wrap64 ((ji8) + 1)) else x53_2) = ji16 := hji16
                  by_cases c17 : 0 ≤ x53_2
                  · rw [if_pos c17] at H
                    have c17b0 : decide (0 ≤ x53_2) = true := decide_eq_true c17
                    (try simp only [hl9_2] at c17b0)
                    clear c17
                    by_cases c18 : x53_2 < (x9_2.length : Int)
                    · rw [if_pos c18] at H
                      have c18b0 : decide (x53_2 < (x9_2.length : Int)) = true := decide_eq_true c18
                      (try simp only [hl9_2] at c18b0)
                      clear c18
                      obtain ⟨y316, hy316⟩ : ∃ y_ : List Int, y_ = (x9_2.set (x53_2 : Int).toNat (ji16)) := ⟨_, rfl⟩
                      replace H : (band_Within.l0 k2 l0 l1 ji8 (wrap64 ((ji8) + 1)) y316 (y313.length : Int) (wrap64 (x53_2 + 1))) = some (r1, r2) := by first | (rw [hy316]; with_reducible exact H) | (have H2_ := (Option.bind_some _ _).symm.trans H; rw [hy316]; with_reducible exact H2_) | (have H2_ := (Option.bind_some _ _).symm.trans H; with_reducible exact H2_) | with_reducible exact H | (rw [hy316]; exact H) | exact H
                      have Ny316 := Aside0.mk hy316
                      clear hy316
                      have H' := Aside0.mk H
                      clear H
                      have p19 : 0 ≤ (x53_2 : Int) := of_decide_eq_true (by first | (with_reducible assumption) | assumption)
                      have q19 : (x53_2 : Int) < ((x9_2.length : Int) : Int) := of_decide_eq_true (by first | (with_reducible assumption) | assumption)
                      obtain ⟨go19, co19, eo19, gb19, gl19, cl19, HG19⟩ := Kd.R_form HO_9.out (by omega)
                      (first | cases eo19 | (injection eo19 with ea_ en_ ec_; (first | subst ea_ | (injection ea_ with ea_; subst ea_)); subst ec_; clear en_))
                      have GB19 := Aside0.mk gb19
                      have GG19 := Aside0.mk HG19
                      clear gb19 gl19 HG19
                      obtain ⟨hx19_0, hf19_0⟩ := Kd.R_celln 0 HO_9.out (x53_2 : Int) p19 q19
                      replace p19 := eq_true p19
                      replace q19 := eq_true q19
                      have HP20 := Kd.R_putg HO_9.out (x53_2 : Int) ji16
                      go_wp2_with (first | ((with_reducible refine gate_store (t := 3) (p := 61) rfl ?_); (try (rw [drewN_self wr]; generalize hq_ : World.drewN wr _ = wr; have n0_ := Aside0.mk (Kd.R_at hq_ HO_9.out); have n1_ := Aside0.mk (below_at hq_ HB.out); clear hq_ HO_9 HB; have HO_9 := n0_; have HB := n1_; clear n0_ n1_; (try (have HP20 := Kd.R_putg HO_9.out (x53_2 : Int) ji16)); (try (obtain ⟨hx19_0, hf19_0⟩ := Kd.R_celln 0 HO_9.out (x53_2 : Int) (of_eq_true p19) (of_eq_true q19))))); refine store_event (t := 3) (p := 61) (v := ?vo_w21) (w1 := (wr.setCell ⟨go19, (x53_2 : Int).toNat, none⟩ (.int .i64 ji16))) ?hg ?ho ?hn ?hr ?_; (case ho => rfl); (case hg => rfl); (case hn => rfl); (case hr => first | (go_simp; done) | (go_simp; rfl)); intro w21 hw; have hg : wr.grownBy w21 (some go19) := (by rw [hw]; exact HP20.2); have hp_ : Kd.R (Kd.int .i64) 3 w21 w.heap.size (fun _ => True) (.slice (some ⟨go19, 0, none⟩) x9_2.length co14) y316 := (by rw [hw, Ny316.out]; exact HP20.1); clear HP20; have n0_ := Aside0.mk (hp_); have n1_ := Aside0.mk ((by rw [hw]; exact below_set (HB.out) GB19.out : Below w.heap.size w w21)); clear HO_9; clear HB; have HO_9 := n0_; have HB := n1_; clear n0_ n1_; clear hg hw hp_))
                      repeat (go_quiet (first | ((with_reducible refine gate_store (t := 3) (p := 61) rfl ?_); (try (rw [drewN_self wr]; generalize hq_ : World.drewN wr _ = wr; have n0_ := Aside0.mk (Kd.R_at hq_ HO_9.out); have n1_ := Aside0.mk (below_at hq_ HB.out); clear hq_ HO_9 HB; have HO_9 := n0_; have HB := n1_; clear n0_ n1_; (try (have HP20 := Kd.R_putg HO_9.out (x53_2 : Int) ji16)); (try (obtain ⟨hx19_0, hf19_0⟩ := Kd.R_celln 0 HO_9.out (x53_2 : Int) (of_eq_true p19) (of_eq_true q19))))); refine store_event (t := 3) (p := 61) (v := ?vo_w21) (w1 := (wr.setCell ⟨go19, (x53_2 : Int).toNat, none⟩ (.int .i64 ji16))) ?hg ?ho ?hn ?hr ?_; (case ho => rfl); (case hg => rfl); (case hn => rfl); (case hr => first | (go_simp; done) | (go_simp; rfl)); intro w21 hw; have hg : wr.grownBy w21 (some go19) := (by rw [hw]; exact HP20.2); have hp_ : Kd.R (Kd.int .i64) 3 w21 w.heap.size (fun _ => True) (.slice (some ⟨go19, 0, none⟩) x9_2.length co14) y316 := (by rw [hw, Ny316.out]; exact HP20.1); clear HP20; have n0_ := Aside0.mk (hp_); have n1_ := Aside0.mk ((by rw [hw]; exact below_set (HB.out) GB19.out : Below w.heap.size w w21)); clear HO_9; clear HB; have HO_9 := n0_; have HB := n1_; clear n0_ n1_; clear hg hw hp_)); try go_wp2_with (first | ((with_reducible refine gate_store (t := 3) (p := 61) rfl ?_); (try (rw [drewN_self wr]; generalize hq_ : World.drewN wr _ = wr; have n0_ := Aside0.mk (Kd.R_at hq_ HO_9.out); have n1_ := Aside0.mk (below_at hq_ HB.out); clear hq_ HO_9 HB; have HO_9 := n0_; have HB := n1_; clear n0_ n1_; (try (have HP20 := Kd.R_putg HO_9.out (x53_2 : Int) ji16)); (try (obtain ⟨hx19_0, hf19_0⟩ := Kd.R_celln 0 HO_9.out (x53_2 : Int) (of_eq_true p19) (of_eq_true q19))))); refine store_event (t := 3) (p := 61) (v := ?vo_w21) (w1 := (wr.setCell ⟨go19, (x53_2 : Int).toNat, none⟩ (.int .i64 ji16))) ?hg ?ho ?hn ?hr ?_; (case ho => rfl); (case hg => rfl); (case hn => rfl); (case hr => first | (go_simp; done) | (go_simp; rfl)); intro w21 hw; have hg : wr.grownBy w21 (some go19) := (by rw [hw]; exact HP20.2); have hp_ : Kd.R (Kd.int .i64) 3 w21 w.heap.size (fun _ => True) (.slice (some ⟨go19, 0, none⟩) x9_2.length co14) y316 := (by rw [hw, Ny316.out]; exact HP20.1); clear HP20; have n0_ := Aside0.mk (hp_); have n1_ := Aside0.mk ((by rw [hw]; exact below_set (HB.out) GB19.out : Below w.heap.size w w21)); clear HO_9; clear HB; have HO_9 := n0_; have HB := n1_; clear n0_ n1_; clear hg hw hp_)))
                      (try simp only [← hl9_2])
                      go_roundg k2
                      case measure => have := HJ3.out; have := HK2.out; omega
                      case rel => exact ⟨(y316), (wrap64 (x53_2 + 1)), (by first | rfl | (simp; done) | (simp [*]; done)), H', ⟨by have := HJ3.out; have := HK2.out; omega⟩, ⟨by (try simp only [hl9_2]); (with_reducible repeat (first | apply Kd.R_alloc | apply Kd.R_drewN | apply Kd.R_drew)); exact HO_9.out⟩, ⟨by repeat (first | (with_reducible first | exact HB.out | apply below_alloc | apply pw_below_drewN | apply below_drew1) | exact HB.out)⟩⟩
                    · rw [if_neg c18] at H
                      exact absurd H (by simp)
                  · rw [if_neg c17] at H
                    exact absurd H (by simp)
                · rw [if_neg c15] at H
                  have c15b0 : decide (x53_2 < (y313.length : Int)) = false := decide_eq_false c15
                  (try simp only [hl9_2] at c15b0)
                  clear c15
                  have H' := Aside0.mk H
                  clear H
                  go_wp2
                  repeat (go_quiet (fail); try go_wp2)
                  go_loopg [65] k2 (fun kq v65 w' => ∃ (x9_3 : List Int) (x65_3 : Int), v65 = .int .i64 x65_3 ∧ Aside0 (band_Within.l1 kq l0 l1 ji8 (wrap64 ((ji8) + 1)) x9_3 (l0.length : Int) x65_3 = some (r1, r2)) ∧ Aside0 (kq ≤ k2) ∧ Aside0 (Kd.R (Kd.int .i64) 3 w' w.heap.size (fun _ => True) (.slice Ao14 x9_2.length co14) x9_3) ∧ Aside0 (Below w.heap.size w w'))
                  case atStart => exact ⟨(x9_2), (0), (by first | rfl | (simp; done) | (simp [*]; done)), H', ⟨Nat.le_refl _⟩, ⟨by (try simp only [hl9_2]); (with_reducible repeat (first | apply Kd.R_alloc | apply Kd.R_drewN | apply Kd.R_drew)); exact HO_9.out⟩, ⟨by repeat (first | (with_reducible first | exact HB.out | apply below_alloc | apply pw_below_drewN | apply below_drew1) | exact HB.out)⟩⟩
                  case round =>
                    clear H'
                    try clear c1
                    try clear p1
                    try clear q1
                    try clear hx1
                    try clear p2
                    try clear c5
                    try clear c5b0
                    try clear c6
                    try clear c6b0
                    try clear p6
                    try clear c7
                    try clear c10
                    try clear c10b0
                    try clear c10b1
                    try clear c11
                    try clear c11b0
                    try clear c11b1
                    try clear c15
                    try clear c15b0
                    try clear c17
                    try clear c17b0
                    try clear c18
                    try clear c18b0
                    try clear p19
                    try clear q19
                    try clear hx19
                    try clear hf19
                    try clear hx19_0
                    try clear p19
                    try clear p2
                    try clear p6
                    try clear q19
                    obtain ⟨x9_3, x65_3, rfl, HA, HK3, HO_9, HB⟩ := hrel
                    have hl9_3 := (Kd.R_reads' HO_9.out).1
                    rw [hl9_3] at HO_9
                    (try simp only [hl9_3])
                    cases gk with
                    | zero => exact absurd HA.out (by simp [band_Within.l1])
                    | succ k3 =>
                      have H := HA.out
                      clear HA
                      simp only [band_Within.l1] at H
                      by_cases c22 : x65_3 < (l0.length : Int)
                      · rw [if_pos c22] at H
                        have c22b0 : decide (x65_3 < (l0.length : Int)) = true := decide_eq_true c22
                        (try simp only [hl9_2, hl9_3] at c22b0)
                        clear c22
                        obtain ⟨ji23, hji23⟩ : ∃ j_ : Int, (mx (wrap64 ((wrap64 (x65_3 + 1)) - ji8)) 1) = j_ := ⟨_, rfl⟩
                        replace H : (if 0 ≤ (wrap64 ((ji23) - 1)) then (if (wrap64 ((ji23) - 1)) < (x9_3.length : Int) then ((some (x9_3.set ((wrap64 ((ji23) - 1)) : Int).toNat (wrap64 ((ji8) + 1)) : List Int)).bind fun y319 => (if (ji23) = 1 then (if 0 < (x9_3.length : Int) then (band_Within.j3 k3 l0 l1 ji8 (wrap64 ((ji8) + 1)) (y319.set (0 : Int).toNat (mn (wrap64 (x65_3 + 1)) (wrap64 ((ji8) + 1)))) x65_3 ji23 (mn (wrap64 ((wrap64 (x65_3 + 1)) + ji8)) (l1.length : Int)) (rd x9_3 (wrap64 ((ji23) - 1))) (l0.length : Int) x65_3) else (none)) else (band_Within.j3 k3 l0 l1 ji8 (wrap64 ((ji8) + 1)) y319 x65_3 ji23 (mn (wrap64 ((wrap64 (x65_3 + 1)) + ji8)) (l1.length : Int)) (rd x9_3 (wrap64 ((ji23) - 1))) (l0.length : Int) x65_3))) else (none)) else (none)) = some (r1, r2) := by first | (rw [hji23] at H; exact H) | (simp only [hji23] at H ⊢; exact H)
                        (try rw [hji23] at hji9w)
                        have hji23_ : (if (wrap64 ((wrap64 (x65_3 + 1)) - ji8)) < 1 then 1 else (wrap64 ((wrap64 (x65_3 + 1)) - ji8))) = ji23 := hji23
                        obtain ⟨ji24, hji24⟩ : ∃ j_ : Int, (mn (wrap64 ((wrap64 (x65_3 + 1)) + ji8)) (l1.length : Int)) = j_ := ⟨_, rfl⟩
                        replace H : (if 0 ≤ (wrap64 ((ji23) - 1)) then (if (wrap64 ((ji23) - 1)) < (x9_3.length : Int) then ((some (x9_3.set ((wrap64 ((ji23) - 1)) : Int).toNat (wrap64 ((ji8) + 1)) : List Int)).bind fun y319 => (if (ji23) = 1 then (if 0 < (x9_3.length : Int) then (band_Within.j3 k3 l0 l1 ji8 (wrap64 ((ji8) + 1)) (y319.set (0 : Int).toNat (mn (wrap64 (x65_3 + 1)) (wrap64 ((ji8) + 1)))) x65_3 ji23 ji24 (rd x9_3 (wrap64 ((ji23) - 1))) (l0.length : Int) x65_3) else (none)) else (band_Within.j3 k3 l0 l1 ji8 (wrap64 ((ji8) + 1)) y319 x65_3 ji23 ji24 (rd x9_3 (wrap64 ((ji23) - 1))) (l0.length : Int) x65_3))) else (none)) else (none)) = some (r1, r2) := by first | (rw [hji24] at H; exact H) | (simp only [hji24] at H ⊢; exact H)
                        (try rw [hji24] at hji9w)
                        have hji24_ : (if (l1.length : Int) < (wrap64 ((wrap64 (x65_3 + 1)) + ji8)) then (l1.length : Int) else (wrap64 ((wrap64 (x65_3 + 1)) + ji8))) = ji24 := hji24
                        obtain ⟨ji25, hji25⟩ : ∃ j_ : Int, (wrap64 ((ji23) - 1)) = j_ := ⟨_, rfl⟩
                        replace H : (if 0 ≤ (ji25) then (if (ji25) < (x9_3.length : Int) then ((some (x9_3.set ((ji25) : Int).toNat (wrap64 ((ji8) + 1)) : List Int)).bind fun y319 => (if (ji23) = 1 then (if 0 < (x9_3.length : Int) then (band_Within.j3 k3 l0 l1 ji8 (wrap64 ((ji8) + 1)) (y319.set (0 : Int).toNat (mn (wrap64 (x65_3 + 1)) (wrap64 ((ji8) + 1)))) x65_3 ji23 ji24 (rd x9_3 (ji25)) (l0.length : Int) x65_3) else (none)) else (band_Within.j3 k3 l0 l1 ji8 (wrap64 ((ji8) + 1)) y319 x65_3 ji23 ji24 (rd x9_3 (ji25)) (l0.length : Int) x65_3))) else (none)) else (none)) = some (r1, r2) := by first | (rw [hji25] at H; exact H) | (simp only [hji25] at H ⊢; exact H)
                        (try rw [hji25] at hji9w)
                        have hji25w : (IntKind.i64.wrap ((ji23) - 1)) = ji25 := (i64_w _).trans hji25
                        by_cases c26 : 0 ≤ (ji25)
                        · rw [if_pos c26] at H
                          have c26b0 : decide (0 ≤ (ji25)) = true := decide_eq_true c26
                          (try simp only [hl9_2, hl9_3] at c26b0)
                          clear c26
                          by_cases c27 : (ji25) < (x9_3.length : Int)
                          · rw [if_pos c27] at H
                            have c27b0 : decide ((ji25) < (x9_3.length : Int)) = true := decide_eq_true c27
                            (try simp only [hl9_2, hl9_3] at c27b0)
                            clear c27
                            obtain ⟨y319, hy319⟩ : ∃ y_ : List Int, y_ = (x9_3.set ((ji25) : Int).toNat (wrap64 ((ji8) + 1))) := ⟨_, rfl⟩
                            replace H : (if (ji23) = 1 then (if 0 < (x9_3.length : Int) then (band_Within.j3 k3 l0 l1 ji8 (wrap64 ((ji8) + 1)) (y319.set (0 : Int).toNat (mn (wrap64 (x65_3 + 1)) (wrap64 ((ji8) + 1)))) x65_3 ji23 ji24 (rd x9_3 (ji25)) (l0.length : Int) x65_3) else (none)) else (band_Within.j3 k3 l0 l1 ji8 (wrap64 ((ji8) + 1)) y319 x65_3 ji23 ji24 (rd x9_3 (ji25)) (l0.length : Int) x65_3)) = some (r1, r2) := by first | (rw [hy319]; with_reducible exact H) | (have H2_ := (Option.bind_some _ _).symm.trans H; rw [hy319]; with_reducible exact H2_) | (have H2_ := (Option.bind_some _ _).symm.trans H; with_reducible exact H2_) | with_reducible exact H | (rw [hy319]; exact H) | exact H
                            have Ny319 := Aside0.mk hy319
                            clear hy319
                            have HC29 := Aside0.mk H
                            clear H
                            have p318 : 0 ≤ ((ji25) : Int) := of_decide_eq_true (by first | (with_reducible assumption) | assumption)
                            have q318 : (ji25) < (x9_3.length : Int) := of_decide_eq_true (by first | (with_reducible assumption) | assumption)
                            obtain ⟨ad318, e318, hx318_0⟩ := Kd.at_int (Kd.R_reads' HO_9.out).2.2 (ji25) p318 q318
                            cases e318
                            replace p318 := eq_true p318
                            replace q318 := eq_true q318
                            have p28 : 0 ≤ ((ji25) : Int) := of_decide_eq_true (by first | (with_reducible assumption) | assumption)
                            have q28 : ((ji25) : Int) < ((x9_3.length : Int) : Int) := of_decide_eq_true (by first | (with_reducible assumption) | assumption)
                            obtain ⟨go28, co28, eo28, gb28, gl28, cl28, HG28⟩ := Kd.R_form HO_9.out (by omega)
                            (first | cases eo28 | (injection eo28 with ea_ en_ ec_; (first | subst ea_ | (injection ea_ with ea_; subst ea_)); subst ec_; clear en_))
                            have GB28 := Aside0.mk gb28
                            have GG28 := Aside0.mk HG28
                            clear gb28 gl28 HG28
                            (first | simp only [add_plain] at hx318_0 | skip)
                            obtain ⟨hx28_0, hf28_0⟩ := Kd.R_celln 0 HO_9.out ((ji25) : Int) p28 q28
                            replace p28 := eq_true p28
                            replace q28 := eq_true q28
                            have HP30 := Kd.R_putg HO_9.out ((ji25) : Int) (wrap64 ((ji8) + 1))
                            go_upto_if 91 with (first | ((with_reducible refine gate_store (t := 3) (p := 89) rfl ?_); (try (rw [drewN_self wr]; generalize hq_ : World.drewN wr _ = wr; have n0_ := Aside0.mk (Kd.R_at hq_ HO_9.out); have n1_ := Aside0.mk (below_at hq_ HB.out); clear hq_ HO_9 HB; have HO_9 := n0_; have HB := n1_; clear n0_ n1_; (try (have HP30 := Kd.R_putg HO_9.out ((ji25) : Int) (wrap64 ((ji8) + 1)))))); refine store_event (t := 3) (p := 89) (v := ?vo_w31) (w1 := (wr.setCell ⟨go28, ((ji25) : Int).toNat, none⟩ (.int .i64 (wrap64 ((ji8) + 1))))) ?hg ?ho ?hn ?hr ?_; (case ho => rfl); (case hg => rfl); (case hn => rfl); (case hr => first | (go_simp; done) | (go_simp; rfl)); intro w31 hw; have hg : wr.grownBy w31 (some go28) := (by rw [hw]; exact HP30.2); have hp_ : Kd.R (Kd.int .i64) 3 w31 w.heap.size (fun _ => True) (.slice (some ⟨go28, 0, none⟩) x9_3.length co14) y319 := (by rw [hw, Ny319.out]; exact HP30.1); clear HP30; have n0_ := Aside0.mk (hp_); have n1_ := Aside0.mk ((by rw [hw]; exact below_set (HB.out) GB28.out : Below w.heap.size w w31)); clear HO_9; clear HB; have HO_9 := n0_; have HB := n1_; clear n0_ n1_; clear hg hw hp_))
                            repeat (go_quiet (first | ((with_reducible refine gate_store (t := 3) (p := 89) rfl ?_); (try (rw [drewN_self wr]; generalize hq_ : World.drewN wr _ = wr; have n0_ := Aside0.mk (Kd.R_at hq_ HO_9.out); have n1_ := Aside0.mk (below_at hq_ HB.out); clear hq_ HO_9 HB; have HO_9 := n0_; have HB := n1_; clear n0_ n1_; (try (have HP30 := Kd.R_putg HO_9.out ((ji25) : Int) (wrap64 ((ji8) + 1)))))); refine store_event (t := 3) (p := 89) (v := ?vo_w31) (w1 := (wr.setCell ⟨go28, ((ji25) : Int).toNat, none⟩ (.int .i64 (wrap64 ((ji8) + 1))))) ?hg ?ho ?hn ?hr ?_; (case ho => rfl); (case hg => rfl); (case hn => rfl); (case hr => first | (go_simp; done) | (go_simp; rfl)); intro w31 hw; have hg : wr.grownBy w31 (some go28) := (by rw [hw]; exact HP30.2); have hp_ : Kd.R (Kd.int .i64) 3 w31 w.heap.size (fun _ => True) (.slice (some ⟨go28, 0, none⟩) x9_3.length co14) y319 := (by rw [hw, Ny319.out]; exact HP30.1); clear HP30; have n0_ := Aside0.mk (hp_); have n1_ := Aside0.mk ((by rw [hw]; exact below_set (HB.out) GB28.out : Below w.heap.size w w31)); clear HO_9; clear HB; have HO_9 := n0_; have HB := n1_; clear n0_ n1_; clear hg hw hp_)); go_upto_if 91 with (first | ((with_reducible refine gate_store (t := 3) (p := 89) rfl ?_); (try (rw [drewN_self wr]; generalize hq_ : World.drewN wr _ = wr; have n0_ := Aside0.mk (Kd.R_at hq_ HO_9.out); have n1_ := Aside0.mk (below_at hq_ HB.out); clear hq_ HO_9 HB; have HO_9 := n0_; have HB := n1_; clear n0_ n1_; (try (have HP30 := Kd.R_putg HO_9.out ((ji25) : Int) (wrap64 ((ji8) + 1)))))); refine store_event (t := 3) (p := 89) (v := ?vo_w31) (w1 := (wr.setCell ⟨go28, ((ji25) : Int).toNat, none⟩ (.int .i64 (wrap64 ((ji8) + 1))))) ?hg ?ho ?hn ?hr ?_; (case ho => rfl); (case hg => rfl); (case hn => rfl); (case hr => first | (go_simp; done) | (go_simp; rfl)); intro w31 hw; have hg : wr.grownBy w31 (some go28) := (by rw [hw]; exact HP30.2); have hp_ : Kd.R (Kd.int .i64) 3 w31 w.heap.size (fun _ => True) (.slice (some ⟨go28, 0, none⟩) x9_3.length co14) y319 := (by rw [hw, Ny319.out]; exact HP30.1); clear HP30; have n0_ := Aside0.mk (hp_); have n1_ := Aside0.mk ((by rw [hw]; exact below_set (HB.out) GB28.out : Below w.heap.size w w31)); clear HO_9; clear HB; have HO_9 := n0_; have HB := n1_; clear n0_ n1_; clear hg hw hp_)))
                            (try simp only [Act.put, List.setIfInBounds_toArray, List.set_cons_zero, List.set_cons_succ])
                            go_cut [] (fun wc => ∃ (kq : Nat) (x9_28 : List Int), Aside0 (band_Within.j3 kq l0 l1 ji8 (wrap64 ((ji8) + 1)) x9_28 x65_3 ji23 ji24 (rd x9_3 (ji25)) (l0.length : Int) x65_3 = some (r1, r2)) ∧ Aside0 (kq ≤ k3) ∧ Aside0 (Kd.R (Kd.int .i64) 3 wc w.heap.size (fun _ => True) (.slice (some ⟨go28, 0, none⟩) x9_3.length co14) x9_28) ∧ Aside0 (Below w.heap.size w wc))
                            case first =>
                              have H := HC29.out
                              clear HC29
                              by_cases c32 : (ji23) = 1
                              · rw [if_pos c32] at H
                                have c32b0 : ((ji23) == 1) = true := beq_iff_eq.mpr c32
                                have c32b1 : ((ji23) != 1) = false := bne_eq_false_iff_eq.mpr c32
                                clear c32
                                (first | rw [c32b0] | (simp only [i64_w, i32_w]; rw [c32b0]) | skip)
                                obtain ⟨ji33, hji33⟩ : ∃ j_ : Int, (mn (wrap64 (x65_3 + 1)) (wrap64 ((ji8) + 1))) = j_ := ⟨_, rfl⟩
                                replace H : (if 0 < (x9_3.length : Int) then (band_Within.j3 k3 l0 l1 ji8 (wrap64 ((ji8) + 1)) (y319.set (0 : Int).toNat (ji33)) x65_3 ji23 ji24 (rd x9_3 (ji25)) (l0.length : Int) x65_3) else (none)) = some (r1, r2) := by first | (rw [hji33] at H; exact H) | (simp only [hji33] at H ⊢; exact H)
                                (try rw [hji33] at hji9w)
                                (try rw [hji33] at hji25w)
                                have hji33_ : (if (wrap64 ((ji8) + 1)) < (wrap64 (x65_3 + 1)) then (wrap64 ((ji8) + 1)) else (wrap64 (x65_3 + 1))) = ji33 := hji33
                                by_cases c34 : 0 < (x9_3.length : Int)
                                · rw [if_pos c34] at H
                                  have c34b0 : decide (0 < (x9_3.length : Int)) = true := decide_eq_true c34
                                  (try simp only [hl9_2, hl9_3] at c34b0)
                                  have c34b1 : decide (0 < x9_3.length) = true := decide_eq_true (by omega)
                                  (try simp only [hl9_2, hl9_3] at c34b1)
                                  clear c34
                                  obtain ⟨y320, hy320⟩ : ∃ y_ : List Int, y_ = (y319.set (0 : Int).toNat (ji33)) := ⟨_, rfl⟩
                                  replace H : (band_Within.j3 k3 l0 l1 ji8 (wrap64 ((ji8) + 1)) y320 x65_3 ji23 ji24 (rd x9_3 (ji25)) (l0.length : Int) x65_3) = some (r1, r2) := by first | (rw [hy320]; with_reducible exact H) | (have H2_ := (Option.bind_some _ _).symm.trans H; rw [hy320]; with_reducible exact H2_) | (have H2_ := (Option.bind_some _ _).symm.trans H; with_reducible exact H2_) | with_reducible exact H | (rw [hy320]; exact H) | exact H
                                  have Ny320 := Aside0.mk hy320
                                  clear hy320
                                  have H' := Aside0.mk H
                                  clear H
                                  have p35 : 0 ≤ (0 : Int) := (by omega)
                                  have q35 : (0 : Int) < ((x9_3.length : Int) : Int) := of_decide_eq_true (by first | (with_reducible assumption) | assumption)
                                  have qi35 : (0 < x9_3.length) = True := eq_true (by omega)
                                  obtain ⟨hx35_0, hf35_0⟩ := Kd.R_celln 0 HO_9.out (0 : Int) p35 q35
                                  (try rw [show ((0 : Int)).toNat = 0 from rfl] at hx35_0)
                                  (try simp only [Nat.reduceMul, Nat.zero_mul, Nat.zero_add, Nat.reduceAdd] at hx35_0)
                                  (try rw [show ((0 : Int)).toNat = 0 from rfl] at hf35_0)
                                  (try simp only [Nat.reduceMul, Nat.zero_mul, Nat.zero_add, Nat.reduceAdd] at hf35_0)
                                  replace p35 := eq_true p35
                                  replace q35 := eq_true q35
                                  have HP36 := Kd.R_putg HO_9.out (0 : Int) ji33
                                  go_wp2_with (first | ((with_reducible refine gate_store (t := 3) (p := 97) rfl ?_); (try (rw [drewN_self w31]; generalize hq_ : World.drewN w31 _ = w31; have n0_ := Aside0.mk (Kd.R_at hq_ HO_9.out); have n1_ := Aside0.mk (below_at hq_ HB.out); clear hq_ HO_9 HB; have HO_9 := n0_; have HB := n1_; clear n0_ n1_; (try (have HP36 := Kd.R_putg HO_9.out (0 : Int) ji33)); (try (obtain ⟨hx35_0, hf35_0⟩ := Kd.R_celln 0 HO_9.out (0 : Int) (of_eq_true p35) (of_eq_true q35))))); refine store_event (t := 3) (p := 97) (v := ?vo_w37) (w1 := (w31.setCell ⟨go28, (0 : Int).toNat, none⟩ (.int .i64 ji33))) ?hg ?ho ?hn ?hr ?_; (case ho => rfl); (case hg => rfl); (case hn => rfl); (case hr => first | (go_simp; done) | (go_simp; rfl)); intro w37 hw; have hg : w31.grownBy w37 (some go28) := (by rw [hw]; exact HP36.2); have hp_ : Kd.R (Kd.int .i64) 3 w37 w.heap.size (fun _ => True) (.slice (some ⟨go28, 0, none⟩) x9_3.length co14) y320 := (by rw [hw, Ny320.out]; exact HP36.1); clear HP36; have n0_ := Aside0.mk (hp_); have n1_ := Aside0.mk ((by rw [hw]; exact below_set (HB.out) GB28.out : Below w.heap.size w w37)); clear HO_9; clear HB; have HO_9 := n0_; have HB := n1_; clear n0_ n1_; clear hg hw hp_))
                                  repeat (go_quiet (first | ((with_reducible refine gate_store (t := 3) (p := 97) rfl ?_); (try (rw [drewN_self w31]; generalize hq_ : World.drewN w31 _ = w31; have n0_ := Aside0.mk (Kd.R_at hq_ HO_9.out); have n1_ := Aside0.mk (below_at hq_ HB.out); clear hq_ HO_9 HB; have HO_9 := n0_; have HB := n1_; clear n0_ n1_; (try (have HP36 := Kd.R_putg HO_9.out (0 : Int) ji33)); (try (obtain ⟨hx35_0, hf35_0⟩ := Kd.R_celln 0 HO_9.out (0 : Int) (of_eq_true p35) (of_eq_true q35))))); refine store_event (t := 3) (p := 97) (v := ?vo_w37) (w1 := (w31.setCell ⟨go28, (0 : Int).toNat, none⟩ (.int .i64 ji33))) ?hg ?ho ?hn ?hr ?_; (case ho => rfl); (case hg => rfl); (case hn => rfl); (case hr => first | (go_simp; done) | (go_simp; rfl)); intro w37 hw; have hg : w31.grownBy w37 (some go28) := (by rw [hw]; exact HP36.2); have hp_ : Kd.R (Kd.int .i64) 3 w37 w.heap.size (fun _ => True) (.slice (some ⟨go28, 0, none⟩) x9_3.length co14) y320 := (by rw [hw, Ny320.out]; exact HP36.1); clear HP36; have n0_ := Aside0.mk (hp_); have n1_ := Aside0.mk ((by rw [hw]; exact below_set (HB.out) GB28.out : Below w.heap.size w w37)); clear HO_9; clear HB; have HO_9 := n0_; have HB := n1_; clear n0_ n1_; clear hg hw hp_)); try go_wp2_with (first | ((with_reducible refine gate_store (t := 3) (p := 97) rfl ?_); (try (rw [drewN_self w31]; generalize hq_ : World.drewN w31 _ = w31; have n0_ := Aside0.mk (Kd.R_at hq_ HO_9.out); have n1_ := Aside0.mk (below_at hq_ HB.out); clear hq_ HO_9 HB; have HO_9 := n0_; have HB := n1_; clear n0_ n1_; (try (have HP36 := Kd.R_putg HO_9.out (0 : Int) ji33)); (try (obtain ⟨hx35_0, hf35_0⟩ := Kd.R_celln 0 HO_9.out (0 : Int) (of_eq_true p35) (of_eq_true q35))))); refine store_event (t := 3) (p := 97) (v := ?vo_w37) (w1 := (w31.setCell ⟨go28, (0 : Int).toNat, none⟩ (.int .i64 ji33))) ?hg ?ho ?hn ?hr ?_; (case ho => rfl); (case hg => rfl); (case hn => rfl); (case hr => first | (go_simp; done) | (go_simp; rfl)); intro w37 hw; have hg : w31.grownBy w37 (some go28) := (by rw [hw]; exact HP36.2); have hp_ : Kd.R (Kd.int .i64) 3 w37 w.heap.size (fun _ => True) (.slice (some ⟨go28, 0, none⟩) x9_3.length co14) y320 := (by rw [hw, Ny320.out]; exact HP36.1); clear HP36; have n0_ := Aside0.mk (hp_); have n1_ := Aside0.mk ((by rw [hw]; exact below_set (HB.out) GB28.out : Below w.heap.size w w37)); clear HO_9; clear HB; have HO_9 := n0_; have HB := n1_; clear n0_ n1_; clear hg hw hp_)))
                                  go_meet
                                  case rel => exact ⟨_, (y320), H', ⟨by have := HJ3.out; have := HK2.out; have := HK3.out; first | omega | exact Nat.le_refl _⟩, ⟨by (try simp only [hl9_2]); (try simp only [hl9_3]); (with_reducible repeat (first | apply Kd.R_alloc | apply Kd.R_drewN | apply Kd.R_drew)); exact HO_9.out⟩, ⟨by repeat (first | (with_reducible first | exact HB.out | apply below_alloc | apply pw_below_drewN | apply below_drew1) | exact HB.out)⟩⟩
                                · rw [if_neg c34] at H
                                  exact absurd H (by simp)
                              · rw [if_neg c32] at H
                                have c32b0 : ((ji23) == 1) = false := beq_eq_false_iff_ne.mpr c32
                                have c32b1 : ((ji23) != 1) = true := bne_iff_ne.mpr c32
                                (first | rw [c32b0] | (simp only [i64_w, i32_w]; rw [c32b0]) | skip)
                                have H' := Aside0.mk H
                                clear H
                                go_wp2
                                repeat (go_quiet (fail); try go_wp2)
                                go_meet
                                case rel => exact ⟨_, (y319), H', ⟨by have := HJ3.out; have := HK2.out; have := HK3.out; first | omega | exact Nat.le_refl _⟩, ⟨by (try simp only [hl9_2]); (try simp only [hl9_3]); (with_reducible repeat (first | apply Kd.R_alloc | apply Kd.R_drewN | apply Kd.R_drew)); exact HO_9.out⟩, ⟨by repeat (first | (with_reducible first | exact HB.out | apply below_alloc | apply pw_below_drewN | apply below_drew1) | exact HB.out)⟩⟩
                            case rest =>
                              clear HC29
                              try clear c1
                              try clear p1
                              try clear q1
                              try clear hx1
                              try clear c2
                              try clear p2
                              try clear q2
                              try clear hx2
                              try clear c3
                              try clear p3
                              try clear q3
                              try clear hx3
                              try clear qi3
                              try clear hf3
                              try clear c5
                              try clear c5b0
                              try clear c6
                              try clear c6b0
                              try clear p6
                              try clear c7
                              try clear c10
                              try clear c10b0
                              try clear c10b1
                              try clear c11
                              try clear c11b0
                              try clear c11b1
                              try clear c15
                              try clear c15b0
                              try clear c17
                              try clear c17b0
                              try clear c18
                              try clear c18b0
                              try clear p19
                              try clear q19
                              try clear hx19
                              try clear hf19
                              try clear c22
                              try clear c22b0
                              try clear c26
                              try clear c26b0
                              try clear c27
                              try clear c27b0
                              try clear p28
                              try clear q28
                              try clear hx28
                              try clear hf28
                              try clear p31
                              try clear q31
                              try clear hx31
                              try clear c32
                              try clear c32b0
                              try clear c32b1
                              try clear c34
                              try clear c34b0
                              try clear c34b1
                              try clear p35
                              try clear q35
                              try clear hx35
                              try clear qi35
                              try clear hf35
                              try clear hx19_0
                              try clear hx28_0
                              try clear hx318_0
                              try clear hx35_0
                              try clear p1
                              try clear p19
                              try clear p2
                              try clear p28
                              try clear p318
                              try clear p35
                              try clear p6
                              try clear q1
                              try clear q19
                              try clear q28
                              try clear q318
                              try clear q35
                              obtain ⟨kq, x9_28, HA, HJ28, HO_9, HB⟩ := hcut
                              have hl9_28 := (Kd.R_reads' HO_9.out).1
                              rw [hl9_28] at HO_9
                              (try simp only [hl9_28])
                              cases kq with
                              | zero => exact absurd HA.out (by simp [band_Within.j3])
                              | succ kj28 =>
                                have H := HA.out
                                clear HA
                                simp only [band_Within.j3] at H
                                have H' := Aside0.mk H
                                clear H
                                go_wp2
                                repeat (go_quiet (fail); try go_wp2)
                                go_loopg [14, 102] kj28 (fun kq v14 v102 w' => ∃ (x9_5 : List Int) (x14_5 : Int) (x102_5 : Int), v14 = .int .i64 x14_5 ∧ v102 = .int .i64 x102_5 ∧ Aside0 (band_Within.l2 kq l0 l1 ji8 (wrap64 ((ji8) + 1)) x9_5 x65_3 ji23 ji24 x14_5 (l0.length : Int) x65_3 (wrap64 ((wrap64 (ji24 - ji23)) + 1)) x102_5 = some (r1, r2)) ∧ Aside0 (kq ≤ kj28) ∧ Aside0 (Kd.R (Kd.int .i64) 3 w' w.heap.size (fun _ => True) (.slice (some ⟨go28, 0, none⟩) x9_28.length co14) x9_5) ∧ Aside0 (Below w.heap.size w w'))
                                case atStart => exact ⟨(x9_28), ((rd x9_3 (ji25))), (0), (by first | rfl | (simp; done) | (simp only [← hji25] <;> (first | rfl | simp)) | (simp [*]; done)), (by first | rfl | (simp; done) | (simp [*]; done)), H', ⟨Nat.le_refl _⟩, ⟨by (try simp only [hl9_2]); (try simp only [hl9_3]); (try simp only [hl9_28]); (with_reducible repeat (first | apply Kd.R_alloc | apply Kd.R_drewN | apply Kd.R_drew)); exact HO_9.out⟩, ⟨by repeat (first | (with_reducible first | exact HB.out | apply below_alloc | apply pw_below_drewN | apply below_drew1) | exact HB.out)⟩⟩
                                case round =>
                                  clear H'
                                  try clear c1
                                  try clear p1
                                  try clear q1
                                  try clear hx1
                                  try clear c2
                                  try clear p2
                                  try clear q2
                                  try clear hx2
                                  try clear c3
                                  try clear p3
                                  try clear q3
                                  try clear hx3
                                  try clear qi3
                                  try clear hf3
                                  try clear c5
                                  try clear c5b0
                                  try clear c6
                                  try clear c6b0
                                  try clear p6
                                  try clear c7
                                  try clear c10
                                  try clear c10b0
                                  try clear c10b1
                                  try clear c11
                                  try clear c11b0
                                  try clear c11b1
                                  try clear c15
                                  try clear c15b0
                                  try clear c17
                                  try clear c17b0
                                  try clear c18
                                  try clear c18b0
                                  try clear p19
                                  try clear q19
                                  try clear hx19
                                  try clear hf19
                                  try clear c22
                                  try clear c22b0
                                  try clear c26
                                  try clear c26b0
                                  try clear c27
                                  try clear c27b0
                                  try clear p28
                                  try clear q28
                                  try clear hx28
                                  try clear hf28
                                  try clear p31
                                  try clear q31
                                  try clear hx31
                                  try clear c32
                                  try clear c32b0
                                  try clear c32b1
                                  try clear c34
                                  try clear c34b0
                                  try clear c34b1
                                  try clear p35
                                  try clear q35
                                  try clear hx35
                                  try clear qi35
                                  try clear hf35
                                  try clear hx19_0
                                  try clear hx28_0
                                  try clear hx318_0
                                  try clear hx35_0
                                  try clear p1
                                  try clear p19
                                  try clear p2
                                  try clear p28
                                  try clear p3
                                  try clear p31
                                  try clear p318
                                  try clear p35
                                  try clear p6
                                  try clear q1
                                  try clear q19
                                  try clear q2
                                  try clear q28
                                  try clear q3
                                  try clear q31
                                  try clear q318
                                  try clear q35
                                  obtain ⟨x9_5, x14_5, x102_5, rfl, rfl, HA, HK5, HO_9, HB⟩ := hrel
                                  have hl9_5 := (Kd.R_reads' HO_9.out).1
                                  rw [hl9_5] at HO_9
                                  (try simp only [hl9_5])
                                  cases gk with
                                  | zero => exact absurd HA.out (by simp [band_Within.l2])
                                  | succ k5 =>
                                    have H := HA.out
                                    clear HA
                                    simp only [band_Within.l2] at H
                                    by_cases c38 : x102_5 < (wrap64 ((wrap64 (ji24 - ji23)) + 1))
                                    · rw [if_pos c38] at H
                                      have c38b0 : decide (x102_5 < (wrap64 ((wrap64 (ji24 - ji23)) + 1))) = true := decide_eq_true c38
                                      (try simp only [hl9_2, hl9_3, hl9_28, hl9_5] at c38b0)
                                      clear c38
                                      by_cases c39 : 0 ≤ x65_3
                                      · rw [if_pos c39] at H
                                        have c39b0 : decide (0 ≤ x65_3) = true := decide_eq_true c39
                                        (try simp only [hl9_2, hl9_3, hl9_28, hl9_5] at c39b0)
                                        clear c39
                                        by_cases c40 : x65_3 < (l0.length : Int)
                                        · rw [if_pos c40] at H
                                          have c40b0 : decide (x65_3 < (l0.length : Int)) = true := decide_eq_true c40
                                          (try simp only [hl9_2, hl9_3, hl9_28, hl9_5] at c40b0)
                                          clear c40
                                          obtain ⟨ji41, hji41⟩ : ∃ j_ : Int, (wrap64 ((wrap64 (x102_5 + ji23)) - 1)) = j_ := ⟨_, rfl⟩
                                          replace H : (if 0 ≤ (ji41) then (if (ji41) < (l1.length : Int) then (if (rd l0 x65_3) = (rd l1 (ji41)) then (if 0 ≤ (wrap64 (x102_5 + ji23)) then (if (wrap64 (x102_5 + ji23)) < (x9_5.length : Int) then (if (ji41) < (x9_5.length : Int) then (band_Within.l2 k5 l0 l1 ji8 (wrap64 ((ji8) + 1)) (x9_5.set ((wrap64 (x102_5 + ji23)) : Int).toNat (mn (mn (mn (wrap64 ((rd x9_5 (wrap64 (x102_5 + ji23))) + 1)) (wrap64 ((rd x9_5 (ji41)) + 1))) x14_5) (wrap64 ((ji8) + 1)))) x65_3 ji23 ji24 (rd x9_5 (wrap64 (x102_5 + ji23))) (l0.length : Int) x65_3 (wrap64 ((wrap64 (ji24 - ji23)) + 1)) (wrap64 (x102_5 + 1))) else (none)) else (none)) else (none)) else (if 0 ≤ (wrap64 (x102_5 + ji23)) then (if (wrap64 (x102_5 + ji23)) < (x9_5.length : Int) then (if (ji41) < (x9_5.length : Int) then (band_Within.l2 k5 l0 l1 ji8 (wrap64 ((ji8) + 1)) (x9_5.set ((wrap64 (x102_5 + ji23)) : Int).toNat (mn (mn (mn (wrap64 ((rd x9_5 (wrap64 (x102_5 + ji23))) + 1)) (wrap64 ((rd x9_5 (ji41)) + 1))) (wrap64 (x14_5 + 1))) (wrap64 ((ji8) + 1)))) x65_3 ji23 ji24 (rd x9_5 (wrap64 (x102_5 + ji23))) (l0.length : Int) x65_3 (wrap64 ((wrap64 (ji24 - ji23)) + 1)) (wrap64 (x102_5 + 1))) else (none)) else (none)) else (none))) else (none)) else (none)) = some (r1, r2) := by first | (rw [hji41] at H; exact H) | (simp only [hji41] at H ⊢; exact H)
                                          (try rw [hji41] at hji9w)
                                          (try rw [hji41] at hji25w)
                                          have hji41w : (IntKind.i64.wrap ((wrap64 (x102_5 + ji23)) - 1)) = ji41 := (i64_w _).trans hji41
                                          by_cases c42 : 0 ≤ (ji41)
                                          · rw [if_pos c42] at H
                                            have c42b0 : decide (0 ≤ (ji41)) = true := decide_eq_true c42
                                            (try simp only [hl9_2, hl9_3, hl9_28, hl9_5] at c42b0)
                                            clear c42
                                            by_cases c43 : (ji41) < (l1.length : Int)
                                            · rw [if_pos c43] at H
                                              have c43b0 : decide ((ji41) < (l1.length : Int)) = true := decide_eq_true c43
                                              (try simp only [hl9_2, hl9_3, hl9_28, hl9_5] at c43b0)
                                              clear c43
                                              by_cases c44 : (rd l0 x65_3) = (rd l1 (ji41))
                                              · rw [if_pos c44] at H
                                                have c44b0 : ((rd l0 x65_3) == (rd l1 (ji41))) = true := beq_iff_eq.mpr c44
                                                have c44b1 : ((rd l0 x65_3) != (rd l1 (ji41))) = false := bne_eq_false_iff_eq.mpr c44
                                                clear c44
                                                obtain ⟨ji45, hji45⟩ : ∃ j_ : Int, (wrap64 (x102_5 + ji23)) = j_ := ⟨_, rfl⟩
                                                replace H : (if 0 ≤ (ji45) then (if (ji45) < (x9_5.length : Int) then (if (ji41) < (x9_5.length : Int) then (band_Within.l2 k5 l0 l1 ji8 (wrap64 ((ji8) + 1)) (x9_5.set ((ji45) : Int).toNat (mn (mn (mn (wrap64 ((rd x9_5 (ji45)) + 1)) (wrap64 ((rd x9_5 (ji41)) + 1))) x14_5) (wrap64 ((ji8) + 1)))) x65_3 ji23 ji24 (rd x9_5 (ji45)) (l0.length : Int) x65_3 (wrap64 ((wrap64 (ji24 - ji23)) + 1)) (wrap64 (x102_5 + 1))) else (none)) else (none)) else (none)) = some (r1, r2) := by first | (rw [hji45] at H; exact H) | (simp only [hji45] at H ⊢; exact H)
                                                (try rw [hji45] at hji9w)
                                                (try rw [hji45] at hji25w)
                                                (try rw [hji45] at hji41w)
                                                have hji45w : (IntKind.i64.wrap (x102_5 + ji23)) = ji45 := (i64_w _).trans hji45
                                                by_cases c46 : 0 ≤ (ji45)
                                                · rw [if_pos c46] at H
                                                  have c46b0 : decide (0 ≤ (ji45)) = true := decide_eq_true c46
                                                  (try simp only [hl9_2, hl9_3, hl9_28, hl9_5] at c46b0)
                                                  clear c46
                                                  by_cases c47 : (ji45) < (x9_5.length : Int)
                                                  · rw [if_pos c47] at H
                                                    have c47b0 : decide ((ji45) < (x9_5.length : Int)) = true := decide_eq_true c47
                                                    (try simp only [hl9_2, hl9_3, hl9_28, hl9_5] at c47b0)
                                                    clear c47
                                                    by_cases c48 : (ji41) < (x9_5.length : Int)
                                                    · rw [if_pos c48] at H
                                                      have c48b0 : decide ((ji41) < (x9_5.length : Int)) = true := decide_eq_true c48
                                                      (try simp only [hl9_2, hl9_3, hl9_28, hl9_5] at c48b0)
                                                      clear c48
                                                      obtain ⟨ji49, hji49⟩ : ∃ j_ : Int, (mn (wrap64 ((rd x9_5 (ji45)) + 1)) (wrap64 ((rd x9_5 (ji41)) + 1))) = j_ := ⟨_, rfl⟩
                                                      replace H : (band_Within.l2 k5 l0 l1 ji8 (wrap64 ((ji8) + 1)) (x9_5.set ((ji45) : Int).toNat (mn (mn (ji49) x14_5) (wrap64 ((ji8) + 1)))) x65_3 ji23 ji24 (rd x9_5 (ji45)) (l0.length : Int) x65_3 (wrap64 ((wrap64 (ji24 - ji23)) + 1)) (wrap64 (x102_5 + 1))) = some (r1, r2) := by first | (rw [hji49] at H; exact H) | (simp only [hji49] at H ⊢; exact H)
                                                      (try rw [hji49] at hji9w)
                                                      (try rw [hji49] at hji25w)
                                                      (try rw [hji49] at hji41w)
                                                      (try rw [hji49] at hji45w)
                                                      have hji49_ : (if (wrap64 ((rd x9_5 (ji41)) + 1)) < (wrap64 ((rd x9_5 (ji45)) + 1)) then (wrap64 ((rd x9_5 (ji41)) + 1)) else (wrap64 ((rd x9_5 (ji45)) + 1))) = ji49 := hji49
                                                      obtain ⟨ji50, hji50⟩ : ∃ j_ : Int, (mn (ji49) x14_5) = j_ := ⟨_, rfl⟩
                                                      replace H : (band_Within.l2 k5 l0 l1 ji8 (wrap64 ((ji8) + 1)) (x9_5.set ((ji45) : Int).toNat (mn (ji50) (wrap64 ((ji8) + 1)))) x65_3 ji23 ji24 (rd x9_5 (ji45)) (l0.length : Int) x65_3 (wrap64 ((wrap64 (ji24 - ji23)) + 1)) (wrap64 (x102_5 + 1))) = some (r1, r2) := by first | (rw [hji50] at H; exact H) | (simp only [hji50] at H ⊢; exact H)
                                                      (try rw [hji50] at hji9w)
                                                      (try rw [hji50] at hji25w)
                                                      (try rw [hji50] at hji41w)
                                                      (try rw [hji50] at hji45w)
                                                      have hji50_ : (if x14_5 < (ji49) then x14_5 else (ji49)) = ji50 := hji50
                                                      obtain ⟨ji51, hji51⟩ : ∃ j_ : Int, (mn (ji50) (wrap64 ((ji8) + 1))) = j_ := ⟨_, rfl⟩
                                                      replace H : (band_Within.l2 k5 l0 l1 ji8 (wrap64 ((ji8) + 1)) (x9_5.set ((ji45) : Int).toNat (ji51)) x65_3 ji23 ji24 (rd x9_5 (ji45)) (l0.length : Int) x65_3 (wrap64 ((wrap64 (ji24 - ji23)) + 1)) (wrap64 (x102_5 + 1))) = some (r1, r2) := by first | (rw [hji51] at H; exact H) | (simp only [hji51] at H ⊢; exact H)
                                                      (try rw [hji51] at hji9w)
                                                      (try rw [hji51] at hji25w)
                                                      (try rw [hji51] at hji41w)
                                                      (try rw [hji51] at hji45w)
                                                      have hji51_ : (if (wrap64 ((ji8) + 1)) < (ji50) then (wrap64 ((ji8) + 1)) else (ji50)) = ji51 := hji51
                                                      obtain ⟨y325, hy325⟩ : ∃ y_ : List Int, y_ = (x9_5.set ((ji45) : Int).toNat (ji51)) := ⟨_, rfl⟩
                                                      replace H : (band_Within.l2 k5 l0 l1 ji8 (wrap64 ((ji8) + 1)) y325 x65_3 ji23 ji24 (rd x9_5 (ji45)) (l0.length : Int) x65_3 (wrap64 ((wrap64 (ji24 - ji23)) + 1)) (wrap64 (x102_5 + 1))) = some (r1, r2) := by first | (rw [hy325]; with_reducible exact H) | (have H2_ := (Option.bind_some _ _).symm.trans H; rw [hy325]; with_reducible exact H2_) | (have H2_ := (Option.bind_some _ _).symm.trans H; with_reducible exact H2_) | with_reducible exact H | (rw [hy325]; exact H) | exact H
                                                      have Ny325 := Aside0.mk hy325
                                                      clear hy325
                                                      have H' := Aside0.mk H
                                                      clear H
                                                      have p321 : 0 ≤ (x65_3 : Int) := of_decide_eq_true (by first | (with_reducible assumption) | assumption)
                                                      have q321 : x65_3 < (l0.length : Int) := of_decide_eq_true (by first | (with_reducible assumption) | assumption)
                                                      obtain ⟨ad321, e321, hx321_0⟩ := Kd.at_int HR0.out x65_3 p321 q321
                                                      cases e321
                                                      replace hx321_0 := (HB.out.cell (World.block_lt_of_cell? w _ hx321_0)).trans hx321_0
                                                      replace p321 := eq_true p321
                                                      replace q321 := eq_true q321
                                                      have p322 : 0 ≤ ((ji41) : Int) := of_decide_eq_true (by first | (with_reducible assumption) | assumption)
                                                      have q322 : (ji41) < (l1.length : Int) := of_decide_eq_true (by first | (with_reducible assumption) | assumption)
                                                      obtain ⟨ad322, e322, hx322_0⟩ := Kd.at_int HR1.out (ji41) p322 q322
                                                      cases e322
                                                      replace hx322_0 := (HB.out.cell (World.block_lt_of_cell? w _ hx322_0)).trans hx322_0
                                                      replace p322 := eq_true p322
                                                      replace q322 := eq_true q322
                                                      have p323 : 0 ≤ ((ji45) : Int) := of_decide_eq_true (by first | (with_reducible assumption) | assumption)
                                                      have q323 : (ji45) < (x9_5.length : Int) := of_decide_eq_true (by first | (with_reducible assumption) | assumption)
                                                      obtain ⟨ad323, e323, hx323_0⟩ := Kd.at_int (Kd.R_reads' HO_9.out).2.2 (ji45) p323 q323
                                                      obtain rfl : (⟨go28, 0, none⟩ : Addr) = ad323 := (by injection e323)
                                                      (first | simp only [add_plain] at hx323_0 | simp only [add_at] at hx323_0 | simp only [Addr.add, Nat.zero_add] at hx323_0 | skip)
                                                      replace p323 := eq_true p323
                                                      replace q323 := eq_true q323
                                                      have p324 : 0 ≤ ((ji41) : Int) := of_decide_eq_true (by first | (with_reducible assumption) | assumption)
                                                      have q324 : (ji41) < (x9_5.length : Int) := of_decide_eq_true (by first | (with_reducible assumption) | assumption)
                                                      obtain ⟨ad324, e324, hx324_0⟩ := Kd.at_int (Kd.R_reads' HO_9.out).2.2 (ji41) p324 q324
                                                      obtain rfl : (⟨go28, 0, none⟩ : Addr) = ad324 := (by injection e324)
                                                      (first | simp only [add_plain] at hx324_0 | simp only [add_at] at hx324_0 | simp only [Addr.add, Nat.zero_add] at hx324_0 | skip)
                                                      replace p324 := eq_true p324
                                                      replace q324 := eq_true q324
                                                      have p52 : 0 ≤ ((ji45) : Int) := of_decide_eq_true (by first | (with_reducible assumption) | assumption)
                                                      have q52 : ((ji45) : Int) < ((x9_5.length : Int) : Int) := of_decide_eq_true (by first | (with_reducible assumption) | assumption)
                                                      obtain ⟨hx52_0, hf52_0⟩ := Kd.R_celln 0 HO_9.out ((ji45) : Int) p52 q52
                                                      replace p52 := eq_true p52
                                                      replace q52 := eq_true q52
                                                      have HP53 := Kd.R_putg HO_9.out ((ji45) : Int) ji51
                                                      go_wp2_with (first | ((with_reducible refine gate_store (t := 3) (p := 138) rfl ?_); (try (rw [drewN_self wr]; generalize hq_ : World.drewN wr _ = wr; have n0_ := Aside0.mk (Kd.R_at hq_ HO_9.out); have n1_ := Aside0.mk (below_at hq_ HB.out); clear hq_ HO_9 HB; have HO_9 := n0_; have HB := n1_; clear n0_ n1_; (try (have HP53 := Kd.R_putg HO_9.out ((ji45) : Int) ji51)); (try (obtain ⟨hx52_0, hf52_0⟩ := Kd.R_celln 0 HO_9.out ((ji45) : Int) (of_eq_true p52) (of_eq_true q52))))); refine store_event (t := 3) (p := 138) (v := ?vo_w54) (w1 := (wr.setCell ⟨go28, ((ji45) : Int).toNat, none⟩ (.int .i64 ji51))) ?hg ?ho ?hn ?hr ?_; (case ho => rfl); (case hg => rfl); (case hn => rfl); (case hr => first | (go_simp; done) | (go_simp; rfl)); intro w54 hw; have hg : wr.grownBy w54 (some go28) := (by rw [hw]; exact HP53.2); have hp_ : Kd.R (Kd.int .i64) 3 w54 w.heap.size (fun _ => True) (.slice (some ⟨go28, 0, none⟩) x9_5.length co14) y325 := (by rw [hw, Ny325.out]; exact HP53.1); clear HP53; have n0_ := Aside0.mk (hp_); have n1_ := Aside0.mk ((by rw [hw]; exact below_set (HB.out) GB28.out : Below w.heap.size w w54)); clear HO_9; clear HB; have HO_9 := n0_; have HB := n1_; clear n0_ n1_; clear hg hw hp_))
                                                      repeat (go_quiet (first | ((with_reducible refine gate_store (t := 3) (p := 138) rfl ?_); (try (rw [drewN_self wr]; generalize hq_ : World.drewN wr _ = wr; have n0_ := Aside0.mk (Kd.R_at hq_ HO_9.out); have n1_ := Aside0.mk (below_at hq_ HB.out); clear hq_ HO_9 HB; have HO_9 := n0_; have HB := n1_; clear n0_ n1_; (try (have HP53 := Kd.R_putg HO_9.out ((ji45) : Int) ji51)); (try (obtain ⟨hx52_0, hf52_0⟩ := Kd.R_celln 0 HO_9.out ((ji45) : Int) (of_eq_true p52) (of_eq_true q52))))); refine store_event (t := 3) (p := 138) (v := ?vo_w54) (w1 := (wr.setCell ⟨go28, ((ji45) : Int).toNat, none⟩ (.int .i64 ji51))) ?hg ?ho ?hn ?hr ?_; (case ho => rfl); (case hg => rfl); (case hn => rfl); (case hr => first | (go_simp; done) | (go_simp; rfl)); intro w54 hw; have hg : wr.grownBy w54 (some go28) := (by rw [hw]; exact HP53.2); have hp_ : Kd.R (Kd.int .i64) 3 w54 w.heap.size (fun _ => True) (.slice (some ⟨go28, 0, none⟩) x9_5.length co14) y325 := (by rw [hw, Ny325.out]; exact HP53.1); clear HP53; have n0_ := Aside0.mk (hp_); have n1_ := Aside0.mk ((by rw [hw]; exact below_set (HB.out) GB28.out : Below w.heap.size w w54)); clear HO_9; clear HB; have HO_9 := n0_; have HB := n1_; clear n0_ n1_; clear hg hw hp_)); try go_wp2_with (first | ((with_reducible refine gate_store (t := 3) (p := 138) rfl ?_); (try (rw [drewN_self wr]; generalize hq_ : World.drewN wr _ = wr; have n0_ := Aside0.mk (Kd.R_at hq_ HO_9.out); have n1_ := Aside0.mk (below_at hq_ HB.out); clear hq_ HO_9 HB; have HO_9 := n0_; have HB := n1_; clear n0_ n1_; (try (have HP53 := Kd.R_putg HO_9.out ((ji45) : Int) ji51)); (try (obtain ⟨hx52_0, hf52_0⟩ := Kd.R_celln 0 HO_9.out ((ji45) : Int) (of_eq_true p52) (of_eq_true q52))))); refine store_event (t := 3) (p := 138) (v := ?vo_w54) (w1 := (wr.setCell ⟨go28, ((ji45) : Int).toNat, none⟩ (.int .i64 ji51))) ?hg ?ho ?hn ?hr ?_; (case ho => rfl); (case hg => rfl); (case hn => rfl); (case hr => first | (go_simp; done) | (go_simp; rfl)); intro w54 hw; have hg : wr.grownBy w54 (some go28) := (by rw [hw]; exact HP53.2); have hp_ : Kd.R (Kd.int .i64) 3 w54 w.heap.size (fun _ => True) (.slice (some ⟨go28, 0, none⟩) x9_5.length co14) y325 := (by rw [hw, Ny325.out]; exact HP53.1); clear HP53; have n0_ := Aside0.mk (hp_); have n1_ := Aside0.mk ((by rw [hw]; exact below_set (HB.out) GB28.out : Below w.heap.size w w54)); clear HO_9; clear HB; have HO_9 := n0_; have HB := n1_; clear n0_ n1_; clear hg hw hp_)))
                                                      (try simp only [← hl9_5])
                                                      go_roundg k5
                                                      case measure => have := HJ3.out; have := HK2.out; have := HK3.out; have := HJ28.out; have := HK5.out; omega
                                                      case rel => exact ⟨(y325), (rd x9_5 (ji45)), (wrap64 (x102_5 + 1)), (by first | rfl | (simp; done) | (simp only [← hji45] <;> (first | rfl | simp)) | (simp [*]; done)), (by first | rfl | (simp; done) | (simp [*]; done)), H', ⟨by have := HJ3.out; have := HK2.out; have := HK3.out; have := HJ28.out; have := HK5.out; omega⟩, ⟨by (try simp only [hl9_2]); (try simp only [hl9_3]); (try simp only [hl9_28]); (try simp only [hl9_5]); (with_reducible repeat (first | apply Kd.R_alloc | apply Kd.R_drewN | apply Kd.R_drew)); exact HO_9.out⟩, ⟨by repeat (first | (with_reducible first | exact HB.out | apply below_alloc | apply pw_below_drewN | apply below_drew1) | exact HB.out)⟩⟩
                                                    · rw [if_neg c48] at H
                                                      exact absurd H (by simp)
                                                  · rw [if_neg c47] at H
                                                    exact absurd H (by simp)
                                                · rw [if_neg c46] at H
                                                  exact absurd H (by simp)
                                              · rw [if_neg c44] at H
                                                have c44b0 : ((rd l0 x65_3) == (rd l1 (ji41))) = false := beq_eq_false_iff_ne.mpr c44
                                                have c44b1 : ((rd l0 x65_3) != (rd l1 (ji41))) = true := bne_iff_ne.mpr c44
                                                obtain ⟨ji55, hji55⟩ : ∃ j_ : Int, (wrap64 (x102_5 + ji23)) = j_ := ⟨_, rfl⟩
                                                replace H : (if 0 ≤ (ji55) then (if (ji55) < (x9_5.length : Int) then (if (ji41) < (x9_5.length : Int) then (band_Within.l2 k5 l0 l1 ji8 (wrap64 ((ji8) + 1)) (x9_5.set ((ji55) : Int).toNat (mn (mn (mn (wrap64 ((rd x9_5 (ji55)) + 1)) (wrap64 ((rd x9_5 (ji41)) + 1))) (wrap64 (x14_5 + 1))) (wrap64 ((ji8) + 1)))) x65_3 ji23 ji24 (rd x9_5 (ji55)) (l0.length : Int) x65_3 (wrap64 ((wrap64 (ji24 - ji23)) + 1)) (wrap64 (x102_5 + 1))) else (none)) else (none)) else (none)) = some (r1, r2) := by first | (rw [hji55] at H; exact H) | (simp only [hji55] at H ⊢; exact H)
                                                (try rw [hji55] at hji9w)
                                                (try rw [hji55] at hji25w)
                                                (try rw [hji55] at hji41w)
                                                have hji55w : (IntKind.i64.wrap (x102_5 + ji23)) = ji55 := (i64_w _).trans hji55
                                                by_cases c56 : 0 ≤ (ji55)
                                                · rw [if_pos c56] at H
                                                  have c56b0 : decide (0 ≤ (ji55)) = true := decide_eq_true c56
                                                  (try simp only [hl9_2, hl9_3, hl9_28, hl9_5] at c56b0)
                                                  clear c56
                                                  by_cases c57 : (ji55) < (x9_5.length : Int)
                                                  · rw [if_pos c57] at H
                                                    have c57b0 : decide ((ji55) < (x9_5.length : Int)) = true := decide_eq_true c57
                                                    (try simp only [hl9_2, hl9_3, hl9_28, hl9_5] at c57b0)
                                                    clear c57
                                                    by_cases c58 : (ji41) < (x9_5.length : Int)
                                                    · rw [if_pos c58] at H
                                                      have c58b0 : decide ((ji41) < (x9_5.length : Int)) = true := decide_eq_true c58
                                                      (try simp only [hl9_2, hl9_3, hl9_28, hl9_5] at c58b0)
                                                      clear c58
                                                      obtain ⟨ji59, hji59⟩ : ∃ j_ : Int, (mn (wrap64 ((rd x9_5 (ji55)) + 1)) (wrap64 ((rd x9_5 (ji41)) + 1))) = j_ := ⟨_, rfl⟩
                                                      replace H : (band_Within.l2 k5 l0 l1 ji8 (wrap64 ((ji8) + 1)) (x9_5.set ((ji55) : Int).toNat (mn (mn (ji59) (wrap64 (x14_5 + 1))) (wrap64 ((ji8) + 1)))) x65_3 ji23 ji24 (rd x9_5 (ji55)) (l0.length : Int) x65_3 (wrap64 ((wrap64 (ji24 - ji23)) + 1)) (wrap64 (x102_5 + 1))) = some (r1, r2) := by first | (rw [hji59] at H; exact H) | (simp only [hji59] at H ⊢; exact H)
                                                      (try rw [hji59] at hji9w)
                                                      (try rw [hji59] at hji25w)
                                                      (try rw [hji59] at hji41w)
                                                      (try rw [hji59] at hji55w)
                                                      have hji59_ : (if (wrap64 ((rd x9_5 (ji41)) + 1)) < (wrap64 ((rd x9_5 (ji55)) + 1)) then (wrap64 ((rd x9_5 (ji41)) + 1)) else (wrap64 ((rd x9_5 (ji55)) + 1))) = ji59 := hji59
                                                      obtain ⟨ji60, hji60⟩ : ∃ j_ : Int, (mn (ji59) (wrap64 (x14_5 + 1))) = j_ := ⟨_, rfl⟩
                                                      replace H : (band_Within.l2 k5 l0 l1 ji8 (wrap64 ((ji8) + 1)) (x9_5.set ((ji55) : Int).toNat (mn (ji60) (wrap64 ((ji8) + 1)))) x65_3 ji23 ji24 (rd x9_5 (ji55)) (l0.length : Int) x65_3 (wrap64 ((wrap64 (ji24 - ji23)) + 1)) (wrap64 (x102_5 + 1))) = some (r1, r2) := by first | (rw [hji60] at H; exact H) | (simp only [hji60] at H ⊢; exact H)
                                                      (try rw [hji60] at hji9w)
                                                      (try rw [hji60] at hji25w)
                                                      (try rw [hji60] at hji41w)
                                                      (try rw [hji60] at hji55w)
                                                      have hji60_ : (if (wrap64 (x14_5 + 1)) < (ji59) then (wrap64 (x14_5 + 1)) else (ji59)) = ji60 := hji60
                                                      obtain ⟨ji61, hji61⟩ : ∃ j_ : Int, (mn (ji60) (wrap64 ((ji8) + 1))) = j_ := ⟨_, rfl⟩
                                                      replace H : (band_Within.l2 k5 l0 l1 ji8 (wrap64 ((ji8) + 1)) (x9_5.set ((ji55) : Int).toNat (ji61)) x65_3 ji23 ji24 (rd x9_5 (ji55)) (l0.length : Int) x65_3 (wrap64 ((wrap64 (ji24 - ji23)) + 1)) (wrap64 (x102_5 + 1))) = some (r1, r2) := by first | (rw [hji61] at H; exact H) | (simp only [hji61] at H ⊢; exact H)
                                                      (try rw [hji61] at hji9w)
                                                      (try rw [hji61] at hji25w)
                                                      (try rw [hji61] at hji41w)
                                                      (try rw [hji61] at hji55w)
                                                      have hji61_ : (if (wrap64 ((ji8) + 1)) < (ji60) then (wrap64 ((ji8) + 1)) else (ji60)) = ji61 := hji61
                                                      obtain ⟨y328, hy328⟩ : ∃ y_ : List Int, y_ = (x9_5.set ((ji55) : Int).toNat (ji61)) := ⟨_, rfl⟩
                                                      replace H : (band_Within.l2 k5 l0 l1 ji8 (wrap64 ((ji8) + 1)) y328 x65_3 ji23 ji24 (rd x9_5 (ji55)) (l0.length : Int) x65_3 (wrap64 ((wrap64 (ji24 - ji23)) + 1)) (wrap64 (x102_5 + 1))) = some (r1, r2) := by first | (rw [hy328]; with_reducible exact H) | (have H2_ := (Option.bind_some _ _).symm.trans H; rw [hy328]; with_reducible exact H2_) | (have H2_ := (Option.bind_some _ _).symm.trans H; with_reducible exact H2_) | with_reducible exact H | (rw [hy328]; exact H) | exact H
                                                      have Ny328 := Aside0.mk hy328
                                                      clear hy328
                                                      have H' := Aside0.mk H
                                                      clear H
                                                      have p321 : 0 ≤ (x65_3 : Int) := of_decide_eq_true (by first | (with_reducible assumption) | assumption)
                                                      have q321 : x65_3 < (l0.length : Int) := of_decide_eq_true (by first | (with_reducible assumption) | assumption)
                                                      obtain ⟨ad321, e321, hx321_0⟩ := Kd.at_int HR0.out x65_3 p321 q321
                                                      cases e321
                                                      replace hx321_0 := (HB.out.cell (World.block_lt_of_cell? w _ hx321_0)).trans hx321_0
                                                      replace p321 := eq_true p321
                                                      replace q321 := eq_true q321
                                                      have p322 : 0 ≤ ((ji41) : Int) := of_decide_eq_true (by first | (with_reducible assumption) | assumption)
                                                      have q322 : (ji41) < (l1.length : Int) := of_decide_eq_true (by first | (with_reducible assumption) | assumption)
                                                      obtain ⟨ad322, e322, hx322_0⟩ := Kd.at_int HR1.out (ji41) p322 q322
                                                      cases e322
                                                      replace hx322_0 := (HB.out.cell (World.block_lt_of_cell? w _ hx322_0)).trans hx322_0
                                                      replace p322 := eq_true p322
                                                      replace q322 := eq_true q322
                                                      have p326 : 0 ≤ ((ji55) : Int) := of_decide_eq_true (by first | (with_reducible assumption) | assumption)
                                                      have q326 : (ji55) < (x9_5.length : Int) := of_decide_eq_true (by first | (with_reducible assumption) | assumption)
                                                      obtain ⟨ad326, e326, hx326_0⟩ := Kd.at_int (Kd.R_reads' HO_9.out).2.2 (ji55) p326 q326
                                                      obtain rfl : (⟨go28, 0, none⟩ : Addr) = ad326 := (by injection e326)
                                                      (first | simp only [add_plain] at hx326_0 | simp only [add_at] at hx326_0 | simp only [Addr.add, Nat.zero_add] at hx326_0 | skip)
                                                      replace p326 := eq_true p326
                                                      replace q326 := eq_true q326
                                                      have p327 : 0 ≤ ((ji41) : Int) := of_decide_eq_true (by first | (with_reducible assumption) | assumption)
                                                      have q327 : (ji41) < (x9_5.length : Int) := of_decide_eq_true (by first | (with_reducible assumption) | assumption)
                                                      obtain ⟨ad327, e327, hx327_0⟩ := Kd.at_int (Kd.R_reads' HO_9.out).2.2 (ji41) p327 q327
                                                      obtain rfl : (⟨go28, 0, none⟩ : Addr) = ad327 := (by injection e327)
                                                      (first | simp only [add_plain] at hx327_0 | simp only [add_at] at hx327_0 | simp only [Addr.add, Nat.zero_add] at hx327_0 | skip)
                                                      replace p327 := eq_true p327
                                                      replace q327 := eq_true q327
                                                      have p62 : 0 ≤ ((ji55) : Int) := of_decide_eq_true (by first | (with_reducible assumption) | assumption)
                                                      have q62 : ((ji55) : Int) < ((x9_5.length : Int) : Int) := of_decide_eq_true (by first | (with_reducible assumption) | assumption)
                                                      obtain ⟨hx62_0, hf62_0⟩ := Kd.R_celln 0 HO_9.out ((ji55) : Int) p62 q62
                                                      replace p62 := eq_true p62
                                                      replace q62 := eq_true q62
                                                      have HP63 := Kd.R_putg HO_9.out ((ji55) : Int) ji61
                                                      go_wp2_with (first | ((with_reducible refine gate_store (t := 3) (p := 138) rfl ?_); (try (rw [drewN_self wr]; generalize hq_ : World.drewN wr _ = wr; have n0_ := Aside0.mk (Kd.R_at hq_ HO_9.out); have n1_ := Aside0.mk (below_at hq_ HB.out); clear hq_ HO_9 HB; have HO_9 := n0_; have HB := n1_; clear n0_ n1_; (try (have HP63 := Kd.R_putg HO_9.out ((ji55) : Int) ji61)); (try (obtain ⟨hx62_0, hf62_0⟩ := Kd.R_celln 0 HO_9.out ((ji55) : Int) (of_eq_true p62) (of_eq_true q62))))); refine store_event (t := 3) (p := 138) (v := ?vo_w64) (w1 := (wr.setCell ⟨go28, ((ji55) : Int).toNat, none⟩ (.int .i64 ji61))) ?hg ?ho ?hn ?hr ?_; (case ho => rfl); (case hg => rfl); (case hn => rfl); (case hr => first | (go_simp; done) | (go_simp; rfl)); intro w64 hw; have hg : wr.grownBy w64 (some go28) := (by rw [hw]; exact HP63.2); have hp_ : Kd.R (Kd.int .i64) 3 w64 w.heap.size (fun _ => True) (.slice (some ⟨go28, 0, none⟩) x9_5.length co14) y328 := (by rw [hw, Ny328.out]; exact HP63.1); clear HP63; have n0_ := Aside0.mk (hp_); have n1_ := Aside0.mk ((by rw [hw]; exact below_set (HB.out) GB28.out : Below w.heap.size w w64)); clear HO_9; clear HB; have HO_9 := n0_; have HB := n1_; clear n0_ n1_; clear hg hw hp_))
                                                      repeat (go_quiet (first | ((with_reducible refine gate_store (t := 3) (p := 138) rfl ?_); (try (rw [drewN_self wr]; generalize hq_ : World.drewN wr _ = wr; have n0_ := Aside0.mk (Kd.R_at hq_ HO_9.out); have n1_ := Aside0.mk (below_at hq_ HB.out); clear hq_ HO_9 HB; have HO_9 := n0_; have HB := n1_; clear n0_ n1_; (try (have HP63 := Kd.R_putg HO_9.out ((ji55) : Int) ji61)); (try (obtain ⟨hx62_0, hf62_0⟩ := Kd.R_celln 0 HO_9.out ((ji55) : Int) (of_eq_true p62) (of_eq_true q62))))); refine store_event (t := 3) (p := 138) (v := ?vo_w64) (w1 := (wr.setCell ⟨go28, ((ji55) : Int).toNat, none⟩ (.int .i64 ji61))) ?hg ?ho ?hn ?hr ?_; (case ho => rfl); (case hg => rfl); (case hn => rfl); (case hr => first | (go_simp; done) | (go_simp; rfl)); intro w64 hw; have hg : wr.grownBy w64 (some go28) := (by rw [hw]; exact HP63.2); have hp_ : Kd.R (Kd.int .i64) 3 w64 w.heap.size (fun _ => True) (.slice (some ⟨go28, 0, none⟩) x9_5.length co14) y328 := (by rw [hw, Ny328.out]; exact HP63.1); clear HP63; have n0_ := Aside0.mk (hp_); have n1_ := Aside0.mk ((by rw [hw]; exact below_set (HB.out) GB28.out : Below w.heap.size w w64)); clear HO_9; clear HB; have HO_9 := n0_; have HB := n1_; clear n0_ n1_; clear hg hw hp_)); try go_wp2_with (first | ((with_reducible refine gate_store (t := 3) (p := 138) rfl ?_); (try (rw [drewN_self wr]; generalize hq_ : World.drewN wr _ = wr; have n0_ := Aside0.mk (Kd.R_at hq_ HO_9.out); have n1_ := Aside0.mk (below_at hq_ HB.out); clear hq_ HO_9 HB; have HO_9 := n0_; have HB := n1_; clear n0_ n1_; (try (have HP63 := Kd.R_putg HO_9.out ((ji55) : Int) ji61)); (try (obtain ⟨hx62_0, hf62_0⟩ := Kd.R_celln 0 HO_9.out ((ji55) : Int) (of_eq_true p62) (of_eq_true q62))))); refine store_event (t := 3) (p := 138) (v := ?vo_w64) (w1 := (wr.setCell ⟨go28, ((ji55) : Int).toNat, none⟩ (.int .i64 ji61))) ?hg ?ho ?hn ?hr ?_; (case ho => rfl); (case hg => rfl); (case hn => rfl); (case hr => first | (go_simp; done) | (go_simp; rfl)); intro w64 hw; have hg : wr.grownBy w64 (some go28) := (by rw [hw]; exact HP63.2); have hp_ : Kd.R (Kd.int .i64) 3 w64 w.heap.size (fun _ => True) (.slice (some ⟨go28, 0, none⟩) x9_5.length co14) y328 := (by rw [hw, Ny328.out]; exact HP63.1); clear HP63; have n0_ := Aside0.mk (hp_); have n1_ := Aside0.mk ((by rw [hw]; exact below_set (HB.out) GB28.out : Below w.heap.size w w64)); clear HO_9; clear HB; have HO_9 := n0_; have HB := n1_; clear n0_ n1_; clear hg hw hp_)))
                                                      (try simp only [← hl9_5])
                                                      go_roundg k5
                                                      case measure => have := HJ3.out; have := HK2.out; have := HK3.out; have := HJ28.out; have := HK5.out; omega
                                                      case rel => exact ⟨(y328), (rd x9_5 (ji55)), (wrap64 (x102_5 + 1)), (by first | rfl | (simp; done) | (simp only [← hji55] <;> (first | rfl | simp)) | (simp [*]; done)), (by first | rfl | (simp; done) | (simp [*]; done)), H', ⟨by have := HJ3.out; have := HK2.out; have := HK3.out; have := HJ28.out; have := HK5.out; omega⟩, ⟨by (try simp only [hl9_2]); (try simp only [hl9_3]); (try simp only [hl9_28]); (try simp only [hl9_5]); (with_reducible repeat (first | apply Kd.R_alloc | apply Kd.R_drewN | apply Kd.R_drew)); exact HO_9.out⟩, ⟨by repeat (first | (with_reducible first | exact HB.out | apply below_alloc | apply pw_below_drewN | apply below_drew1) | exact HB.out)⟩⟩
                                                    · rw [if_neg c58] at H
                                                      exact absurd H (by simp)
                                                  · rw [if_neg c57] at H
                                                    exact absurd H (by simp)
                                                · rw [if_neg c56] at H
                                                  exact absurd H (by simp)
                                            · rw [if_neg c43] at H
                                              exact absurd H (by simp)
                                          · rw [if_neg c42] at H
                                            exact absurd H (by simp)
                                        · rw [if_neg c40] at H
                                          exact absurd H (by simp)
                                      · rw [if_neg c39] at H
                                        exact absurd H (by simp)
                                    · rw [if_neg c38] at H
                                      have c38b0 : decide (x102_5 < (wrap64 ((wrap64 (ji24 - ji23)) + 1))) = false := decide_eq_false c38
                                      (try simp only [hl9_2, hl9_3, hl9_28, hl9_5] at c38b0)
                                      clear c38
                                      by_cases c65 : ji24 < (l1.length : Int)
                                      · rw [if_pos c65] at H
                                        have c65b0 : decide (ji24 < (l1.length : Int)) = true := decide_eq_true c65
                                        (try simp only [hl9_2, hl9_3, hl9_28, hl9_5] at c65b0)
                                        clear c65
                                        obtain ⟨ji66, hji66⟩ : ∃ j_ : Int, (wrap64 (ji24 + 1)) = j_ := ⟨_, rfl⟩
                                        replace H : (if 0 ≤ (ji66) then (if (ji66) < (x9_5.length : Int) then (band_Within.l1 k5 l0 l1 ji8 (wrap64 ((ji8) + 1)) (x9_5.set ((ji66) : Int).toNat (wrap64 ((ji8) + 1))) (l0.length : Int) (wrap64 (x65_3 + 1))) else (none)) else (none)) = some (r1, r2) := by first | (rw [hji66] at H; exact H) | (simp only [hji66] at H ⊢; exact H)
                                        (try rw [hji66] at hji9w)
                                        (try rw [hji66] at hji25w)
                                        have hji66w : (IntKind.i64.wrap (ji24 + 1)) = ji66 := (i64_w _).trans hji66
                                        by_cases c67 : 0 ≤ (ji66)
                                        · rw [if_pos c67] at H
                                          have c67b0 : decide (0 ≤ (ji66)) = true := decide_eq_true c67
                                          (try simp only [hl9_2, hl9_3, hl9_28, hl9_5] at c67b0)
                                          clear c67
                                          by_cases c68 : (ji66) < (x9_5.length : Int)
                                          · rw [if_pos c68] at H
                                            have c68b0 : decide ((ji66) < (x9_5.length : Int)) = true := decide_eq_true c68
                                            (try simp only [hl9_2, hl9_3, hl9_28, hl9_5] at c68b0)
                                            clear c68
                                            obtain ⟨y329, hy329⟩ : ∃ y_ : List Int, y_ = (x9_5.set ((ji66) : Int).toNat (wrap64 ((ji8) + 1))) := ⟨_, rfl⟩
                                            replace H : (band_Within.l1 k5 l0 l1 ji8 (wrap64 ((ji8) + 1)) y329 (l0.length : Int) (wrap64 (x65_3 + 1))) = some (r1, r2) := by first | (rw [hy329]; with_reducible exact H) | (have H2_ := (Option.bind_some _ _).symm.trans H; rw [hy329]; with_reducible exact H2_) | (have H2_ := (Option.bind_some _ _).symm.trans H; with_reducible exact H2_) | with_reducible exact H | (rw [hy329]; exact H) | exact H
                                            have Ny329 := Aside0.mk hy329
                                            clear hy329
                                            have H' := Aside0.mk H
                                            clear H
                                            have p69 : 0 ≤ ((ji66) : Int) := of_decide_eq_true (by first | (with_reducible assumption) | assumption)
                                            have q69 : ((ji66) : Int) < ((x9_5.length : Int) : Int) := of_decide_eq_true (by first | (with_reducible assumption) | assumption)
                                            obtain ⟨hx69_0, hf69_0⟩ := Kd.R_celln 0 HO_9.out ((ji66) : Int) p69 q69
                                            replace p69 := eq_true p69
                                            replace q69 := eq_true q69
                                            have HP70 := Kd.R_putg HO_9.out ((ji66) : Int) (wrap64 ((ji8) + 1))
                                            go_wp2_with (first | ((with_reducible refine gate_store (t := 3) (p := 148) rfl ?_); (try (rw [drewN_self wr]; generalize hq_ : World.drewN wr _ = wr; have n0_ := Aside0.mk (Kd.R_at hq_ HO_9.out); have n1_ := Aside0.mk (below_at hq_ HB.out); clear hq_ HO_9 HB; have HO_9 := n0_; have HB := n1_; clear n0_ n1_; (try (have HP70 := Kd.R_putg HO_9.out ((ji66) : Int) (wrap64 ((ji8) + 1)))))); refine store_event (t := 3) (p := 148) (v := ?vo_w71) (w1 := (wr.setCell ⟨go28, ((ji66) : Int).toNat, none⟩ (.int .i64 (wrap64 ((ji8) + 1))))) ?hg ?ho ?hn ?hr ?_; (case ho => rfl); (case hg => rfl); (case hn => rfl); (case hr => first | (go_simp; done) | (go_simp; rfl)); intro w71 hw; have hg : wr.grownBy w71 (some go28) := (by rw [hw]; exact HP70.2); have hp_ : Kd.R (Kd.int .i64) 3 w71 w.heap.size (fun _ => True) (.slice (some ⟨go28, 0, none⟩) x9_5.length co14) y329 := (by rw [hw, Ny329.out]; exact HP70.1); clear HP70; have n0_ := Aside0.mk (hp_); have n1_ := Aside0.mk ((by rw [hw]; exact below_set (HB.out) GB28.out : Below w.heap.size w w71)); clear HO_9; clear HB; have HO_9 := n0_; have HB := n1_; clear n0_ n1_; clear hg hw hp_))
                                            repeat (go_quiet (first | ((with_reducible refine gate_store (t := 3) (p := 148) rfl ?_); (try (rw [drewN_self wr]; generalize hq_ : World.drewN wr _ = wr; have n0_ := Aside0.mk (Kd.R_at hq_ HO_9.out); have n1_ := Aside0.mk (below_at hq_ HB.out); clear hq_ HO_9 HB; have HO_9 := n0_; have HB := n1_; clear n0_ n1_; (try (have HP70 := Kd.R_putg HO_9.out ((ji66) : Int) (wrap64 ((ji8) + 1)))))); refine store_event (t := 3) (p := 148) (v := ?vo_w71) (w1 := (wr.setCell ⟨go28, ((ji66) : Int).toNat, none⟩ (.int .i64 (wrap64 ((ji8) + 1))))) ?hg ?ho ?hn ?hr ?_; (case ho => rfl); (case hg => rfl); (case hn => rfl); (case hr => first | (go_simp; done) | (go_simp; rfl)); intro w71 hw; have hg : wr.grownBy w71 (some go28) := (by rw [hw]; exact HP70.2); have hp_ : Kd.R (Kd.int .i64) 3 w71 w.heap.size (fun _ => True) (.slice (some ⟨go28, 0, none⟩) x9_5.length co14) y329 := (by rw [hw, Ny329.out]; exact HP70.1); clear HP70; have n0_ := Aside0.mk (hp_); have n1_ := Aside0.mk ((by rw [hw]; exact below_set (HB.out) GB28.out : Below w.heap.size w w71)); clear HO_9; clear HB; have HO_9 := n0_; have HB := n1_; clear n0_ n1_; clear hg hw hp_)); try go_wp2_with (first | ((with_reducible refine gate_store (t := 3) (p := 148) rfl ?_); (try (rw [drewN_self wr]; generalize hq_ : World.drewN wr _ = wr; have n0_ := Aside0.mk (Kd.R_at hq_ HO_9.out); have n1_ := Aside0.mk (below_at hq_ HB.out); clear hq_ HO_9 HB; have HO_9 := n0_; have HB := n1_; clear n0_ n1_; (try (have HP70 := Kd.R_putg HO_9.out ((ji66) : Int) (wrap64 ((ji8) + 1)))))); refine store_event (t := 3) (p := 148) (v := ?vo_w71) (w1 := (wr.setCell ⟨go28, ((ji66) : Int).toNat, none⟩ (.int .i64 (wrap64 ((ji8) + 1))))) ?hg ?ho ?hn ?hr ?_; (case ho => rfl); (case hg => rfl); (case hn => rfl); (case hr => first | (go_simp; done) | (go_simp; rfl)); intro w71 hw; have hg : wr.grownBy w71 (some go28) := (by rw [hw]; exact HP70.2); have hp_ : Kd.R (Kd.int .i64) 3 w71 w.heap.size (fun _ => True) (.slice (some ⟨go28, 0, none⟩) x9_5.length co14) y329 := (by rw [hw, Ny329.out]; exact HP70.1); clear HP70; have n0_ := Aside0.mk (hp_); have n1_ := Aside0.mk ((by rw [hw]; exact below_set (HB.out) GB28.out : Below w.heap.size w w71)); clear HO_9; clear HB; have HO_9 := n0_; have HB := n1_; clear n0_ n1_; clear hg hw hp_)))
                                            (try simp only [← hl9_3, ← hl9_28, ← hl9_5])
                                            go_roundg k5
                                            case measure => have := HJ3.out; have := HK2.out; have := HK3.out; have := HJ28.out; have := HK5.out; omega
                                            case rel => exact ⟨(y329), (wrap64 (x65_3 + 1)), (by first | rfl | (simp; done) | (simp [*]; done)), H', ⟨by have := HJ3.out; have := HK2.out; have := HK3.out; have := HJ28.out; have := HK5.out; omega⟩, ⟨by (try simp only [hl9_2]); (try simp only [hl9_3]); (try simp only [hl9_28]); (try simp only [hl9_5]); (with_reducible repeat (first | apply Kd.R_alloc | apply Kd.R_drewN | apply Kd.R_drew)); exact HO_9.out⟩, ⟨by repeat (first | (with_reducible first | exact HB.out | apply below_alloc | apply pw_below_drewN | apply below_drew1) | exact HB.out)⟩⟩
                                          · rw [if_neg c68] at H
                                            exact absurd H (by simp)
                                        · rw [if_neg c67] at H
                                          exact absurd H (by simp)
                                      · rw [if_neg c65] at H
                                        have c65b0 : decide (ji24 < (l1.length : Int)) = false := decide_eq_false c65
                                        (try simp only [hl9_2, hl9_3, hl9_28, hl9_5] at c65b0)
                                        clear c65
                                        have H' := Aside0.mk H
                                        clear H
                                        go_wp2
                                        repeat (go_quiet (fail); try go_wp2)
                                        (try simp only [← hl9_3, ← hl9_28, ← hl9_5])
                                        go_roundg k5
                                        case measure => have := HJ3.out; have := HK2.out; have := HK3.out; have := HJ28.out; have := HK5.out; omega
                                        case rel => exact ⟨(x9_5), (wrap64 (x65_3 + 1)), (by first | rfl | (simp; done) | (simp [*]; done)), H', ⟨by have := HJ3.out; have := HK2.out; have := HK3.out; have := HJ28.out; have := HK5.out; omega⟩, ⟨by (try simp only [hl9_2]); (try simp only [hl9_3]); (try simp only [hl9_28]); (try simp only [hl9_5]); (with_reducible repeat (first | apply Kd.R_alloc | apply Kd.R_drewN | apply Kd.R_drew)); exact HO_9.out⟩, ⟨by repeat (first | (with_reducible first | exact HB.out | apply below_alloc | apply pw_below_drewN | apply below_drew1) | exact HB.out)⟩⟩
                          · rw [if_neg c27] at H
                            exact absurd H (by simp)
                        · rw [if_neg c26] at H
                          exact absurd H (by simp)
                      · rw [if_neg c22] at H
                        have c22b0 : decide (x65_3 < (l0.length : Int)) = false := decide_eq_false c22
                        (try simp only [hl9_2, hl9_3] at c22b0)
                        clear c22
                        by_cases c72 : 0 ≤ (l1.length : Int)
                        · rw [if_pos c72] at H
                          have c72b0 : decide (0 ≤ (l1.length : Int)) = true := decide_eq_true c72
                          (try simp only [hl9_2, hl9_3] at c72b0)
                          have c72b1 : decide (0 ≤ l1.length) = true := decide_eq_true (by omega)
                          (try simp only [hl9_2, hl9_3] at c72b1)
                          clear c72
                          by_cases c73 : (l1.length : Int) < (x9_3.length : Int)
                          · rw [if_pos c73] at H
                            have c73b0 : decide ((l1.length : Int) < (x9_3.length : Int)) = true := decide_eq_true c73
                            (try simp only [hl9_2, hl9_3] at c73b0)
                            have c73b1 : decide (l1.length < x9_3.length) = true := decide_eq_true (Int.ofNat_lt.mp c73)
                            (try simp only [hl9_2, hl9_3] at c73b1)
                            clear c73
                            by_cases c74 : (rd x9_3 (l1.length : Int)) > ji8
                            · rw [if_pos c74] at H
                              have c74b0 : decide (ji8 < (rd x9_3 (l1.length : Int))) = true := decide_eq_true c74
                              (try simp only [hl9_2, hl9_3] at c74b0)
                              clear c74
                              simp only [Option.some.injEq, Prod.mk.injEq] at H
                              obtain ⟨rfl, rfl⟩ := H
                              have p317 : 0 ≤ ((l1.length : Int) : Int) := of_decide_eq_true (by first | (with_reducible assumption) | assumption)
                              have q317 : (l1.length : Int) < (x9_3.length : Int) := of_decide_eq_true (by first | (with_reducible assumption) | assumption)
                              obtain ⟨ad317, e317, hx317_0⟩ := Kd.at_int (Kd.R_reads' HO_9.out).2.2 (l1.length : Int) p317 q317
                              cases e317
                              (try simp only [Go.IntWalk.toNatUp] at hx317_0)
                              (try simp only [hl9_2, hl9_3] at p317)
                              (try simp only [hl9_2, hl9_3] at q317)
                              (try simp only [hl9_2, hl9_3] at hx317_0)
                              replace p317 := eq_true p317
                              replace q317 := eq_true q317
                              go_wp2
                              repeat (go_quiet (fail); try go_wp2)
                              go_ret2
                              exact ⟨by first | rfl | (simp [errW_none, errW_some] <;> rfl) | (simp only [← hji8, ← hji9]; first | rfl | (simp [errW_none, errW_some] <;> rfl)) | (simp [*, errW_none, errW_some] <;> rfl), by repeat (first | (with_reducible first | exact HB.out | apply below_alloc | apply pw_below_drewN | apply below_drew1) | exact HB.out)⟩
                            · rw [if_neg c74] at H
                              have c74b0 : decide (ji8 < (rd x9_3 (l1.length : Int))) = false := decide_eq_false c74
                              (try simp only [hl9_2, hl9_3] at c74b0)
                              clear c74
                              simp only [Option.some.injEq, Prod.mk.injEq] at H
                              obtain ⟨rfl, rfl⟩ := H
                              have p317 : 0 ≤ ((l1.length : Int) : Int) := of_decide_eq_true (by first | (with_reducible assumption) | assumption)
                              have q317 : (l1.length : Int) < (x9_3.length : Int) := of_decide_eq_true (by first | (with_reducible assumption) | assumption)
                              obtain ⟨ad317, e317, hx317_0⟩ := Kd.at_int (Kd.R_reads' HO_9.out).2.2 (l1.length : Int) p317 q317
                              cases e317
                              (try simp only [Go.IntWalk.toNatUp] at hx317_0)
                              (try simp only [hl9_2, hl9_3] at p317)
                              (try simp only [hl9_2, hl9_3] at q317)
                              (try simp only [hl9_2, hl9_3] at hx317_0)
                              replace p317 := eq_true p317
                              replace q317 := eq_true q317
                              go_wp2
                              repeat (go_quiet (fail); try go_wp2)
                              go_ret2
                              exact ⟨by first | rfl | (simp [errW_none, errW_some] <;> rfl) | (simp only [← hji8, ← hji9]; first | rfl | (simp [errW_none, errW_some] <;> rfl)) | (simp [*, errW_none, errW_some] <;> rfl), by repeat (first | (with_reducible first | exact HB.out | apply below_alloc | apply pw_below_drewN | apply below_drew1) | exact HB.out)⟩
                          · rw [if_neg c73] at H
                            exact absurd H (by simp)
                        · rw [if_neg c72] at H
                          exact absurd H (by simp)
          · rw [if_neg c11] at H
            exact absurd H (by simp)
        · rw [if_neg c10] at H
          exact absurd H (by simp)

end Go.Proofs.Ytklidannncajiaa.OW
