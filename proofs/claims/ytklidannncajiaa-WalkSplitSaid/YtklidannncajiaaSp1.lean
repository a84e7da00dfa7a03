/- What the row of the law WalkSplit leans on: contracts of functions and plain laws, each for all inputs that its own theorem names. -/
import Derived.Test.YtklidannncajiaaSp0
import Derived.Outline
import Derived.WalkKit
-- Laid by a program of this session (wip/ownprint.py, wip/hooks.py) over the seat's translation. Lean checks it.
namespace Go.Proofs.Ytklidannncajiaa.OW
open Go.RowKit Go.Proofs.YtklidannncajiaaW.PrintWords Go.Proofs.YtklidannncajiaaW.PrintLast Go.Proofs.YtklidannncajiaaW.PrintMore
attribute [local go_sem] max2_int min2_int max_two min_two max_three min_three max_four min_four   -- for this text's walks alone
set_option linter.unusedVariables false
set_option linter.unusedSimpArgs false

/-! ### auto_Dist: function 55 -/
def auto_Dist.f (k : Nat) (l0 : List Int) (a1 : Int) (l2 : List (S121)) : Option (Int × Bool) := (auto_may.f a1).bind fun t125 => (if t125 = true then ((auto_spread.f k l0 a1 l2).bind fun t126 => (if 0 ≤ (l0.length : Int) then (if (l0.length : Int) < (t126.length : Int) then (if (rd t126 (l0.length : Int)) > a1 then (some (0, false)) else (some (rd t126 (l0.length : Int), true))) else (none)) else (none))) else (some (0, false)))
set_option maxHeartbeats 8000000 in
set_option maxRecDepth 100000 in
theorem auto_Dist.calls (k : Nat) (A0 : Option Addr) (c0 : Nat) (l0 : List Int) (a1 : Int) (A2 : Option Addr) (c2 : Nat) (l2 : List (S121)) (r1 : Int) (r2 : Bool) (w : World) (hr0 : Kd.C (Kd.int .i32) w A0 l0.length l0) (hc0 : l0.length ≤ c0) (hr2 : Kd.C k121 w A2 l2.length l2) (hc2 : l2.length ≤ c2) (h : auto_Dist.f k l0 a1 l2 = some (r1, r2)) :
    Calls Try.prog 55 #[.slice A0 l0.length c0, .int .i64 a1, .slice A2 l2.length c2] w fun e w' => e = .returned (.tuple #[.int .i64 r1, .bool r2]) ∧ Below w.heap.size w w' := by
  have HR0 := Aside0.mk hr0
  have HC0 := Aside0.mk hc0
  clear hr0 hc0
  have HR2 := Aside0.mk hr2
  have HC2 := Aside0.mk hc2
  clear hr2 hc2
  have HB := Aside0.mk (Below.refl w.heap.size w)
  have H : ((auto_may.f a1).bind fun t125 => (if t125 = true then ((auto_spread.f k l0 a1 l2).bind fun t126 => (if 0 ≤ (l0.length : Int) then (if (l0.length : Int) < (t126.length : Int) then (if (rd t126 (l0.length : Int)) > a1 then (some (0, false)) else (some (rd t126 (l0.length : Int), true))) else (none)) else (none))) else (some (0, false)))) = some (r1, r2) := h
  clear h
  replace H := Option.bind_eq_some_iff.mp H
  obtain ⟨t125, A40, H⟩ := H
  replace H : (if t125 = true then ((auto_spread.f k l0 a1 l2).bind fun t126 => (if 0 ≤ (l0.length : Int) then (if (l0.length : Int) < (t126.length : Int) then (if (rd t126 (l0.length : Int)) > a1 then (some (0, false)) else (some (rd t126 (l0.length : Int), true))) else (none)) else (none))) else (some (0, false))) = some (r1, r2) := H
  have A4 := Aside0.mk A40
  clear A40
  by_cases c5 : t125 = true
  · subst c5
    have H1 : ((auto_spread.f k l0 a1 l2).bind fun t126 => (if 0 ≤ (l0.length : Int) then (if (l0.length : Int) < (t126.length : Int) then (if (rd t126 (l0.length : Int)) > a1 then (some (0, false)) else (some (rd t126 (l0.length : Int), true))) else (none)) else (none))) = some (r1, r2) := by rw [if_pos rfl] at H; exact H
    clear H
    have H := H1
    clear H1
    replace H := Option.bind_eq_some_iff.mp H
    obtain ⟨t126, A60, H⟩ := H
    replace H : (if 0 ≤ (l0.length : Int) then (if (l0.length : Int) < (t126.length : Int) then (if (rd t126 (l0.length : Int)) > a1 then (some (0, false)) else (some (rd t126 (l0.length : Int), true))) else (none)) else (none)) = some (r1, r2) := H
    have A6 := Aside0.mk A60
    clear A60
    by_cases c7 : 0 ≤ (l0.length : Int)
    · rw [if_pos c7] at H
      have c7b0 : decide (0 ≤ (l0.length : Int)) = true := decide_eq_true c7
      have c7b1 : decide (0 ≤ l0.length) = true := decide_eq_true (by omega)
      clear c7
      by_cases c8 : (l0.length : Int) < (t126.length : Int)
      · rw [if_pos c8] at H
        have c8b0 : decide ((l0.length : Int) < (t126.length : Int)) = true := decide_eq_true c8
        have c8b1 : decide (l0.length < t126.length) = true := decide_eq_true (Int.ofNat_lt.mp c8)
        clear c8
        by_cases c9 : (rd t126 (l0.length : Int)) > a1
        · rw [if_pos c9] at H
          have c9b0 : decide (a1 < (rd t126 (l0.length : Int))) = true := decide_eq_true c9
          clear c9
          simp only [Option.some.injEq, Prod.mk.injEq] at H
          obtain ⟨rfl, rfl⟩ := H
          go_enter Try.func55, Try.ntmps55
          go_wp2_with (first | ((with_reducible refine gate_callee (f := 76) rfl ?_); refine goesL_ (some 10) rfl rfl Try.func76 (by kernel_rfl) rfl #[.int .i64 a1] rfl (by (try simp only [List.map_toArray, List.map_cons, List.map_nil]); first | done | rfl | (simp only [List.length_drop, List.length_take]; rfl)) ?_; (with_reducible refine (auto_may.calls a1 true _ A4.out).mono ?_); rintro e w' ⟨rfl, ⟨nd, rfl⟩⟩; refine ⟨_, rfl, ?_⟩) | ((with_reducible refine gate_callee (f := 77) rfl ?_); refine goesL_ (some 15) rfl rfl Try.func77 (by kernel_rfl) rfl #[.slice A0 l0.length c0, .int .i64 a1, .slice A2 l2.length c2] rfl (by (try simp only [List.map_toArray, List.map_cons, List.map_nil]); first | done | rfl | (simp only [List.length_drop, List.length_take]; rfl)) ?_; (with_reducible refine (auto_spread.calls k _ _ l0 a1 _ _ l2 t126 _ ?side1 ?side2 ?side3 ?side4 A6.out).mono ?_); (case side1 => repeat (first | exact HR0.out | (with_reducible refine Kd.C_alloc ?_ _) | (with_reducible refine Kd.C_drewN ?_ _) | (with_reducible refine Kd.C_drew ?_))); (case side2 => exact HC0.out); (case side3 => repeat (first | exact HR2.out | (with_reducible refine Kd.C_alloc ?_ _) | (with_reducible refine Kd.C_drewN ?_ _) | (with_reducible refine Kd.C_drew ?_))); (case side4 => exact HC2.out); rintro e w10 ⟨v127, rfl, ho0, hb⟩; refine ⟨_, rfl, ?_⟩; have n0_ := Aside0.mk (Kd.R_lower ho0 (below_size (by repeat (first | (with_reducible first | exact HB.out | apply below_alloc | apply pw_below_drewN | apply below_drew1) | exact HB.out)))); have n1_ := Aside0.mk (below_step (by repeat (first | (with_reducible first | exact HB.out | apply below_alloc | apply pw_below_drewN | apply below_drew1) | exact HB.out)) hb); clear HB; have HO128 := n0_; have HB := n1_; clear n0_ n1_; (try clear hb); (try clear hb2); (try clear hk); (try clear hi); (try clear ho0); obtain ⟨Ao11, co11, eo11⟩ := Kd.R_slice HO128.out; subst eo11; have p129 : 0 ≤ ((l0.length : Int) : Int) := of_decide_eq_true (by first | (with_reducible assumption) | assumption); have q129 : (l0.length : Int) < (t126.length : Int) := of_decide_eq_true (by first | (with_reducible assumption) | assumption); obtain ⟨ad129, e129, hx129_0⟩ := Kd.at_int (Kd.R_reads' HO128.out).2.2 (l0.length : Int) p129 q129; cases e129; (try simp only [Go.IntWalk.toNatUp] at hx129_0); replace p129 := eq_true p129; replace q129 := eq_true q129))
          go_ret2
          exact ⟨by first | rfl | (simp [errW_none, errW_some] <;> rfl) | (simp [*, errW_none, errW_some] <;> rfl), by repeat (first | (with_reducible first | exact HB.out | apply below_alloc | apply pw_below_drewN | apply below_drew1) | exact HB.out)⟩
        · rw [if_neg c9] at H
          have c9b0 : decide (a1 < (rd t126 (l0.length : Int))) = false := decide_eq_false c9
          clear c9
          simp only [Option.some.injEq, Prod.mk.injEq] at H
          obtain ⟨rfl, rfl⟩ := H
          go_enter Try.func55, Try.ntmps55
          go_wp2_with (first | ((with_reducible refine gate_callee (f := 76) rfl ?_); refine goesL_ (some 10) rfl rfl Try.func76 (by kernel_rfl) rfl #[.int .i64 a1] rfl (by (try simp only [List.map_toArray, List.map_cons, List.map_nil]); first | done | rfl | (simp only [List.length_drop, List.length_take]; rfl)) ?_; (with_reducible refine (auto_may.calls a1 true _ A4.out).mono ?_); rintro e w' ⟨rfl, ⟨nd, rfl⟩⟩; refine ⟨_, rfl, ?_⟩) | ((with_reducible refine gate_callee (f := 77) rfl ?_); refine goesL_ (some 15) rfl rfl Try.func77 (by kernel_rfl) rfl #[.slice A0 l0.length c0, .int .i64 a1, .slice A2 l2.length c2] rfl (by (try simp only [List.map_toArray, List.map_cons, List.map_nil]); first | done | rfl | (simp only [List.length_drop, List.length_take]; rfl)) ?_; (with_reducible refine (auto_spread.calls k _ _ l0 a1 _ _ l2 t126 _ ?side1 ?side2 ?side3 ?side4 A6.out).mono ?_); (case side1 => repeat (first | exact HR0.out | (with_reducible refine Kd.C_alloc ?_ _) | (with_reducible refine Kd.C_drewN ?_ _) | (with_reducible refine Kd.C_drew ?_))); (case side2 => exact HC0.out); (case side3 => repeat (first | exact HR2.out | (with_reducible refine Kd.C_alloc ?_ _) | (with_reducible refine Kd.C_drewN ?_ _) | (with_reducible refine Kd.C_drew ?_))); (case side4 => exact HC2.out); rintro e w12 ⟨v127, rfl, ho0, hb⟩; refine ⟨_, rfl, ?_⟩; have n0_ := Aside0.mk (Kd.R_lower ho0 (below_size (by repeat (first | (with_reducible first | exact HB.out | apply below_alloc | apply pw_below_drewN | apply below_drew1) | exact HB.out)))); have n1_ := Aside0.mk (below_step (by repeat (first | (with_reducible first | exact HB.out | apply below_alloc | apply pw_below_drewN | apply below_drew1) | exact HB.out)) hb); clear HB; have HO128 := n0_; have HB := n1_; clear n0_ n1_; (try clear hb); (try clear hb2); (try clear hk); (try clear hi); (try clear ho0); obtain ⟨Ao13, co13, eo13⟩ := Kd.R_slice HO128.out; subst eo13; have p129 : 0 ≤ ((l0.length : Int) : Int) := of_decide_eq_true (by first | (with_reducible assumption) | assumption); have q129 : (l0.length : Int) < (t126.length : Int) := of_decide_eq_true (by first | (with_reducible assumption) | assumption); obtain ⟨ad129, e129, hx129_0⟩ := Kd.at_int (Kd.R_reads' HO128.out).2.2 (l0.length : Int) p129 q129; cases e129; (try simp only [Go.IntWalk.toNatUp] at hx129_0); replace p129 := eq_true p129; replace q129 := eq_true q129))
          go_ret2
          exact ⟨by first | rfl | (simp [errW_none, errW_some] <;> rfl) | (simp [*, errW_none, errW_some] <;> rfl), by repeat (first | (with_reducible first | exact HB.out | apply below_alloc | apply pw_below_drewN | apply below_drew1) | exact HB.out)⟩
      · rw [if_neg c8] at H
        exact absurd H (by simp)
    · rw [if_neg c7] at H
      exact absurd H (by simp)
  · replace c5 := Bool.eq_false_iff.mpr c5
    subst c5
    have H1 : (some (0, false)) = some (r1, r2) := by rw [if_neg (show ¬ (false = true) by decide)] at H; exact H
    clear H
    have H := H1
    clear H1
    simp only [Option.some.injEq, Prod.mk.injEq] at H
    obtain ⟨rfl, rfl⟩ := H
    go_enter Try.func55, Try.ntmps55
    go_wp2_with (first | ((with_reducible refine gate_callee (f := 76) rfl ?_); refine goesL_ (some 10) rfl rfl Try.func76 (by kernel_rfl) rfl #[.int .i64 a1] rfl (by (try simp only [List.map_toArray, List.map_cons, List.map_nil]); first | done | rfl | (simp only [List.length_drop, List.length_take]; rfl)) ?_; (with_reducible refine (auto_may.calls a1 false _ A4.out).mono ?_); rintro e w' ⟨rfl, ⟨nd, rfl⟩⟩; refine ⟨_, rfl, ?_⟩))
    go_ret2
    exact ⟨by first | rfl | (simp [errW_none, errW_some] <;> rfl) | (simp [*, errW_none, errW_some] <;> rfl), by repeat (first | (with_reducible first | exact HB.out | apply below_alloc | apply pw_below_drewN | apply below_drew1) | exact HB.out)⟩

-- NOT PRINTED: function 33 (graph_Graph_Nodes)

-- NOT PRINTED: function 78 (graph_Graph_get)

-- NOT PRINTED: function 56 (graph_Graph_Final)

-- NOT PRINTED: function 79 (api_Edge)

-- NOT PRINTED: function 57 (graph_Graph_Edges)

/-! ### slices_Clone_int_int: function 80 -/
def slices_Clone_int_int.f (l0 : List Int) : Option (List Int) := if l0.length < 17592186044416 then (some l0) else none
set_option maxHeartbeats 8000000 in
set_option maxRecDepth 100000 in
theorem slices_Clone_int_int.calls (A0 : Option Addr) (c0 : Nat) (l0 : List Int) (r : List Int) (w : World) (hr0 : Kd.C (Kd.int .i64) w A0 l0.length l0) (hc0 : l0.length ≤ c0) (h : slices_Clone_int_int.f l0 = some r) :
    Calls Try.prog 80 #[.slice A0 l0.length c0] w fun e w' => ∃ v0_ : Value, e = .returned (v0_) ∧ Kd.R (Kd.int .i64) 3 w' w.heap.size (fun _ => True) v0_ r ∧ Below w.heap.size w w' := by
  have HR0 := Aside0.mk hr0
  have hnil : A0 = none → l0 = [] := by
    intro hA
    cases l0 with
    | nil => rfl
    | cons x xs =>
      obtain ⟨ad, e, _⟩ := Kd.at_int hr0 0 (by omega) (by simp)
      rw [hA] at e
      cases e
  clear hr0 hc0
  unfold slices_Clone_int_int.f at h
  by_cases c : l0.length < 17592186044416
  · rw [if_pos c] at h
    obtain rfl := Option.some.inj h
    clear h
    have C := Aside0.mk c
    clear c
    cases A0 with
    | none =>
      obtain rfl := hnil rfl
      clear hnil
      have kq := fun W : World => Lib.run_eql_slice_nil (P := Try.prog) W 55 3 none 0 c0 0 0 Try.underlying55
      go_enter Try.func80, Try.ntmps80
      go_wp2
      go_ret
      exact ⟨_, rfl, Kd.R_nil _ _ _ _ _, Below.refl _ _⟩
    | some ad =>
      clear hnil
      have kq := fun W : World => Lib.run_eql_slice_nil (P := Try.prog) W 55 3 (some ad) l0.length c0 0 0 Try.underlying55
      go_enter Try.func80, Try.ntmps80
      go_wp2_with (first | ((with_reducible refine gate_dst (N := 5) rfl ?_); refine Kd.R_lit (w0 := w) (Kd.int .i64) w.heap.size 3 ?hg (N := 5) ?hd (xs := ([] : List Int)) (inner := []) (ok := fun _ => True) (okp := fun _ => True) ?hr ?hp (fun _ hk => hk) trivial (Below.refl _ _) (Nat.le_refl _) (by simp) ?_; (case hd => rfl); (case hg => rfl); (case hr => first | (go_simp; done) | (go_simp; rfl)); (case hp => exact Reps.none _ _); intro v1 w1 ho1 hb1 _ _; have HO := Aside0.mk ho1; have HB := Aside0.mk hb1; clear ho1 hb1) | ((with_reducible refine gate_dst (N := 7) rfl ?_); refine Kd.R_append_row (w0 := w) (Value.int .i64) (0 : Int) w.heap.size rfl _ _ 55 3 (.int .i64 0) 8 rfl Try.underlying55 info3 rfl (by decide) _ ([] : List Int) l0 (some ad) l0.length c0 (fun _ => True) rfl rfl (fun _ _ => trivial) HO.out (Kd.C_below HR0.out HB.out) HB.out HB.out.size (by have := C.out; simp; omega) ?_; intro v2 w2 ho2 hb2 _ _; have HO2 := Aside0.mk ho2; have HB2 := Aside0.mk hb2; clear ho2 hb2))
      go_ret
      exact ⟨_, rfl, by have h := HO2.out; rwa [List.nil_append] at h, HB2.out⟩
  · rw [if_neg c] at h
    cases h

/-! ### auto_state: function 81 -/
mutual
def auto_state.l0 : Nat → List Int → Int → List (S121) → List Int → Int → Int → Option ((List (S121)))
  | 0, _, _, _, _, _, _ => none
  | k + 1, x0, x1, x5, x10, x11, x12 => if x12 < x11 then (if 0 ≤ x12 then (if x12 < (x10.length : Int) then (if (rd x10 x12) > x1 then (auto_state.l0 k x0 x1 x5 x10 x11 (wrap64 (x12 + 1))) else (auto_state.l1 k x0 x1 x5 x12 (rd x10 x12) false (mx (wrap64 (x12 - x1)) 0) x10 x11 x12)) else (none)) else (none)) else (some x5)
def auto_state.l1 : Nat → List Int → Int → List (S121) → Int → Int → Bool → Int → List Int → Int → Int → Option ((List (S121)))
  | 0, _, _, _, _, _, _, _, _, _, _ => none
  | k + 1, x0, x1, x5, x6, x7, x8, x9, x10, x11, x12 => if x9 ≤ (mn (wrap64 (x6 + x1)) (wrap64 ((x0.length : Int) - 1))) then (if x8 = true then (auto_state.l1 k x0 x1 x5 x6 x7 true (wrap64 (x9 + 1)) x10 x11 x12) else (if 0 ≤ x9 then (if x9 < (x0.length : Int) then (if (rd x0 x9) < x7 then (auto_state.l1 k x0 x1 x5 x6 x7 (decide ((mx (wrap64 (x9 - x6)) (wrap64 (x6 - x9))) ≤ (wrap64 (x7 - (rd x0 x9))))) (wrap64 (x9 + 1)) x10 x11 x12) else (auto_state.l1 k x0 x1 x5 x6 x7 false (wrap64 (x9 + 1)) x10 x11 x12)) else (none)) else (none))) else (if x8 = true then (auto_state.l0 k x0 x1 x5 x10 x11 (wrap64 (x12 + 1))) else (if x5.length < 8796093022208 then (auto_state.l0 k x0 x1 (x5 ++ [(⟨x6, x7⟩ : S121)]) x10 x11 (wrap64 (x12 + 1))) else (none)))
end
def auto_state.f (k : Nat) (l0 : List Int) (a1 : Int) : Option ((List (S121))) := auto_state.l0 k l0 a1 ([] : List (S121)) l0 (l0.length : Int) 0
set_option maxHeartbeats 8000000 in
set_option maxRecDepth 100000 in
theorem auto_state.calls (k : Nat) (A0 : Option Addr) (c0 : Nat) (l0 : List Int) (a1 : Int) (r : List (S121)) (w : World) (hr0 : Kd.C (Kd.int .i64) w A0 l0.length l0) (hc0 : l0.length ≤ c0) (h : auto_state.f k l0 a1 = some r) :
    Calls Try.prog 81 #[.slice A0 l0.length c0, .int .i64 a1] w fun e w' => ∃ v0_ : Value, e = .returned (v0_) ∧ Kd.R k121 121 w' w.heap.size (fun _ => True) v0_ r ∧ Below w.heap.size w w' := by
  have hu121 := Try.underlying121
  have HR0 := Aside0.mk hr0
  have HC0 := Aside0.mk hc0
  clear hr0 hc0
  have HB := Aside0.mk (Below.refl w.heap.size w)
  have H : (auto_state.l0 k l0 a1 ([] : List (S121)) l0 (l0.length : Int) 0) = some r := h
  clear h
  have H' := Aside0.mk H
  clear H
  go_enter Try.func81, Try.ntmps81
  go_wp2
  go_loopg [5, 12] k (fun kq v5 v12 w' => ∃ (x5_1 : List (S121)) (x12_1 : Int), v12 = .int .i64 x12_1 ∧ Aside0 (auto_state.l0 kq l0 a1 x5_1 l0 (l0.length : Int) x12_1 = some r) ∧ Aside0 (kq ≤ k) ∧ Aside0 (Kd.R k121 121 w' w.heap.size (fun _ => True) v5 x5_1) ∧ Aside0 (Below w.heap.size w w'))
  case atStart => exact ⟨(([] : List (S121))), (0), (by first | rfl | (simp; done) | (simp [*]; done)), H', ⟨Nat.le_refl _⟩, ⟨by first | exact Kd.R_nil _ _ _ _ _ | exact Kd.N_nil _ _ _ _ _ | exact Kd.V_nil _ _ _ _ _ | exact Kd.Q_nil _ _ _ _ _ | exact Kd.S_nil _ _ _ _ _⟩, ⟨by repeat (first | (with_reducible first | exact HB.out | apply below_alloc | apply pw_below_drewN | apply below_drew1) | exact HB.out)⟩⟩
  case round =>
    clear H'
    try clear p2
    obtain ⟨x5_1, x12_1, rfl, HA, HK1, HO_5, HB⟩ := hrel
    cases gk with
    | zero => exact absurd HA.out (by simp [auto_state.l0])
    | succ k1 =>
      have H := HA.out
      clear HA
      simp only [auto_state.l0] at H
      by_cases c3 : x12_1 < (l0.length : Int)
      · rw [if_pos c3] at H
        have c3b0 : decide (x12_1 < (l0.length : Int)) = true := decide_eq_true c3
        clear c3
        by_cases c4 : 0 ≤ x12_1
        · rw [if_pos c4] at H
          have c4b0 : decide (0 ≤ x12_1) = true := decide_eq_true c4
          clear c4
          by_cases c5 : x12_1 < (l0.length : Int)
          · rw [if_pos c5] at H
            have c5b0 : decide (x12_1 < (l0.length : Int)) = true := decide_eq_true c5
            clear c5
            by_cases c6 : (rd l0 x12_1) > a1
            · rw [if_pos c6] at H
              have c6b0 : decide (a1 < (rd l0 x12_1)) = true := decide_eq_true c6
              clear c6
              have H' := Aside0.mk H
              clear H
              have p131 : 0 ≤ (x12_1 : Int) := of_decide_eq_true (by first | (with_reducible assumption) | assumption)
              have q131 : x12_1 < (l0.length : Int) := of_decide_eq_true (by first | (with_reducible assumption) | assumption)
              obtain ⟨ad131, e131, hx131_0⟩ := Kd.at_int HR0.out x12_1 p131 q131
              cases e131
              replace hx131_0 := (HB.out.cell (World.block_lt_of_cell? w _ hx131_0)).trans hx131_0
              replace p131 := eq_true p131
              replace q131 := eq_true q131
              go_wp2
              go_roundg k1
              case measure => have := HK1.out; omega
              case rel => exact ⟨(x5_1), (wrap64 (x12_1 + 1)), (by first | rfl | (simp; done) | (simp [*]; done)), H', ⟨by have := HK1.out; omega⟩, ⟨by (with_reducible repeat (first | apply Kd.R_alloc | apply Kd.R_drewN | apply Kd.R_drew)); exact HO_5.out⟩, ⟨by repeat (first | (with_reducible first | exact HB.out | apply below_alloc | apply pw_below_drewN | apply below_drew1) | exact HB.out)⟩⟩
            · rw [if_neg c6] at H
              have c6b0 : decide (a1 < (rd l0 x12_1)) = false := decide_eq_false c6
              clear c6
              obtain ⟨ji7, hji7⟩ : ∃ j_ : Int, (mx (wrap64 (x12_1 - a1)) 0) = j_ := ⟨_, rfl⟩
              replace H : (auto_state.l1 k1 l0 a1 x5_1 x12_1 (rd l0 x12_1) false ji7 l0 (l0.length : Int) x12_1) = some r := by first | (rw [hji7] at H; exact H) | (simp only [hji7] at H ⊢; exact H)
              have hji7_ : (if (wrap64 (x12_1 - a1)) < 0 then 0 else (wrap64 (x12_1 - a1))) = ji7 := hji7
              have H' := Aside0.mk H
              clear H
              have p131 : 0 ≤ (x12_1 : Int) := of_decide_eq_true (by first | (with_reducible assumption) | assumption)
              have q131 : x12_1 < (l0.length : Int) := of_decide_eq_true (by first | (with_reducible assumption) | assumption)
              obtain ⟨ad131, e131, hx131_0⟩ := Kd.at_int HR0.out x12_1 p131 q131
              cases e131
              replace hx131_0 := (HB.out.cell (World.block_lt_of_cell? w _ hx131_0)).trans hx131_0
              replace p131 := eq_true p131
              replace q131 := eq_true q131
              go_wp2
              go_loopg [8, 9] k1 (fun kq v8 v9 w' => ∃ (x8_2 : Bool) (x9_2 : Int), v8 = .bool x8_2 ∧ v9 = .int .i64 x9_2 ∧ Aside0 (auto_state.l1 kq l0 a1 x5_1 x12_1 (rd l0 x12_1) x8_2 x9_2 l0 (l0.length : Int) x12_1 = some r) ∧ Aside0 (kq ≤ k1) ∧ Aside0 (Kd.R k121 121 w' w.heap.size (fun _ => True) u5 x5_1) ∧ Aside0 (Below w.heap.size w w'))
              case atStart => exact ⟨(false), (ji7), (by first | rfl | (simp; done) | (simp [*]; done)), (by first | rfl | (simp; done) | (simp only [← hji7] <;> (first | rfl | simp)) | (simp [*]; done)), H', ⟨Nat.le_refl _⟩, ⟨by (with_reducible repeat (first | apply Kd.R_alloc | apply Kd.R_drewN | apply Kd.R_drew)); exact HO_5.out⟩, ⟨by repeat (first | (with_reducible first | exact HB.out | apply below_alloc | apply pw_below_drewN | apply below_drew1) | exact HB.out)⟩⟩
              case round =>
                clear H'
                try clear p1
                try clear q1
                try clear hx1
                try clear p2
                try clear c3
                try clear c3b0
                try clear c4
                try clear c4b0
                try clear c5
                try clear c5b0
                try clear c6
                try clear c6b0
                try clear p6
                try clear hx131_0
                try clear p131
                try clear p2
                try clear q131
                obtain ⟨x8_2, x9_2, rfl, rfl, HA, HK2, HO_5, HB⟩ := hrel
                cases gk with
                | zero => exact absurd HA.out (by simp [auto_state.l1])
                | succ k2 =>
                  have H := HA.out
                  clear HA
                  simp only [auto_state.l1] at H
                  obtain ⟨ji8, hji8⟩ : ∃ j_ : Int, (mn (wrap64 (x12_1 + a1)) (wrap64 ((l0.length : Int) - 1))) = j_ := ⟨_, rfl⟩
                  replace H : (if x9_2 ≤ (ji8) then (if x8_2 = true then (auto_state.l1 k2 l0 a1 x5_1 x12_1 (rd l0 x12_1) true (wrap64 (x9_2 + 1)) l0 (l0.length : Int) x12_1) else (if 0 ≤ x9_2 then (if x9_2 < (l0.length : Int) then (if (rd l0 x9_2) < (rd l0 x12_1) then (auto_state.l1 k2 l0 a1 x5_1 x12_1 (rd l0 x12_1) (decide ((mx (wrap64 (x9_2 - x12_1)) (wrap64 (x12_1 - x9_2))) ≤ (wrap64 ((rd l0 x12_1) - (rd l0 x9_2))))) (wrap64 (x9_2 + 1)) l0 (l0.length : Int) x12_1) else (auto_state.l1 k2 l0 a1 x5_1 x12_1 (rd l0 x12_1) false (wrap64 (x9_2 + 1)) l0 (l0.length : Int) x12_1)) else (none)) else (none))) else (if x8_2 = true then (auto_state.l0 k2 l0 a1 x5_1 l0 (l0.length : Int) (wrap64 (x12_1 + 1))) else (if x5_1.length < 8796093022208 then (auto_state.l0 k2 l0 a1 (x5_1 ++ [(⟨x12_1, (rd l0 x12_1)⟩ : S121)]) l0 (l0.length : Int) (wrap64 (x12_1 + 1))) else (none)))) = some r := by first | (rw [hji8] at H; exact H) | (simp only [hji8] at H ⊢; exact H)
                  have hji8_ : (if (wrap64 ((l0.length : Int) - 1)) < (wrap64 (x12_1 + a1)) then (wrap64 ((l0.length : Int) - 1)) else (wrap64 (x12_1 + a1))) = ji8 := hji8
                  by_cases c9 : x9_2 ≤ (ji8)
                  · rw [if_pos c9] at H
                    have c9b0 : decide (x9_2 ≤ (ji8)) = true := decide_eq_true c9
                    clear c9
                    by_cases c10 : x8_2 = true
                    · subst c10
                      have H1 : (auto_state.l1 k2 l0 a1 x5_1 x12_1 (rd l0 x12_1) true (wrap64 (x9_2 + 1)) l0 (l0.length : Int) x12_1) = some r := by rw [if_pos rfl] at H; exact H
                      clear H
                      have H := H1
                      clear H1
                      have H' := Aside0.mk H
                      clear H
                      go_wp2
                      go_roundg k2
                      case measure => have := HK1.out; have := HK2.out; omega
                      case rel => exact ⟨(true), (wrap64 (x9_2 + 1)), (by first | rfl | (simp; done) | (simp [*]; done)), (by first | rfl | (simp; done) | (simp [*]; done)), H', ⟨by have := HK1.out; have := HK2.out; omega⟩, ⟨by (with_reducible repeat (first | apply Kd.R_alloc | apply Kd.R_drewN | apply Kd.R_drew)); exact HO_5.out⟩, ⟨by repeat (first | (with_reducible first | exact HB.out | apply below_alloc | apply pw_below_drewN | apply below_drew1) | exact HB.out)⟩⟩
                    · replace c10 := Bool.eq_false_iff.mpr c10
                      subst c10
                      have H1 : (if 0 ≤ x9_2 then (if x9_2 < (l0.length : Int) then (if (rd l0 x9_2) < (rd l0 x12_1) then (auto_state.l1 k2 l0 a1 x5_1 x12_1 (rd l0 x12_1) (decide ((mx (wrap64 (x9_2 - x12_1)) (wrap64 (x12_1 - x9_2))) ≤ (wrap64 ((rd l0 x12_1) - (rd l0 x9_2))))) (wrap64 (x9_2 + 1)) l0 (l0.length : Int) x12_1) else (auto_state.l1 k2 l0 a1 x5_1 x12_1 (rd l0 x12_1) false (wrap64 (x9_2 + 1)) l0 (l0.length : Int) x12_1)) else (none)) else (none)) = some r := by rw [if_neg (show ¬ (false = true) by decide)] at H; exact H
                      clear H
                      have H := H1
                      clear H1
                      by_cases c11 : 0 ≤ x9_2
                      · rw [if_pos c11] at H
                        have c11b0 : decide (0 ≤ x9_2) = true := decide_eq_true c11
                        clear c11
                        by_cases c12 : x9_2 < (l0.length : Int)
                        · rw [if_pos c12] at H
                          have c12b0 : decide (x9_2 < (l0.length : Int)) = true := decide_eq_true c12
                          clear c12
                          by_cases c13 : (rd l0 x9_2) < (rd l0 x12_1)
                          · rw [if_pos c13] at H
                            have c13b0 : decide ((rd l0 x9_2) < (rd l0 x12_1)) = true := decide_eq_true c13
                            clear c13
                            obtain ⟨ji14, hji14⟩ : ∃ j_ : Int, (mx (wrap64 (x9_2 - x12_1)) (wrap64 (x12_1 - x9_2))) = j_ := ⟨_, rfl⟩
                            replace H : (auto_state.l1 k2 l0 a1 x5_1 x12_1 (rd l0 x12_1) (decide ((ji14) ≤ (wrap64 ((rd l0 x12_1) - (rd l0 x9_2))))) (wrap64 (x9_2 + 1)) l0 (l0.length : Int) x12_1) = some r := by first | (rw [hji14] at H; exact H) | (simp only [hji14] at H ⊢; exact H)
                            have hji14_ : (if (wrap64 (x9_2 - x12_1)) < (wrap64 (x12_1 - x9_2)) then (wrap64 (x12_1 - x9_2)) else (wrap64 (x9_2 - x12_1))) = ji14 := hji14
                            have H' := Aside0.mk H
                            clear H
                            have p132 : 0 ≤ (x9_2 : Int) := of_decide_eq_true (by first | (with_reducible assumption) | assumption)
                            have q132 : x9_2 < (l0.length : Int) := of_decide_eq_true (by first | (with_reducible assumption) | assumption)
                            obtain ⟨ad132, e132, hx132_0⟩ := Kd.at_int HR0.out x9_2 p132 q132
                            obtain rfl : ad131 = ad132 := (by injection e132)
                            replace hx132_0 := (HB.out.cell (World.block_lt_of_cell? w _ hx132_0)).trans hx132_0
                            replace p132 := eq_true p132
                            replace q132 := eq_true q132
                            have p133 : 0 ≤ (x9_2 : Int) := of_decide_eq_true (by first | (with_reducible assumption) | assumption)
                            have q133 : x9_2 < (l0.length : Int) := of_decide_eq_true (by first | (with_reducible assumption) | assumption)
                            obtain ⟨ad133, e133, hx133_0⟩ := Kd.at_int HR0.out x9_2 p133 q133
                            obtain rfl : ad131 = ad133 := (by injection e133)
                            replace hx133_0 := (HB.out.cell (World.block_lt_of_cell? w _ hx133_0)).trans hx133_0
                            replace p133 := eq_true p133
                            replace q133 := eq_true q133
                            go_wp2
                            go_roundg k2
                            case measure => have := HK1.out; have := HK2.out; omega
                            case rel => exact ⟨(decide ((ji14) ≤ (wrap64 ((rd l0 x12_1) - (rd l0 x9_2))))), (wrap64 (x9_2 + 1)), (by first | rfl | (simp; done) | (simp only [← hji14] <;> (first | rfl | simp)) | (simp [*]; done)), (by first | rfl | (simp; done) | (simp [*]; done)), H', ⟨by have := HK1.out; have := HK2.out; omega⟩, ⟨by (with_reducible repeat (first | apply Kd.R_alloc | apply Kd.R_drewN | apply Kd.R_drew)); exact HO_5.out⟩, ⟨by repeat (first | (with_reducible first | exact HB.out | apply below_alloc | apply pw_below_drewN | apply below_drew1) | exact HB.out)⟩⟩
                          · rw [if_neg c13] at H
                            have c13b0 : decide ((rd l0 x9_2) < (rd l0 x12_1)) = false := decide_eq_false c13
                            clear c13
                            have H' := Aside0.mk H
                            clear H
                            have p132 : 0 ≤ (x9_2 : Int) := of_decide_eq_true (by first | (with_reducible assumption) | assumption)
                            have q132 : x9_2 < (l0.length : Int) := of_decide_eq_true (by first | (with_reducible assumption) | assumption)
                            obtain ⟨ad132, e132, hx132_0⟩ := Kd.at_int HR0.out x9_2 p132 q132
                            obtain rfl : ad131 = ad132 := (by injection e132)
                            replace hx132_0 := (HB.out.cell (World.block_lt_of_cell? w _ hx132_0)).trans hx132_0
                            replace p132 := eq_true p132
                            replace q132 := eq_true q132
                            go_wp2
                            go_roundg k2
                            case measure => have := HK1.out; have := HK2.out; omega
                            case rel => exact ⟨(false), (wrap64 (x9_2 + 1)), (by first | rfl | (simp; done) | (simp [*]; done)), (by first | rfl | (simp; done) | (simp [*]; done)), H', ⟨by have := HK1.out; have := HK2.out; omega⟩, ⟨by (with_reducible repeat (first | apply Kd.R_alloc | apply Kd.R_drewN | apply Kd.R_drew)); exact HO_5.out⟩, ⟨by repeat (first | (with_reducible first | exact HB.out | apply below_alloc | apply pw_below_drewN | apply below_drew1) | exact HB.out)⟩⟩
                        · rw [if_neg c12] at H
                          exact absurd H (by simp)
                      · rw [if_neg c11] at H
                        exact absurd H (by simp)
                  · rw [if_neg c9] at H
                    have c9b0 : decide (x9_2 ≤ (ji8)) = false := decide_eq_false c9
                    clear c9
                    by_cases c15 : x8_2 = true
                    · subst c15
                      have H1 : (auto_state.l0 k2 l0 a1 x5_1 l0 (l0.length : Int) (wrap64 (x12_1 + 1))) = some r := by rw [if_pos rfl] at H; exact H
                      clear H
                      have H := H1
                      clear H1
                      have H' := Aside0.mk H
                      clear H
                      go_wp2
                      go_roundg k2
                      case measure => have := HK1.out; have := HK2.out; omega
                      case rel => exact ⟨(x5_1), (wrap64 (x12_1 + 1)), (by first | rfl | (simp; done) | (simp [*]; done)), H', ⟨by have := HK1.out; have := HK2.out; omega⟩, ⟨by (with_reducible repeat (first | apply Kd.R_alloc | apply Kd.R_drewN | apply Kd.R_drew)); exact HO_5.out⟩, ⟨by repeat (first | (with_reducible first | exact HB.out | apply below_alloc | apply pw_below_drewN | apply below_drew1) | exact HB.out)⟩⟩
                    · replace c15 := Bool.eq_false_iff.mpr c15
                      subst c15
                      have H1 : (if x5_1.length < 8796093022208 then (auto_state.l0 k2 l0 a1 (x5_1 ++ [(⟨x12_1, (rd l0 x12_1)⟩ : S121)]) l0 (l0.length : Int) (wrap64 (x12_1 + 1))) else (none)) = some r := by rw [if_neg (show ¬ (false = true) by decide)] at H; exact H
                      clear H
                      have H := H1
                      clear H1
                      by_cases c16 : x5_1.length < 8796093022208
                      · rw [if_pos c16] at H
                        have LMc16 := Aside0.mk c16
                        clear c16
                        obtain ⟨y134, hy134⟩ : ∃ y_ : List (S121), y_ = (x5_1 ++ [(⟨x12_1, (rd l0 x12_1)⟩ : S121)]) := ⟨_, rfl⟩
                        replace H : (auto_state.l0 k2 l0 a1 y134 l0 (l0.length : Int) (wrap64 (x12_1 + 1))) = some r := by first | (rw [hy134]; with_reducible exact H) | (have H2_ := (Option.bind_some _ _).symm.trans H; rw [hy134]; with_reducible exact H2_) | (have H2_ := (Option.bind_some _ _).symm.trans H; with_reducible exact H2_) | with_reducible exact H | (rw [hy134]; exact H) | exact H
                        have Ny134 := Aside0.mk hy134
                        clear hy134
                        have H' := Aside0.mk H
                        clear H
                        go_wp2_with (first | ((with_reducible refine gate_builtin (b := .append) (xs := #[.tmp 62, .tmp 66]) rfl ?_); (try (refine gate_guard (by rfl) ?_; dsimp only)); at_builtin; refine Kd.R_append k121 (w0 := w) w.heap.size rfl (.tmp 62) (.tmp 66) 93 121 (.agg #[(.int .i64 0), (.int .i64 0)]) 16 rfl Try.underlying93 info121 rfl (by decide) (by omega) u5 x5_1 (⟨x12_1, (rd l0 x12_1)⟩ : S121) [.int .i64 x12_1, .int .i64 (rd l0 x12_1)] (fun _ => True) (fun _ => False) rfl rfl ?aP (fun _ hk => hk.elim) ?aF ?aO ?aB ?aS ?aL ?_; (case aP => exact k121_mkM _ _ _ (⟨x12_1, (rd l0 x12_1)⟩ : S121)); (case aB => exact (by repeat (first | (with_reducible first | exact HB.out | apply below_alloc | apply pw_below_drewN | apply below_drew1) | exact HB.out))); (case aF => exact (fun _ _ => trivial)); (case aO => exact (by (with_reducible repeat (first | apply Kd.R_alloc | apply Kd.R_drewN | apply Kd.R_drew)); exact HO_5.out)); (case aS => exact (below_size (by repeat (first | (with_reducible first | exact HB.out | apply below_alloc | apply pw_below_drewN | apply below_drew1) | exact HB.out)))); (case aL => have := LMc16.out; omega); intro v135 w17 ho hb hg hat; rw [← Ny134.out] at ho; have n0_ := Aside0.mk (hb); have n1_ := Aside0.mk (ho); clear HB; clear HO_5; have HB := n0_; have HO136 := n1_; clear n0_ n1_; clear ho hb hg hat))
                        go_roundg k2
                        case measure => have := HK1.out; have := HK2.out; omega
                        case rel => exact ⟨(y134), (wrap64 (x12_1 + 1)), (by first | rfl | (simp; done) | (simp [*]; done)), H', ⟨by have := HK1.out; have := HK2.out; omega⟩, ⟨by (with_reducible repeat (first | apply Kd.R_alloc | apply Kd.R_drewN | apply Kd.R_drew)); exact HO136.out⟩, ⟨by repeat (first | (with_reducible first | exact HB.out | apply below_alloc | apply pw_below_drewN | apply below_drew1) | exact HB.out)⟩⟩
                      · rw [if_neg c16] at H
                        exact absurd H (by simp)
          · rw [if_neg c5] at H
            exact absurd H (by simp)
        · rw [if_neg c4] at H
          exact absurd H (by simp)
      · rw [if_neg c3] at H
        have c3b0 : decide (x12_1 < (l0.length : Int)) = false := decide_eq_false c3
        clear c3
        obtain rfl := Option.some.inj H
        go_wp2
        go_ret
        exact ⟨_, by first | rfl | (simp [errW_none, errW_some] <;> rfl) | (simp [*, errW_none, errW_some] <;> rfl), by (with_reducible repeat (first | apply Kd.R_alloc | apply Kd.R_drewN | apply Kd.R_drew)); exact HO_5.out, by repeat (first | (with_reducible first | exact HB.out | apply below_alloc | apply pw_below_drewN | apply below_drew1) | exact HB.out)⟩

end Go.Proofs.Ytklidannncajiaa.OW

-- Laid by a program of this session (wip/ownprint.py, wip/hooks.py) over the seat's translation. Lean checks it.
namespace Go.Proofs.Ytklidannncajiaa.OW
open Go.RowKit Go.Proofs.YtklidannncajiaaW.PrintWords Go.Proofs.YtklidannncajiaaW.PrintLast Go.Proofs.YtklidannncajiaaW.PrintMore
attribute [local go_sem] max2_int min2_int max_two min_two max_three min_three max_four min_four   -- for this text's walks alone
set_option linter.unusedVariables false
set_option linter.unusedSimpArgs false

/-! ### auto_Step: function 58 -/
def auto_Step.l0 : Nat → Int → Int → List Int → List Int → List Int → Int → Int → Option ((List (S121)))
  | 0, _, _, _, _, _, _, _ => none
  | k + 1, x1, x3, x9, x10, x32, x33, x34 => if x34 < x33 then (if 0 ≤ x34 then (if x34 < (x32.length : Int) then (if x34 < (x9.length : Int) then (if (rd x32 x34) = x3 then (if 0 ≤ (wrap64 (x34 + 1)) then (if (wrap64 (x34 + 1)) < (x9.length : Int) then (if x34 < (x10.length : Int) then (if (wrap64 (x34 + 1)) < (x10.length : Int) then (auto_Step.l0 k x1 x3 x9 (x10.set ((wrap64 (x34 + 1)) : Int).toNat (mn (mn (mn (wrap64 ((rd x9 (wrap64 (x34 + 1))) + 1)) (wrap64 ((rd x10 x34) + 1))) (rd x9 x34)) (wrap64 (x1 + 1)))) x32 x33 (wrap64 (x34 + 1))) else (none)) else (none)) else (none)) else (none)) else (if 0 ≤ (wrap64 (x34 + 1)) then (if (wrap64 (x34 + 1)) < (x9.length : Int) then (if x34 < (x10.length : Int) then (if (wrap64 (x34 + 1)) < (x10.length : Int) then (auto_Step.l0 k x1 x3 x9 (x10.set ((wrap64 (x34 + 1)) : Int).toNat (mn (mn (mn (wrap64 ((rd x9 (wrap64 (x34 + 1))) + 1)) (wrap64 ((rd x10 x34) + 1))) (wrap64 ((rd x9 x34) + 1))) (wrap64 (x1 + 1)))) x32 x33 (wrap64 (x34 + 1))) else (none)) else (none)) else (none)) else (none))) else (none)) else (none)) else (none)) else ((auto_state.f k x10 x1).bind fun t154 => (some t154))
def auto_Step.f (k : Nat) (l0 : List Int) (a1 : Int) (l2 : List (S121)) (a3 : Int) : Option ((List (S121))) := (auto_may.f a1).bind fun t137 => (if t137 = true then ((auto_spread.f k l0 a1 l2).bind fun t138 => ((slices_Clone_int_int.f t138).bind fun t141 => (if 0 < (t138.length : Int) then (if 0 < (t141.length : Int) then (auto_Step.l0 k a1 a3 t138 (t141.set (0 : Int).toNat (mn (wrap64 ((rd t138 0) + 1)) (wrap64 (a1 + 1)))) l0 (l0.length : Int) 0) else (none)) else (none)))) else (some ([] : List (S121))))
def auto_Step.T12 : Bool × List (List Nat × List Nat) := (true, [([], []), ([], []), ([1], [1]), ([], []), ([], []), ([4], [4]), ([3, 5], [3, 5]), ([6], [6]), ([7], [7]), ([], []), ([], []), ([9, 10], [9, 10]), ([11], [11]), ([12], [12]), ([], []), ([], []), ([15], [15]), ([8, 13, 14, 16], [8, 13, 14, 16]), ([0, 2, 0, 1, 2, 3, 4, 5, 6, 7, 8, 9, 10, 11, 12, 13, 14, 15, 16, 17], [0, 2]), ([18, 17, 0, 1, 2, 3, 4, 5, 6, 7, 8, 9, 10, 11, 12, 13, 14, 15, 16, 17], [17, 18])])
def auto_Step.B12 : List Nat := [0, 0, 2, 0, 0, 16, 56, 120, 248, 0, 0, 1536, 3584, 7680, 0, 0, 32768, 131064, 262143, 524287]
theorem auto_Step.tab12 : rtab .any (opsOf Try.f58 12) = auto_Step.T12 := by kernel_rfl
theorem auto_Step.bits12 : waitsOk auto_Step.T12.2 auto_Step.B12 = true := by kernel_rfl
set_option maxHeartbeats 8000000 in
set_option maxRecDepth 100000 in
theorem auto_Step.calls (k : Nat) (A0 : Option Addr) (c0 : Nat) (l0 : List Int) (a1 : Int) (A2 : Option Addr) (c2 : Nat) (l2 : List (S121)) (a3 : Int) (r : List (S121)) (w : World) (hr0 : Kd.C (Kd.int .i32) w A0 l0.length l0) (hc0 : l0.length ≤ c0) (hr2 : Kd.C k121 w A2 l2.length l2) (hc2 : l2.length ≤ c2) (h : auto_Step.f k l0 a1 l2 a3 = some r) :
    Calls Try.prog 58 #[.slice A0 l0.length c0, .int .i64 a1, .slice A2 l2.length c2, .int .i32 a3] w fun e w' => ∃ v0_ : Value, e = .returned (v0_) ∧ Kd.R k121 121 w' w.heap.size (fun _ => True) v0_ r ∧ Below w.heap.size w w' := by
  have HR0 := Aside0.mk hr0
  have HC0 := Aside0.mk hc0
  clear hr0 hc0
  have HR2 := Aside0.mk hr2
  have HC2 := Aside0.mk hc2
  clear hr2 hc2
  have HB := Aside0.mk (Below.refl w.heap.size w)
  have H : ((auto_may.f a1).bind fun t137 => (if t137 = true then ((auto_spread.f k l0 a1 l2).bind fun t138 => ((slices_Clone_int_int.f t138).bind fun t141 => (if 0 < (t138.length : Int) then (if 0 < (t141.length : Int) then (auto_Step.l0 k a1 a3 t138 (t141.set (0 : Int).toNat (mn (wrap64 ((rd t138 0) + 1)) (wrap64 (a1 + 1)))) l0 (l0.length : Int) 0) else (none)) else (none)))) else (some ([] : List (S121))))) = some r := h
  clear h
  replace H := Option.bind_eq_some_iff.mp H
  obtain ⟨t137, A50, H⟩ := H
  replace H : (if t137 = true then ((auto_spread.f k l0 a1 l2).bind fun t138 => ((slices_Clone_int_int.f t138).bind fun t141 => (if 0 < (t138.length : Int) then (if 0 < (t141.length : Int) then (auto_Step.l0 k a1 a3 t138 (t141.set (0 : Int).toNat (mn (wrap64 ((rd t138 0) + 1)) (wrap64 (a1 + 1)))) l0 (l0.length : Int) 0) else (none)) else (none)))) else (some ([] : List (S121)))) = some r := H
  have A5 := Aside0.mk A50
  clear A50
  by_cases c6 : t137 = true
  · subst c6
    have H1 : ((auto_spread.f k l0 a1 l2).bind fun t138 => ((slices_Clone_int_int.f t138).bind fun t141 => (if 0 < (t138.length : Int) then (if 0 < (t141.length : Int) then (auto_Step.l0 k a1 a3 t138 (t141.set (0 : Int).toNat (mn (wrap64 ((rd t138 0) + 1)) (wrap64 (a1 + 1)))) l0 (l0.length : Int) 0) else (none)) else (none)))) = some r := by rw [if_pos rfl] at H; exact H
    clear H
    have H := H1
    clear H1
    replace H := Option.bind_eq_some_iff.mp H
    obtain ⟨t138, A70, H⟩ := H
    replace H : ((slices_Clone_int_int.f t138).bind fun t141 => (if 0 < (t138.length : Int) then (if 0 < (t141.length : Int) then (auto_Step.l0 k a1 a3 t138 (t141.set (0 : Int).toNat (mn (wrap64 ((rd t138 0) + 1)) (wrap64 (a1 + 1)))) l0 (l0.length : Int) 0) else (none)) else (none))) = some r := H
    have A7 := Aside0.mk A70
    clear A70
    replace H := Option.bind_eq_some_iff.mp H
    obtain ⟨t141, A80, H⟩ := H
    replace H : (if 0 < (t138.length : Int) then (if 0 < (t141.length : Int) then (auto_Step.l0 k a1 a3 t138 (t141.set (0 : Int).toNat (mn (wrap64 ((rd t138 0) + 1)) (wrap64 (a1 + 1)))) l0 (l0.length : Int) 0) else (none)) else (none)) = some r := H
    have A8 := Aside0.mk A80
    clear A80
    by_cases c9 : 0 < (t138.length : Int)
    · rw [if_pos c9] at H
      have c9b0 : decide (0 < (t138.length : Int)) = true := decide_eq_true c9
      have c9b1 : decide (0 < t138.length) = true := decide_eq_true (by omega)
      clear c9
      obtain ⟨ji10, hji10⟩ : ∃ j_ : Int, (mn (wrap64 ((rd t138 0) + 1)) (wrap64 (a1 + 1))) = j_ := ⟨_, rfl⟩
      replace H : (if 0 < (t141.length : Int) then (auto_Step.l0 k a1 a3 t138 (t141.set (0 : Int).toNat (ji10)) l0 (l0.length : Int) 0) else (none)) = some r := by first | (rw [hji10] at H; exact H) | (simp only [hji10] at H ⊢; exact H)
      (try rw [hji10] at A5)
      (try rw [hji10] at A7)
      (try rw [hji10] at A8)
      have hji10_ : (if (wrap64 (a1 + 1)) < (wrap64 ((rd t138 0) + 1)) then (wrap64 (a1 + 1)) else (wrap64 ((rd t138 0) + 1))) = ji10 := hji10
      by_cases c11 : 0 < (t141.length : Int)
      · rw [if_pos c11] at H
        have c11b0 : decide (0 < (t141.length : Int)) = true := decide_eq_true c11
        have c11b1 : decide (0 < t141.length) = true := decide_eq_true (by omega)
        clear c11
        obtain ⟨y145, hy145⟩ : ∃ y_ : List Int, y_ = (t141.set (0 : Int).toNat (ji10)) := ⟨_, rfl⟩
        replace H : (auto_Step.l0 k a1 a3 t138 y145 l0 (l0.length : Int) 0) = some r := by first | (rw [hy145]; with_reducible exact H) | (have H2_ := (Option.bind_some _ _).symm.trans H; rw [hy145]; with_reducible exact H2_) | (have H2_ := (Option.bind_some _ _).symm.trans H; with_reducible exact H2_) | with_reducible exact H | (rw [hy145]; exact H) | exact H
        have Ny145 := Aside0.mk hy145
        clear hy145
        have H' := Aside0.mk H
        clear H
        go_enter Try.func58, Try.ntmps58
        go_wp2_with (first | ((with_reducible refine gate_callee (f := 76) rfl ?_); refine goesL_ (some 15) rfl rfl Try.func76 (by kernel_rfl) rfl #[.int .i64 a1] rfl (by (try simp only [List.map_toArray, List.map_cons, List.map_nil]); first | done | rfl | (simp only [List.length_drop, List.length_take]; rfl)) ?_; (with_reducible refine (auto_may.calls a1 true _ A5.out).mono ?_); rintro e w' ⟨rfl, ⟨nd, rfl⟩⟩; refine ⟨_, rfl, ?_⟩) | ((with_reducible refine gate_callee (f := 77) rfl ?_); refine goesL_ (some 20) rfl rfl Try.func77 (by kernel_rfl) rfl #[.slice A0 l0.length c0, .int .i64 a1, .slice A2 l2.length c2] rfl (by (try simp only [List.map_toArray, List.map_cons, List.map_nil]); first | done | rfl | (simp only [List.length_drop, List.length_take]; rfl)) ?_; (with_reducible refine (auto_spread.calls k _ _ l0 a1 _ _ l2 t138 _ ?side1 ?side2 ?side3 ?side4 A7.out).mono ?_); (case side1 => repeat (first | exact HR0.out | (with_reducible refine Kd.C_alloc ?_ _) | (with_reducible refine Kd.C_drewN ?_ _) | (with_reducible refine Kd.C_drew ?_))); (case side2 => exact HC0.out); (case side3 => repeat (first | exact HR2.out | (with_reducible refine Kd.C_alloc ?_ _) | (with_reducible refine Kd.C_drewN ?_ _) | (with_reducible refine Kd.C_drew ?_))); (case side4 => exact HC2.out); rintro e w13 ⟨v139, rfl, ho0, hb⟩; refine ⟨_, rfl, ?_⟩; have n0_ := Aside0.mk (Kd.R_lower ho0 (below_size (by repeat (first | (with_reducible first | exact HB.out | apply below_alloc | apply pw_below_drewN | apply below_drew1) | exact HB.out)))); have n1_ := Aside0.mk (below_step (by repeat (first | (with_reducible first | exact HB.out | apply below_alloc | apply pw_below_drewN | apply below_drew1) | exact HB.out)) hb); clear HB; have HO140 := n0_; have HB := n1_; clear n0_ n1_; (try clear hb); (try clear hb2); (try clear hk); (try clear hi); (try clear ho0); obtain ⟨Ao14, co14, eo14⟩ := Kd.R_slice HO140.out; subst eo14) | ((with_reducible refine gate_callee (f := 80) rfl ?_); refine goesL_ (some 22) rfl rfl Try.func80 (by kernel_rfl) rfl #[.slice Ao14 t138.length co14] rfl (by (try simp only [List.map_toArray, List.map_cons, List.map_nil]); first | done | rfl | (simp only [List.length_drop, List.length_take]; rfl)) ?_; (with_reducible refine (slices_Clone_int_int.calls _ _ t138 t141 _ ?side1 ?side2 A8.out).mono ?_); (case side1 => repeat (first | exact (Kd.R_reads' HO140.out).2.2 | (with_reducible refine Kd.C_alloc ?_ _) | (with_reducible refine Kd.C_drewN ?_ _) | (with_reducible refine Kd.C_drew ?_))); (case side2 => exact (Kd.R_reads' HO140.out).2.1); rintro e w15 ⟨v142, rfl, ho0, hb⟩; refine ⟨_, rfl, ?_⟩; have n0_ := Aside0.mk (Kd.R_elder' (by (with_reducible repeat (first | apply Kd.R_alloc | apply Kd.R_drewN | apply Kd.R_drew)); exact HO140.out) (Kd.R_base ho0) hb); have n1_ := Aside0.mk (Kd.R_lower (Kd.R_new' ho0 (Kd.R_lt (by (with_reducible repeat (first | apply Kd.R_alloc | apply Kd.R_drewN | apply Kd.R_drew)); exact HO140.out))) (below_size (by repeat (first | (with_reducible first | exact HB.out | apply below_alloc | apply pw_below_drewN | apply below_drew1) | exact HB.out)))); have n2_ := Aside0.mk (below_step (by repeat (first | (with_reducible first | exact HB.out | apply below_alloc | apply pw_below_drewN | apply below_drew1) | exact HB.out)) hb); clear HO140; clear HB; have HO140 := n0_; have HO143 := n1_; have HB := n2_; clear n0_ n1_ n2_; (try clear hb); (try clear hb2); (try clear hk); (try clear hi); (try clear ho0); have p144 : 0 ≤ (0 : Int) := (by omega); have q144 : 0 < (t138.length : Int) := of_decide_eq_true (by first | (with_reducible assumption) | assumption); obtain ⟨ad144, e144, hx144_0⟩ := Kd.at_int (Kd.R_reads' HO140.out).2.2 0 p144 q144; cases e144; have qi144 : (0 < t138.length) = True := eq_true (by omega); (try rw [show ((0 : Int)).toNat = 0 from rfl] at hx144_0); (try rw [Addr.add_zero'] at hx144_0); replace p144 := eq_true p144; replace q144 := eq_true q144; have p12 : 0 ≤ (0 : Int) := (by omega); have q12 : (0 : Int) < ((t141.length : Int) : Int) := of_decide_eq_true (by first | (with_reducible assumption) | assumption); have qi12 : (0 < t141.length) = True := eq_true (by omega); obtain ⟨go12, co12, eo12, gb12, gl12, cl12, HG12⟩ := Kd.R_form HO143.out (by omega); (first | cases eo12 | (injection eo12 with ea_ en_ ec_; (first | subst ea_ | (injection ea_ with ea_; subst ea_)); subst ec_; clear en_)); have GB12 := Aside0.mk gb12; have GG12 := Aside0.mk HG12; clear gb12 gl12 HG12; obtain ⟨hx12_0, hf12_0⟩ := Kd.R_celln 0 HO143.out (0 : Int) p12 q12; (try rw [show ((0 : Int)).toNat = 0 from rfl] at hx12_0); (try simp only [Nat.reduceMul, Nat.zero_mul, Nat.zero_add, Nat.reduceAdd] at hx12_0); (try rw [show ((0 : Int)).toNat = 0 from rfl] at hf12_0); (try simp only [Nat.reduceMul, Nat.zero_mul, Nat.zero_add, Nat.reduceAdd] at hf12_0); replace p12 := eq_true p12; replace q12 := eq_true q12; have n_ := Aside0.mk (Kd.R_mono (ok' := (fun k_ => some k_ ≠ (.slice (some ad144) t138.length co14 : Value).ownBlock)) HO143.out (fun k_ hk => hk.2)); clear HO143; have HO143 := n_; clear n_; obtain ⟨hy16_, hz16_⟩ := Kd.R_celln 0 HO143.out (0 : Int) (by omega) (of_decide_eq_true (by first | (with_reducible assumption) | assumption)); (try simp only [Int.reduceToNat, Int.toNat_zero, Int.toNat_ofNat, Nat.reduceMul, Nat.zero_mul, Nat.zero_add] at hy16_ hz16_); (try rw [show ((0 : Int)).toNat = 0 from rfl] at hy16_); (try rw [show ((0 : Int)).toNat = 0 from rfl] at hz16_); have HP16 := Kd.R_putg HO143.out (0 : Int) ji10) | ((with_reducible refine gate_store (t := 3) (p := 31) rfl ?_); refine store_event (t := 3) (p := 31) (v := ?vo_w17) (w1 := (w15.setCell ⟨go12, (0 : Int).toNat, none⟩ (.int .i64 ji10))) ?hg ?ho ?hn ?hr ?_; (case ho => rfl); (case hg => rfl); (case hn => rfl); (case hr => first | (go_simp; done) | (go_simp; rfl)); intro w17 hw; have hg : w15.grownBy w17 (some go12) := (by rw [hw]; exact HP16.2); have hp_ : Kd.R (Kd.int .i64) 3 w17 w.heap.size (fun k_ => some k_ ≠ (.slice (some ad144) t138.length co14 : Value).ownBlock) (.slice (some ⟨go12, 0, none⟩) t141.length co12) y145 := (by rw [hw, Ny145.out]; exact HP16.1); clear HP16; have n0_ := Aside0.mk (Kd.R_after (v := (.slice (some ⟨go12, 0, none⟩) t141.length co12)) (v1 := (.slice (some ⟨go12, 0, none⟩) t141.length co12)) (ok := (fun _ => True)) (by (with_reducible repeat (first | apply Kd.R_alloc | apply Kd.R_drewN | apply Kd.R_drew)); exact HO140.out) hg (.inl rfl)); have n1_ := Aside0.mk (hp_); have n2_ := Aside0.mk ((by rw [hw]; exact below_set (HB.out) GB12.out : Below w.heap.size w w17)); clear HO140; clear HO143; clear HB; have HO140 := n0_; have HO143 := n1_; have HB := n2_; clear n0_ n1_ n2_; clear hg hw hp_))
        go_loopg [34] k (fun kq v34 w' => ∃ (x10_1 : List Int) (x34_1 : Int), v34 = .int .i64 x34_1 ∧ Aside0 (auto_Step.l0 kq a1 a3 t138 x10_1 l0 (l0.length : Int) x34_1 = some r) ∧ Aside0 (kq ≤ k) ∧ Aside0 (Kd.R (Kd.int .i64) 3 w' w.heap.size (fun k_ => some k_ ≠ ((.slice (some ⟨go12, 0, none⟩) t141.length co12) : Value).ownBlock) (.slice (some ad144) t138.length co14) t138) ∧ Aside0 (Kd.R (Kd.int .i64) 3 w' w.heap.size (fun k_ => some k_ ≠ ((.slice (some ad144) t138.length co14) : Value).ownBlock) (.slice (some ⟨go12, 0, none⟩) t141.length co12) x10_1) ∧ Aside0 (Below w.heap.size w w'))
        case atStart => exact ⟨(y145), (0), (by first | rfl | (simp; done) | (simp [*]; done)), H', ⟨Nat.le_refl _⟩, ⟨by (with_reducible repeat (first | apply Kd.R_alloc | apply Kd.R_drewN | apply Kd.R_drew)); exact Kd.R_mono HO140.out (fun _ hk => hk.2)⟩, ⟨by (with_reducible repeat (first | apply Kd.R_alloc | apply Kd.R_drewN | apply Kd.R_drew)); exact HO143.out⟩, ⟨by repeat (first | (with_reducible first | exact HB.out | apply below_alloc | apply pw_below_drewN | apply below_drew1) | exact HB.out)⟩⟩
        case round =>
          clear H'
          try clear c1
          try clear p1
          try clear q1
          try clear hx1
          try clear qi1
          try clear c2
          try clear p2
          try clear c5
          try clear c6
          try clear p6
          try clear c7
          try clear c8
          try clear c9
          try clear c9b0
          try clear c9b1
          try clear c11
          try clear c11b0
          try clear c11b1
          try clear p12
          try clear q12
          try clear hx12
          try clear qi12
          try clear hf12
          try clear p14
          try clear q14
          try clear hx14
          try clear qi14
          try clear hx12_0
          try clear hx144_0
          try clear p12
          try clear p144
          try clear q12
          try clear q144
          obtain ⟨x10_1, x34_1, rfl, HA, HK1, HO_9, HO_10, HB⟩ := hrel
          have hl10_1 := (Kd.R_reads' HO_10.out).1
          rw [hl10_1] at HO_10
          (try simp only [hl10_1])
          (try simp only [hl10_1] at HO_9)
          cases gk with
          | zero => exact absurd HA.out (by simp [auto_Step.l0])
          | succ k1 =>
            have H := HA.out
            clear HA
            simp only [auto_Step.l0] at H
            by_cases c18 : x34_1 < (l0.length : Int)
            · rw [if_pos c18] at H
              have c18b0 : decide (x34_1 < (l0.length : Int)) = true := decide_eq_true c18
              (try simp only [hl10_1] at c18b0)
              clear c18
              by_cases c19 : 0 ≤ x34_1
              · rw [if_pos c19] at H
                have c19b0 : decide (0 ≤ x34_1) = true := decide_eq_true c19
                (try simp only [hl10_1] at c19b0)
                clear c19
                by_cases c20 : x34_1 < (l0.length : Int)
                · rw [if_pos c20] at H
                  have c20b0 : decide (x34_1 < (l0.length : Int)) = true := decide_eq_true c20
                  (try simp only [hl10_1] at c20b0)
                  clear c20
                  by_cases c21 : x34_1 < (t138.length : Int)
                  · rw [if_pos c21] at H
                    have c21b0 : decide (x34_1 < (t138.length : Int)) = true := decide_eq_true c21
                    (try simp only [hl10_1] at c21b0)
                    clear c21
                    by_cases c22 : (rd l0 x34_1) = a3
                    · rw [if_pos c22] at H
                      have c22b0 : ((rd l0 x34_1) == a3) = true := beq_iff_eq.mpr c22
                      have c22b1 : ((rd l0 x34_1) != a3) = false := bne_eq_false_iff_eq.mpr c22
                      clear c22
                      obtain ⟨ji23, hji23⟩ : ∃ j_ : Int, (wrap64 (x34_1 + 1)) = j_ := ⟨_, rfl⟩
                      replace H : (if 0 ≤ (ji23) then (if (ji23) < (t138.length : Int) then (if x34_1 < (x10_1.length : Int) then (if (ji23) < (x10_1.length : Int) then (auto_Step.l0 k1 a1 a3 t138 (x10_1.set ((ji23) : Int).toNat (mn (mn (mn (wrap64 ((rd t138 (ji23)) + 1)) (wrap64 ((rd x10_1 x34_1) + 1))) (rd t138 x34_1)) (wrap64 (a1 + 1)))) l0 (l0.length : Int) ji23) else (none)) else (none)) else (none)) else (none)) = some r := by first | (rw [hji23] at H; exact H) | (simp only [hji23] at H ⊢; exact H)
                      have hji23w : (IntKind.i64.wrap (x34_1 + 1)) = ji23 := (i64_w _).trans hji23
                      by_cases c24 : 0 ≤ (ji23)
                      · rw [if_pos c24] at H
                        have c24b0 : decide (0 ≤ (ji23)) = true := decide_eq_true c24
                        (try simp only [hl10_1] at c24b0)
                        clear c24
                        by_cases c25 : (ji23) < (t138.length : Int)
                        · rw [if_pos c25] at H
                          have c25b0 : decide ((ji23) < (t138.length : Int)) = true := decide_eq_true c25
                          (try simp only [hl10_1] at c25b0)
                          clear c25
                          by_cases c26 : x34_1 < (x10_1.length : Int)
                          · rw [if_pos c26] at H
                            have c26b0 : decide (x34_1 < (x10_1.length : Int)) = true := decide_eq_true c26
                            (try simp only [hl10_1] at c26b0)
                            clear c26
                            obtain ⟨ji27, hji27⟩ : ∃ j_ : Int, (mn (wrap64 ((rd t138 (ji23)) + 1)) (wrap64 ((rd x10_1 x34_1) + 1))) = j_ := ⟨_, rfl⟩
                            replace H : (if (ji23) < (x10_1.length : Int) then (auto_Step.l0 k1 a1 a3 t138 (x10_1.set ((ji23) : Int).toNat (mn (mn (ji27) (rd t138 x34_1)) (wrap64 (a1 + 1)))) l0 (l0.length : Int) ji23) else (none)) = some r := by first | (rw [hji27] at H; exact H) | (simp only [hji27] at H ⊢; exact H)
                            have hji27_ : (if (wrap64 ((rd x10_1 x34_1) + 1)) < (wrap64 ((rd t138 (ji23)) + 1)) then (wrap64 ((rd x10_1 x34_1) + 1)) else (wrap64 ((rd t138 (ji23)) + 1))) = ji27 := hji27
                            obtain ⟨ji28, hji28⟩ : ∃ j_ : Int, (mn (ji27) (rd t138 x34_1)) = j_ := ⟨_, rfl⟩
                            replace H : (if (ji23) < (x10_1.length : Int) then (auto_Step.l0 k1 a1 a3 t138 (x10_1.set ((ji23) : Int).toNat (mn (ji28) (wrap64 (a1 + 1)))) l0 (l0.length : Int) ji23) else (none)) = some r := by first | (rw [hji28] at H; exact H) | (simp only [hji28] at H ⊢; exact H)
                            have hji28_ : (if (rd t138 x34_1) < (ji27) then (rd t138 x34_1) else (ji27)) = ji28 := hji28
                            obtain ⟨ji29, hji29⟩ : ∃ j_ : Int, (mn (ji28) (wrap64 (a1 + 1))) = j_ := ⟨_, rfl⟩
                            replace H : (if (ji23) < (x10_1.length : Int) then (auto_Step.l0 k1 a1 a3 t138 (x10_1.set ((ji23) : Int).toNat (ji29)) l0 (l0.length : Int) ji23) else (none)) = some r := by first | (rw [hji29] at H; exact H) | (simp only [hji29] at H ⊢; exact H)
                            have hji29_ : (if (wrap64 (a1 + 1)) < (ji28) then (wrap64 (a1 + 1)) else (ji28)) = ji29 := hji29
                            by_cases c30 : (ji23) < (x10_1.length : Int)
                            · rw [if_pos c30] at H
                              have c30b0 : decide ((ji23) < (x10_1.length : Int)) = true := decide_eq_true c30
                              (try simp only [hl10_1] at c30b0)
                              clear c30
                              obtain ⟨y150, hy150⟩ : ∃ y_ : List Int, y_ = (x10_1.set ((ji23) : Int).toNat (ji29)) := ⟨_, rfl⟩
                              replace H : (auto_Step.l0 k1 a1 a3 t138 y150 l0 (l0.length : Int) ji23) = some r := by first | (rw [hy150]; with_reducible exact H) | (have H2_ := (Option.bind_some _ _).symm.trans H; rw [hy150]; with_reducible exact H2_) | (have H2_ := (Option.bind_some _ _).symm.trans H; with_reducible exact H2_) | with_reducible exact H | (rw [hy150]; exact H) | exact H
                              have Ny150 := Aside0.mk hy150
                              clear hy150
                              have H' := Aside0.mk H
                              clear H
                              have p146 : 0 ≤ (x34_1 : Int) := of_decide_eq_true (by first | (with_reducible assumption) | assumption)
                              have q146 : x34_1 < (l0.length : Int) := of_decide_eq_true (by first | (with_reducible assumption) | assumption)
                              obtain ⟨ad146, e146, hx146_0⟩ := Kd.at_int HR0.out x34_1 p146 q146
                              cases e146
                              replace hx146_0 := (HB.out.cell (World.block_lt_of_cell? w _ hx146_0)).trans hx146_0
                              replace p146 := eq_true p146
                              replace q146 := eq_true q146
                              have p147 : 0 ≤ (x34_1 : Int) := of_decide_eq_true (by first | (with_reducible assumption) | assumption)
                              have q147 : x34_1 < (t138.length : Int) := of_decide_eq_true (by first | (with_reducible assumption) | assumption)
                              obtain ⟨ad147, e147, hx147_0⟩ := Kd.at_int (Kd.R_reads' HO_9.out).2.2 x34_1 p147 q147
                              obtain rfl : ad144 = ad147 := (by injection e147)
                              replace p147 := eq_true p147
                              replace q147 := eq_true q147
                              try go_wp2
                              have n0_ := Aside0.mk (Kd.R_drew HO_9.out)
                              have n1_ := Aside0.mk (Kd.R_drew HO_10.out)
                              have n2_ := Aside0.mk (below_drew1 HB.out)
                              clear HO_9
                              clear HO_10
                              clear HB
                              have HO_9 := n0_
                              have HO_10 := n1_
                              have HB := n2_
                              clear n0_ n1_ n2_
                              have p148 : 0 ≤ ((ji23) : Int) := of_decide_eq_true (by first | (with_reducible assumption) | assumption)
                              have q148 : (ji23) < (t138.length : Int) := of_decide_eq_true (by first | (with_reducible assumption) | assumption)
                              obtain ⟨ad148, e148, hx148_0⟩ := Kd.at_int (Kd.R_reads' HO_9.out).2.2 (ji23) p148 q148
                              obtain rfl : ad144 = ad148 := (by injection e148)
                              replace p148 := eq_true p148
                              replace q148 := eq_true q148
                              have p149 : 0 ≤ (x34_1 : Int) := of_decide_eq_true (by first | (with_reducible assumption) | assumption)
                              have q149 : x34_1 < (x10_1.length : Int) := of_decide_eq_true (by first | (with_reducible assumption) | assumption)
                              obtain ⟨ad149, e149, hx149_0⟩ := Kd.at_int (Kd.R_reads' HO_10.out).2.2 x34_1 p149 q149
                              obtain rfl : (⟨go12, 0, none⟩ : Addr) = ad149 := (by injection e149)
                              (first | simp only [add_plain] at hx149_0 | simp only [add_at] at hx149_0 | simp only [Addr.add, Nat.zero_add] at hx149_0 | skip)
                              replace p149 := eq_true p149
                              replace q149 := eq_true q149
                              have p31 : 0 ≤ ((ji23) : Int) := of_decide_eq_true (by first | (with_reducible assumption) | assumption)
                              have q31 : ((ji23) : Int) < ((x10_1.length : Int) : Int) := of_decide_eq_true (by first | (with_reducible assumption) | assumption)
                              obtain ⟨hx31_0, hf31_0⟩ := Kd.R_celln 0 HO_10.out ((ji23) : Int) p31 q31
                              replace p31 := eq_true p31
                              replace q31 := eq_true q31
                              have HP33 := Kd.R_putn HO_10.out ((ji23) : Int) ji29
                              rw [← Ny150.out] at HP33
                              have HQ33 := Aside0.mk HP33
                              clear HP33
                              refine start_ (n := 20) (S := fun w' => w'.cell? (ad144.add ((ji23)).toNat) = some (.int .i64 (rd t138 (ji23))) ∧ w'.cell? ⟨go12, (x34_1).toNat, none⟩ = some (.int .i64 (rd x10_1 x34_1))) (ds := [19]) #[false, false, false, false, false, false, false, false, false, false, false, false, false, false, false, false, false, false, false, false] (by kernel_rfl) rfl rfl ⟨hx148_0, hx149_0⟩ (fun hHeld => ?_); refine with_tabW auto_Step.tab12 auto_Step.bits12 (fun HT_ HW_ => ?_)
                              generalize wr.drew = w32 at HO_9 HO_10 HB HQ33 hf31_0 hx148_0 hx149_0 hx31_0 hHeld ⊢
                              refine pure_ (i := 0) (N := some 48) (v := ?_) (a' := ?_) #[true, false, false, false, false, false, false, false, false, false, false, false, false, false, false, false, false, false, false, false] rfl rfl (any_of HT_.out (by kernel_rfl)) (fun _ _ _ h => h) (Or.inl ⟨by rfl, ?_⟩) ?_ ?_
                              rotate_left
                              · intro w'
                                go_simp
                                with_reducible rfl
                              rotate_left
                              · simp only [Act.put, List.setIfInBounds_toArray, List.set_cons_zero, List.set_cons_succ, i64_w, i32_w]
                                rfl
                              refine pure_ (i := 1) (N := some 49) (v := ?_) (a' := ?_) #[true, true, false, false, false, false, false, false, false, false, false, false, false, false, false, false, false, false, false, false] rfl rfl (any_of HT_.out (by kernel_rfl)) (fun _ _ _ h => h) (Or.inl ⟨by rfl, ?_⟩) ?_ ?_
                              rotate_left
                              · intro w'
                                go_simp
                                with_reducible rfl
                              rotate_left
                              · simp only [Act.put, List.setIfInBounds_toArray, List.set_cons_zero, List.set_cons_succ, i64_w, i32_w]
                                rfl
                              refine pure_ (i := 2) (N := some 50) (v := ?_) (a' := ?_) #[true, true, true, false, false, false, false, false, false, false, false, false, false, false, false, false, false, false, false, false] rfl rfl (any_of HT_.out (by kernel_rfl)) (fun _ _ _ h => h) (Or.inl ⟨by rfl, ?_⟩) ?_ ?_
                              rotate_left
                              · intro w'
                                go_simp
                                with_reducible rfl
                              rotate_left
                              · simp only [Act.put, List.setIfInBounds_toArray, List.set_cons_zero, List.set_cons_succ, i64_w, i32_w]
                                rfl
                              refine pure_ (i := 3) (N := some 51) (v := ?_) (a' := ?_) #[true, true, true, true, false, false, false, false, false, false, false, false, false, false, false, false, false, false, false, false] rfl rfl (any_of HT_.out (by kernel_rfl)) (fun _ _ _ h => h) (Or.inl ⟨by rfl, ?_⟩) ?_ ?_
                              rotate_left
                              · intro w'
                                go_simp
                                with_reducible rfl
                              rotate_left
                              · simp only [Act.put, List.setIfInBounds_toArray, List.set_cons_zero, List.set_cons_succ, i64_w, i32_w]
                                rfl
                              refine pure_ (i := 4) (N := some 52) (v := ?_) (a' := ?_) #[true, true, true, true, true, false, false, false, false, false, false, false, false, false, false, false, false, false, false, false] rfl rfl (any_of HT_.out (by kernel_rfl)) (fun _ _ _ h => h) (Or.inl ⟨by rfl, ?_⟩) ?_ ?_
                              rotate_left
                              · intro w'
                                go_simp
                                with_reducible rfl
                              rotate_left
                              · simp only [Act.put, List.setIfInBounds_toArray, List.set_cons_zero, List.set_cons_succ, i64_w, i32_w]
                                rfl
                              refine pure_ (i := 5) (N := some 53) (v := ?_) (a' := ?_) #[true, true, true, true, true, true, false, false, false, false, false, false, false, false, false, false, false, false, false, false] rfl rfl (any_of HT_.out (by kernel_rfl)) (fun _ _ _ h => h) (Or.inl ⟨by rfl, ?_⟩) ?_ ?_
                              rotate_left
                              · intro w'
                                go_simp
                                with_reducible rfl
                              rotate_left
                              · simp only [Act.put, List.setIfInBounds_toArray, List.set_cons_zero, List.set_cons_succ, i64_w, i32_w]
                                rfl
                              refine pure_ (i := 6) (N := some 54) (v := ?_) (a' := ?_) #[true, true, true, true, true, true, true, false, false, false, false, false, false, false, false, false, false, false, false, false] rfl rfl (any_of HT_.out (by kernel_rfl)) (fun _ _ _ h => h) (Or.inl ⟨by rfl, ?_⟩) ?_ ?_
                              rotate_left
                              · intro w'
                                go_simp
                                with_reducible rfl
                              rotate_left
                              · simp only [Act.put, List.setIfInBounds_toArray, List.set_cons_zero, List.set_cons_succ, i64_w, i32_w]
                                rfl
                              refine pure_ (i := 9) (N := some 57) (v := ?_) (a' := ?_) #[true, true, true, true, true, true, true, false, false, true, false, false, false, false, false, false, false, false, false, false] rfl rfl (any_of HT_.out (by kernel_rfl)) (fun _ _ _ h => h) (Or.inl ⟨by rfl, ?_⟩) ?_ ?_
                              rotate_left
                              · intro w'
                                go_simp
                                with_reducible rfl
                              rotate_left
                              · simp only [Act.put, List.setIfInBounds_toArray, List.set_cons_zero, List.set_cons_succ, i64_w, i32_w]
                                rfl
                              refine pure_ (i := 10) (N := some 58) (v := ?_) (a' := ?_) #[true, true, true, true, true, true, true, false, false, true, true, false, false, false, false, false, false, false, false, false] rfl rfl (any_of HT_.out (by kernel_rfl)) (fun _ _ _ h => h) (Or.inl ⟨by rfl, ?_⟩) ?_ ?_
                              rotate_left
                              · intro w'
                                go_simp
                                with_reducible rfl
                              rotate_left
                              · simp only [Act.put, List.setIfInBounds_toArray, List.set_cons_zero, List.set_cons_succ, i64_w, i32_w]
                                rfl
                              refine pure_ (i := 11) (N := some 59) (v := ?_) (a' := ?_) #[true, true, true, true, true, true, true, false, false, true, true, true, false, false, false, false, false, false, false, false] rfl rfl (any_of HT_.out (by kernel_rfl)) (fun _ _ _ h => h) (Or.inl ⟨by rfl, ?_⟩) ?_ ?_
                              rotate_left
                              · intro w'
                                go_simp
                                with_reducible rfl
                              rotate_left
                              · simp only [Act.put, List.setIfInBounds_toArray, List.set_cons_zero, List.set_cons_succ, i64_w, i32_w]
                                rfl
                              refine pure_ (i := 14) (N := some 62) (v := ?_) (a' := ?_) #[true, true, true, true, true, true, true, false, false, true, true, true, false, false, true, false, false, false, false, false] rfl rfl (any_of HT_.out (by kernel_rfl)) (fun _ _ _ h => h) (Or.inl ⟨by rfl, ?_⟩) ?_ ?_
                              rotate_left
                              · intro w'
                                go_simp
                                with_reducible rfl
                              rotate_left
                              · simp only [Act.put, List.setIfInBounds_toArray, List.set_cons_zero, List.set_cons_succ, i64_w, i32_w]
                                rfl
                              refine pure_ (i := 15) (N := some 63) (v := ?_) (a' := ?_) #[true, true, true, true, true, true, true, false, false, true, true, true, false, false, true, true, false, false, false, false] rfl rfl (any_of HT_.out (by kernel_rfl)) (fun _ _ _ h => h) (Or.inl ⟨by rfl, ?_⟩) ?_ ?_
                              rotate_left
                              · intro w'
                                go_simp
                                with_reducible rfl
                              rotate_left
                              · simp only [Act.put, List.setIfInBounds_toArray, List.set_cons_zero, List.set_cons_succ, i64_w, i32_w]
                                rfl
                              refine pure_ (i := 16) (N := some 64) (v := ?_) (a' := ?_) #[true, true, true, true, true, true, true, false, false, true, true, true, false, false, true, true, true, false, false, false] rfl rfl (any_of HT_.out (by kernel_rfl)) (fun _ _ _ h => h) (Or.inl ⟨by rfl, ?_⟩) ?_ ?_
                              rotate_left
                              · intro w'
                                go_simp
                                with_reducible rfl
                              rotate_left
                              · simp only [Act.put, List.setIfInBounds_toArray, List.set_cons_zero, List.set_cons_succ, i64_w, i32_w]
                                rfl
                              refine take_ (i := 7) (N := some 55) (v := ?_) (a' := ?_) #[true, true, true, true, true, true, true, true, false, true, true, true, false, false, true, true, true, false, false, false] rfl rfl (take_ofW HT_.out HW_.out (by kernel_rfl)) (fun _ _ _ h => h) (Or.inl ⟨by rfl, ?_⟩) hHeld ?_ ?_
                              rotate_left
                              · rintro w' ⟨s0, s1⟩
                                go_simp
                                with_reducible rfl
                              rotate_left
                              · simp only [Act.put, List.setIfInBounds_toArray, List.set_cons_zero, List.set_cons_succ, i64_w, i32_w]
                                rfl
                              refine pure_ (i := 8) (N := some 56) (v := ?_) (a' := ?_) #[true, true, true, true, true, true, true, true, true, true, true, true, false, false, true, true, true, false, false, false] rfl rfl (any_of HT_.out (by kernel_rfl)) (fun _ _ _ h => h) (Or.inl ⟨by rfl, ?_⟩) ?_ ?_
                              rotate_left
                              · intro w'
                                go_simp
                                with_reducible rfl
                              rotate_left
                              · simp only [Act.put, List.setIfInBounds_toArray, List.set_cons_zero, List.set_cons_succ, i64_w, i32_w]
                                rfl
                              refine take_ (i := 12) (N := some 60) (v := ?_) (a' := ?_) #[true, true, true, true, true, true, true, true, true, true, true, true, true, false, true, true, true, false, false, false] rfl rfl (take_ofW HT_.out HW_.out (by kernel_rfl)) (fun _ _ _ h => h) (Or.inl ⟨by rfl, ?_⟩) hHeld ?_ ?_
                              rotate_left
                              · rintro w' ⟨s0, s1⟩
                                go_simp
                                with_reducible rfl
                              rotate_left
                              · simp only [Act.put, List.setIfInBounds_toArray, List.set_cons_zero, List.set_cons_succ, i64_w, i32_w]
                                rfl
                              refine pure_ (i := 13) (N := some 61) (v := ?_) (a' := ?_) #[true, true, true, true, true, true, true, true, true, true, true, true, true, true, true, true, true, false, false, false] rfl rfl (any_of HT_.out (by kernel_rfl)) (fun _ _ _ h => h) (Or.inl ⟨by rfl, ?_⟩) ?_ ?_
                              rotate_left
                              · intro w'
                                go_simp
                                with_reducible rfl
                              rotate_left
                              · simp only [Act.put, List.setIfInBounds_toArray, List.set_cons_zero, List.set_cons_succ, i64_w, i32_w]
                                rfl
                              refine pure_ (i := 17) (N := some 65) (v := ?_) (a' := ?_) #[true, true, true, true, true, true, true, true, true, true, true, true, true, true, true, true, true, true, false, false] rfl rfl (any_of HT_.out (by kernel_rfl)) (fun _ _ _ h => h) (Or.inl ⟨by rfl, ?_⟩) ?_ ?_
                              rotate_left
                              · intro w'
                                go_simp
                                with_reducible rfl
                              rotate_left
                              · simp only [Act.put, List.setIfInBounds_toArray, List.set_cons_zero, List.set_cons_succ, i64_w, i32_w]
                                rfl
                              refine pure_ (i := 18) (N := some 66) (v := ?_) (a' := ?_) #[true, true, true, true, true, true, true, true, true, true, true, true, true, true, true, true, true, true, true, false] rfl rfl (any_of HT_.out (by kernel_rfl)) (fun _ _ _ h => h) (Or.inl ⟨by rfl, ?_⟩) ?_ ?_
                              rotate_left
                              · intro w'
                                go_simp
                                with_reducible rfl
                              rotate_left
                              · simp only [Act.put, List.setIfInBounds_toArray, List.set_cons_zero, List.set_cons_succ, i64_w, i32_w]
                                rfl
                              refine last_ (i := 19) (N := none) #[true, true, true, true, true, true, true, true, true, true, true, true, true, true, true, true, true, true, true, true] rfl rfl (one_of HT_.out (by kernel_rfl)) (by decide) (fun K hK => ?_)
                              refine skip_ (w1 := ?_) (by rfl) rfl ?_ ?_
                              rotate_left
                              · go_simp
                                rfl
                              refine hK.out _ _ ?_
                              clear hK K
                              refine done_ (done_of HT_.out (by kernel_rfl)) ?_
                              try go_wp2
                              (try simp only [← hl10_1])
                              go_roundg k1
                              case measure => have := HK1.out; omega
                              case rel => exact ⟨(y150), (ji23), (by first | rfl | (simp; done) | (simp only [← hji23] <;> (first | rfl | simp)) | (simp [*]; done)), H', ⟨by have := HK1.out; omega⟩, ⟨by (try simp only [hl10_1]); (with_reducible repeat (first | apply Kd.R_alloc | apply Kd.R_drewN | apply Kd.R_drew)); exact Kd.R_mono (Kd.R_far (p := ⟨go12, ((ji23) : Int).toNat, none⟩) (Kd.R_mono HO_9.out (fun k_ hk => (⟨hk, fun e_ => hk (by rw [e_]; rfl)⟩ : _ ∧ k_ ≠ go12))) (fun _ hk => hk.2) (.int .i64 ji29)) (fun _ hk => hk.1)⟩, ⟨by (try simp only [hl10_1]); (with_reducible repeat (first | apply Kd.R_alloc | apply Kd.R_drewN | apply Kd.R_drew)); exact HQ33.out⟩, ⟨by repeat (first | (with_reducible first | exact HB.out | apply below_alloc | apply pw_below_drewN | apply below_drew1 | refine below_set ?_ GB12.out) | exact HB.out)⟩⟩
                            · rw [if_neg c30] at H
                              exact absurd H (by simp)
                          · rw [if_neg c26] at H
                            exact absurd H (by simp)
                        · rw [if_neg c25] at H
                          exact absurd H (by simp)
                      · rw [if_neg c24] at H
                        exact absurd H (by simp)
                    · rw [if_neg c22] at H
                      have c22b0 : ((rd l0 x34_1) == a3) = false := beq_eq_false_iff_ne.mpr c22
                      have c22b1 : ((rd l0 x34_1) != a3) = true := bne_iff_ne.mpr c22
                      obtain ⟨ji34, hji34⟩ : ∃ j_ : Int, (wrap64 (x34_1 + 1)) = j_ := ⟨_, rfl⟩
                      replace H : (if 0 ≤ (ji34) then (if (ji34) < (t138.length : Int) then (if x34_1 < (x10_1.length : Int) then (if (ji34) < (x10_1.length : Int) then (auto_Step.l0 k1 a1 a3 t138 (x10_1.set ((ji34) : Int).toNat (mn (mn (mn (wrap64 ((rd t138 (ji34)) + 1)) (wrap64 ((rd x10_1 x34_1) + 1))) (wrap64 ((rd t138 x34_1) + 1))) (wrap64 (a1 + 1)))) l0 (l0.length : Int) ji34) else (none)) else (none)) else (none)) else (none)) = some r := by first | (rw [hji34] at H; exact H) | (simp only [hji34] at H ⊢; exact H)
                      have hji34w : (IntKind.i64.wrap (x34_1 + 1)) = ji34 := (i64_w _).trans hji34
                      by_cases c35 : 0 ≤ (ji34)
                      · rw [if_pos c35] at H
                        have c35b0 : decide (0 ≤ (ji34)) = true := decide_eq_true c35
                        (try simp only [hl10_1] at c35b0)
                        clear c35
                        by_cases c36 : (ji34) < (t138.length : Int)
                        · rw [if_pos c36] at H
                          have c36b0 : decide ((ji34) < (t138.length : Int)) = true := decide_eq_true c36
                          (try simp only [hl10_1] at c36b0)
                          clear c36
                          by_cases c37 : x34_1 < (x10_1.length : Int)
                          · rw [if_pos c37] at H
                            have c37b0 : decide (x34_1 < (x10_1.length : Int)) = true := decide_eq_true c37
                            (try simp only [hl10_1] at c37b0)
                            clear c37
                            obtain ⟨ji38, hji38⟩ : ∃ j_ : Int, (mn (wrap64 ((rd t138 (ji34)) + 1)) (wrap64 ((rd x10_1 x34_1) + 1))) = j_ := ⟨_, rfl⟩
                            replace H : (if (ji34) < (x10_1.length : Int) then (auto_Step.l0 k1 a1 a3 t138 (x10_1.set ((ji34) : Int).toNat (mn (mn (ji38) (wrap64 ((rd t138 x34_1) + 1))) (wrap64 (a1 + 1)))) l0 (l0.length : Int) ji34) else (none)) = some r := by first | (rw [hji38] at H; exact H) | (simp only [hji38] at H ⊢; exact H)
                            have hji38_ : (if (wrap64 ((rd x10_1 x34_1) + 1)) < (wrap64 ((rd t138 (ji34)) + 1)) then (wrap64 ((rd x10_1 x34_1) + 1)) else (wrap64 ((rd t138 (ji34)) + 1))) = ji38 := hji38
                            obtain ⟨ji39, hji39⟩ : ∃ j_ : Int, (mn (ji38) (wrap64 ((rd t138 x34_1) + 1))) = j_ := ⟨_, rfl⟩
                            replace H : (if (ji34) < (x10_1.length : Int) then (auto_Step.l0 k1 a1 a3 t138 (x10_1.set ((ji34) : Int).toNat (mn (ji39) (wrap64 (a1 + 1)))) l0 (l0.length : Int) ji34) else (none)) = some r := by first | (rw [hji39] at H; exact H) | (simp only [hji39] at H ⊢; exact H)
                            have hji39_ : (if (wrap64 ((rd t138 x34_1) + 1)) < (ji38) then (wrap64 ((rd t138 x34_1) + 1)) else (ji38)) = ji39 := hji39
                            obtain ⟨ji40, hji40⟩ : ∃ j_ : Int, (mn (ji39) (wrap64 (a1 + 1))) = j_ := ⟨_, rfl⟩
                            replace H : (if (ji34) < (x10_1.length : Int) then (auto_Step.l0 k1 a1 a3 t138 (x10_1.set ((ji34) : Int).toNat (ji40)) l0 (l0.length : Int) ji34) else (none)) = some r := by first | (rw [hji40] at H; exact H) | (simp only [hji40] at H ⊢; exact H)
                            have hji40_ : (if (wrap64 (a1 + 1)) < (ji39) then (wrap64 (a1 + 1)) else (ji39)) = ji40 := hji40
                            by_cases c41 : (ji34) < (x10_1.length : Int)
                            · rw [if_pos c41] at H
                              have c41b0 : decide ((ji34) < (x10_1.length : Int)) = true := decide_eq_true c41
                              (try simp only [hl10_1] at c41b0)
                              clear c41
                              obtain ⟨y153, hy153⟩ : ∃ y_ : List Int, y_ = (x10_1.set ((ji34) : Int).toNat (ji40)) := ⟨_, rfl⟩
                              replace H : (auto_Step.l0 k1 a1 a3 t138 y153 l0 (l0.length : Int) ji34) = some r := by first | (rw [hy153]; with_reducible exact H) | (have H2_ := (Option.bind_some _ _).symm.trans H; rw [hy153]; with_reducible exact H2_) | (have H2_ := (Option.bind_some _ _).symm.trans H; with_reducible exact H2_) | with_reducible exact H | (rw [hy153]; exact H) | exact H
                              have Ny153 := Aside0.mk hy153
                              clear hy153
                              have H' := Aside0.mk H
                              clear H
                              have p146 : 0 ≤ (x34_1 : Int) := of_decide_eq_true (by first | (with_reducible assumption) | assumption)
                              have q146 : x34_1 < (l0.length : Int) := of_decide_eq_true (by first | (with_reducible assumption) | assumption)
                              obtain ⟨ad146, e146, hx146_0⟩ := Kd.at_int HR0.out x34_1 p146 q146
                              cases e146
                              replace hx146_0 := (HB.out.cell (World.block_lt_of_cell? w _ hx146_0)).trans hx146_0
                              replace p146 := eq_true p146
                              replace q146 := eq_true q146
                              have p147 : 0 ≤ (x34_1 : Int) := of_decide_eq_true (by first | (with_reducible assumption) | assumption)
                              have q147 : x34_1 < (t138.length : Int) := of_decide_eq_true (by first | (with_reducible assumption) | assumption)
                              obtain ⟨ad147, e147, hx147_0⟩ := Kd.at_int (Kd.R_reads' HO_9.out).2.2 x34_1 p147 q147
                              obtain rfl : ad144 = ad147 := (by injection e147)
                              replace p147 := eq_true p147
                              replace q147 := eq_true q147
                              try go_wp2
                              have n0_ := Aside0.mk (Kd.R_drew HO_9.out)
                              have n1_ := Aside0.mk (Kd.R_drew HO_10.out)
                              have n2_ := Aside0.mk (below_drew1 HB.out)
                              clear HO_9
                              clear HO_10
                              clear HB
                              have HO_9 := n0_
                              have HO_10 := n1_
                              have HB := n2_
                              clear n0_ n1_ n2_
                              have p151 : 0 ≤ ((ji34) : Int) := of_decide_eq_true (by first | (with_reducible assumption) | assumption)
                              have q151 : (ji34) < (t138.length : Int) := of_decide_eq_true (by first | (with_reducible assumption) | assumption)
                              obtain ⟨ad151, e151, hx151_0⟩ := Kd.at_int (Kd.R_reads' HO_9.out).2.2 (ji34) p151 q151
                              obtain rfl : ad144 = ad151 := (by injection e151)
                              replace p151 := eq_true p151
                              replace q151 := eq_true q151
                              have p152 : 0 ≤ (x34_1 : Int) := of_decide_eq_true (by first | (with_reducible assumption) | assumption)
                              have q152 : x34_1 < (x10_1.length : Int) := of_decide_eq_true (by first | (with_reducible assumption) | assumption)
                              obtain ⟨ad152, e152, hx152_0⟩ := Kd.at_int (Kd.R_reads' HO_10.out).2.2 x34_1 p152 q152
                              obtain rfl : (⟨go12, 0, none⟩ : Addr) = ad152 := (by injection e152)
                              (first | simp only [add_plain] at hx152_0 | simp only [add_at] at hx152_0 | simp only [Addr.add, Nat.zero_add] at hx152_0 | skip)
                              replace p152 := eq_true p152
                              replace q152 := eq_true q152
                              have p42 : 0 ≤ ((ji34) : Int) := of_decide_eq_true (by first | (with_reducible assumption) | assumption)
                              have q42 : ((ji34) : Int) < ((x10_1.length : Int) : Int) := of_decide_eq_true (by first | (with_reducible assumption) | assumption)
                              obtain ⟨hx42_0, hf42_0⟩ := Kd.R_celln 0 HO_10.out ((ji34) : Int) p42 q42
                              replace p42 := eq_true p42
                              replace q42 := eq_true q42
                              have HP44 := Kd.R_putn HO_10.out ((ji34) : Int) ji40
                              rw [← Ny153.out] at HP44
                              have HQ44 := Aside0.mk HP44
                              clear HP44
                              refine start_ (n := 20) (S := fun w' => w'.cell? (ad144.add ((ji34)).toNat) = some (.int .i64 (rd t138 (ji34))) ∧ w'.cell? ⟨go12, (x34_1).toNat, none⟩ = some (.int .i64 (rd x10_1 x34_1))) (ds := [19]) #[false, false, false, false, false, false, false, false, false, false, false, false, false, false, false, false, false, false, false, false] (by kernel_rfl) rfl rfl ⟨hx151_0, hx152_0⟩ (fun hHeld => ?_); refine with_tabW auto_Step.tab12 auto_Step.bits12 (fun HT_ HW_ => ?_)
                              generalize wr.drew = w43 at HO_9 HO_10 HB HQ44 hf42_0 hx151_0 hx152_0 hx42_0 hHeld ⊢
                              refine pure_ (i := 0) (N := some 48) (v := ?_) (a' := ?_) #[true, false, false, false, false, false, false, false, false, false, false, false, false, false, false, false, false, false, false, false] rfl rfl (any_of HT_.out (by kernel_rfl)) (fun _ _ _ h => h) (Or.inl ⟨by rfl, ?_⟩) ?_ ?_
                              rotate_left
                              · intro w'
                                go_simp
                                with_reducible rfl
                              rotate_left
                              · simp only [Act.put, List.setIfInBounds_toArray, List.set_cons_zero, List.set_cons_succ, i64_w, i32_w]
                                rfl
                              refine pure_ (i := 1) (N := some 49) (v := ?_) (a' := ?_) #[true, true, false, false, false, false, false, false, false, false, false, false, false, false, false, false, false, false, false, false] rfl rfl (any_of HT_.out (by kernel_rfl)) (fun _ _ _ h => h) (Or.inl ⟨by rfl, ?_⟩) ?_ ?_
                              rotate_left
                              · intro w'
                                go_simp
                                with_reducible rfl
                              rotate_left
                              · simp only [Act.put, List.setIfInBounds_toArray, List.set_cons_zero, List.set_cons_succ, i64_w, i32_w]
                                rfl
                              refine pure_ (i := 2) (N := some 50) (v := ?_) (a' := ?_) #[true, true, true, false, false, false, false, false, false, false, false, false, false, false, false, false, false, false, false, false] rfl rfl (any_of HT_.out (by kernel_rfl)) (fun _ _ _ h => h) (Or.inl ⟨by rfl, ?_⟩) ?_ ?_
                              rotate_left
                              · intro w'
                                go_simp
                                with_reducible rfl
                              rotate_left
                              · simp only [Act.put, List.setIfInBounds_toArray, List.set_cons_zero, List.set_cons_succ, i64_w, i32_w]
                                rfl
                              refine pure_ (i := 3) (N := some 51) (v := ?_) (a' := ?_) #[true, true, true, true, false, false, false, false, false, false, false, false, false, false, false, false, false, false, false, false] rfl rfl (any_of HT_.out (by kernel_rfl)) (fun _ _ _ h => h) (Or.inl ⟨by rfl, ?_⟩) ?_ ?_
                              rotate_left
                              · intro w'
                                go_simp
                                with_reducible rfl
                              rotate_left
                              · simp only [Act.put, List.setIfInBounds_toArray, List.set_cons_zero, List.set_cons_succ, i64_w, i32_w]
                                rfl
                              refine pure_ (i := 4) (N := some 52) (v := ?_) (a' := ?_) #[true, true, true, true, true, false, false, false, false, false, false, false, false, false, false, false, false, false, false, false] rfl rfl (any_of HT_.out (by kernel_rfl)) (fun _ _ _ h => h) (Or.inl ⟨by rfl, ?_⟩) ?_ ?_
                              rotate_left
                              · intro w'
                                go_simp
                                with_reducible rfl
                              rotate_left
                              · simp only [Act.put, List.setIfInBounds_toArray, List.set_cons_zero, List.set_cons_succ, i64_w, i32_w]
                                rfl
                              refine pure_ (i := 5) (N := some 53) (v := ?_) (a' := ?_) #[true, true, true, true, true, true, false, false, false, false, false, false, false, false, false, false, false, false, false, false] rfl rfl (any_of HT_.out (by kernel_rfl)) (fun _ _ _ h => h) (Or.inl ⟨by rfl, ?_⟩) ?_ ?_
                              rotate_left
                              · intro w'
                                go_simp
                                with_reducible rfl
                              rotate_left
                              · simp only [Act.put, List.setIfInBounds_toArray, List.set_cons_zero, List.set_cons_succ, i64_w, i32_w]
                                rfl
                              refine pure_ (i := 6) (N := some 54) (v := ?_) (a' := ?_) #[true, true, true, true, true, true, true, false, false, false, false, false, false, false, false, false, false, false, false, false] rfl rfl (any_of HT_.out (by kernel_rfl)) (fun _ _ _ h => h) (Or.inl ⟨by rfl, ?_⟩) ?_ ?_
                              rotate_left
                              · intro w'
                                go_simp
                                with_reducible rfl
                              rotate_left
                              · simp only [Act.put, List.setIfInBounds_toArray, List.set_cons_zero, List.set_cons_succ, i64_w, i32_w]
                                rfl
                              refine pure_ (i := 9) (N := some 57) (v := ?_) (a' := ?_) #[true, true, true, true, true, true, true, false, false, true, false, false, false, false, false, false, false, false, false, false] rfl rfl (any_of HT_.out (by kernel_rfl)) (fun _ _ _ h => h) (Or.inl ⟨by rfl, ?_⟩) ?_ ?_
                              rotate_left
                              · intro w'
                                go_simp
                                with_reducible rfl
                              rotate_left
                              · simp only [Act.put, List.setIfInBounds_toArray, List.set_cons_zero, List.set_cons_succ, i64_w, i32_w]
                                rfl
                              refine pure_ (i := 10) (N := some 58) (v := ?_) (a' := ?_) #[true, true, true, true, true, true, true, false, false, true, true, false, false, false, false, false, false, false, false, false] rfl rfl (any_of HT_.out (by kernel_rfl)) (fun _ _ _ h => h) (Or.inl ⟨by rfl, ?_⟩) ?_ ?_
                              rotate_left
                              · intro w'
                                go_simp
                                with_reducible rfl
                              rotate_left
                              · simp only [Act.put, List.setIfInBounds_toArray, List.set_cons_zero, List.set_cons_succ, i64_w, i32_w]
                                rfl
                              refine pure_ (i := 11) (N := some 59) (v := ?_) (a' := ?_) #[true, true, true, true, true, true, true, false, false, true, true, true, false, false, false, false, false, false, false, false] rfl rfl (any_of HT_.out (by kernel_rfl)) (fun _ _ _ h => h) (Or.inl ⟨by rfl, ?_⟩) ?_ ?_
                              rotate_left
                              · intro w'
                                go_simp
                                with_reducible rfl
                              rotate_left
                              · simp only [Act.put, List.setIfInBounds_toArray, List.set_cons_zero, List.set_cons_succ, i64_w, i32_w]
                                rfl
                              refine pure_ (i := 14) (N := some 62) (v := ?_) (a' := ?_) #[true, true, true, true, true, true, true, false, false, true, true, true, false, false, true, false, false, false, false, false] rfl rfl (any_of HT_.out (by kernel_rfl)) (fun _ _ _ h => h) (Or.inl ⟨by rfl, ?_⟩) ?_ ?_
                              rotate_left
                              · intro w'
                                go_simp
                                with_reducible rfl
                              rotate_left
                              · simp only [Act.put, List.setIfInBounds_toArray, List.set_cons_zero, List.set_cons_succ, i64_w, i32_w]
                                rfl
                              refine pure_ (i := 15) (N := some 63) (v := ?_) (a' := ?_) #[true, true, true, true, true, true, true, false, false, true, true, true, false, false, true, true, false, false, false, false] rfl rfl (any_of HT_.out (by kernel_rfl)) (fun _ _ _ h => h) (Or.inl ⟨by rfl, ?_⟩) ?_ ?_
                              rotate_left
                              · intro w'
                                go_simp
                                with_reducible rfl
                              rotate_left
                              · simp only [Act.put, List.setIfInBounds_toArray, List.set_cons_zero, List.set_cons_succ, i64_w, i32_w]
                                rfl
                              refine pure_ (i := 16) (N := some 64) (v := ?_) (a' := ?_) #[true, true, true, true, true, true, true, false, false, true, true, true, false, false, true, true, true, false, false, false] rfl rfl (any_of HT_.out (by kernel_rfl)) (fun _ _ _ h => h) (Or.inl ⟨by rfl, ?_⟩) ?_ ?_
                              rotate_left
                              · intro w'
                                go_simp
                                with_reducible rfl
                              rotate_left
                              · simp only [Act.put, List.setIfInBounds_toArray, List.set_cons_zero, List.set_cons_succ, i64_w, i32_w]
                                rfl
                              refine take_ (i := 7) (N := some 55) (v := ?_) (a' := ?_) #[true, true, true, true, true, true, true, true, false, true, true, true, false, false, true, true, true, false, false, false] rfl rfl (take_ofW HT_.out HW_.out (by kernel_rfl)) (fun _ _ _ h => h) (Or.inl ⟨by rfl, ?_⟩) hHeld ?_ ?_
                              rotate_left
                              · rintro w' ⟨s0, s1⟩
                                go_simp
                                with_reducible rfl
                              rotate_left
                              · simp only [Act.put, List.setIfInBounds_toArray, List.set_cons_zero, List.set_cons_succ, i64_w, i32_w]
                                rfl
                              refine pure_ (i := 8) (N := some 56) (v := ?_) (a' := ?_) #[true, true, true, true, true, true, true, true, true, true, true, true, false, false, true, true, true, false, false, false] rfl rfl (any_of HT_.out (by kernel_rfl)) (fun _ _ _ h => h) (Or.inl ⟨by rfl, ?_⟩) ?_ ?_
                              rotate_left
                              · intro w'
                                go_simp
                                with_reducible rfl
                              rotate_left
                              · simp only [Act.put, List.setIfInBounds_toArray, List.set_cons_zero, List.set_cons_succ, i64_w, i32_w]
                                rfl
                              refine take_ (i := 12) (N := some 60) (v := ?_) (a' := ?_) #[true, true, true, true, true, true, true, true, true, true, true, true, true, false, true, true, true, false, false, false] rfl rfl (take_ofW HT_.out HW_.out (by kernel_rfl)) (fun _ _ _ h => h) (Or.inl ⟨by rfl, ?_⟩) hHeld ?_ ?_
                              rotate_left
                              · rintro w' ⟨s0, s1⟩
                                go_simp
                                with_reducible rfl
                              rotate_left
                              · simp only [Act.put, List.setIfInBounds_toArray, List.set_cons_zero, List.set_cons_succ, i64_w, i32_w]
                                rfl
                              refine pure_ (i := 13) (N := some 61) (v := ?_) (a' := ?_) #[true, true, true, true, true, true, true, true, true, true, true, true, true, true, true, true, true, false, false, false] rfl rfl (any_of HT_.out (by kernel_rfl)) (fun _ _ _ h => h) (Or.inl ⟨by rfl, ?_⟩) ?_ ?_
                              rotate_left
                              · intro w'
                                go_simp
                                with_reducible rfl
                              rotate_left
                              · simp only [Act.put, List.setIfInBounds_toArray, List.set_cons_zero, List.set_cons_succ, i64_w, i32_w]
                                rfl
                              refine pure_ (i := 17) (N := some 65) (v := ?_) (a' := ?_) #[true, true, true, true, true, true, true, true, true, true, true, true, true, true, true, true, true, true, false, false] rfl rfl (any_of HT_.out (by kernel_rfl)) (fun _ _ _ h => h) (Or.inl ⟨by rfl, ?_⟩) ?_ ?_
                              rotate_left
                              · intro w'
                                go_simp
                                with_reducible rfl
                              rotate_left
                              · simp only [Act.put, List.setIfInBounds_toArray, List.set_cons_zero, List.set_cons_succ, i64_w, i32_w]
                                rfl
                              refine pure_ (i := 18) (N := some 66) (v := ?_) (a' := ?_) #[true, true, true, true, true, true, true, true, true, true, true, true, true, true, true, true, true, true, true, false] rfl rfl (any_of HT_.out (by kernel_rfl)) (fun _ _ _ h => h) (Or.inl ⟨by rfl, ?_⟩) ?_ ?_
                              rotate_left
                              · intro w'
                                go_simp
                                with_reducible rfl
                              rotate_left
                              · simp only [Act.put, List.setIfInBounds_toArray, List.set_cons_zero, List.set_cons_succ, i64_w, i32_w]
                                rfl
                              refine last_ (i := 19) (N := none) #[true, true, true, true, true, true, true, true, true, true, true, true, true, true, true, true, true, true, true, true] rfl rfl (one_of HT_.out (by kernel_rfl)) (by decide) (fun K hK => ?_)
                              refine skip_ (w1 := ?_) (by rfl) rfl ?_ ?_
                              rotate_left
                              · go_simp
                                rfl
                              refine hK.out _ _ ?_
                              clear hK K
                              refine done_ (done_of HT_.out (by kernel_rfl)) ?_
                              try go_wp2
                              (try simp only [← hl10_1])
                              go_roundg k1
                              case measure => have := HK1.out; omega
                              case rel => exact ⟨(y153), (ji34), (by first | rfl | (simp; done) | (simp only [← hji34] <;> (first | rfl | simp)) | (simp [*]; done)), H', ⟨by have := HK1.out; omega⟩, ⟨by (try simp only [hl10_1]); (with_reducible repeat (first | apply Kd.R_alloc | apply Kd.R_drewN | apply Kd.R_drew)); exact Kd.R_mono (Kd.R_far (p := ⟨go12, ((ji34) : Int).toNat, none⟩) (Kd.R_mono HO_9.out (fun k_ hk => (⟨hk, fun e_ => hk (by rw [e_]; rfl)⟩ : _ ∧ k_ ≠ go12))) (fun _ hk => hk.2) (.int .i64 ji40)) (fun _ hk => hk.1)⟩, ⟨by (try simp only [hl10_1]); (with_reducible repeat (first | apply Kd.R_alloc | apply Kd.R_drewN | apply Kd.R_drew)); exact HQ44.out⟩, ⟨by repeat (first | (with_reducible first | exact HB.out | apply below_alloc | apply pw_below_drewN | apply below_drew1 | refine below_set ?_ GB12.out) | exact HB.out)⟩⟩
                            · rw [if_neg c41] at H
                              exact absurd H (by simp)
                          · rw [if_neg c37] at H
                            exact absurd H (by simp)
                        · rw [if_neg c36] at H
                          exact absurd H (by simp)
                      · rw [if_neg c35] at H
                        exact absurd H (by simp)
                  · rw [if_neg c21] at H
                    exact absurd H (by simp)
                · rw [if_neg c20] at H
                  exact absurd H (by simp)
              · rw [if_neg c19] at H
                exact absurd H (by simp)
            · rw [if_neg c18] at H
              have c18b0 : decide (x34_1 < (l0.length : Int)) = false := decide_eq_false c18
              (try simp only [hl10_1] at c18b0)
              clear c18
              replace H := Option.bind_eq_some_iff.mp H
              obtain ⟨t154, A450, H⟩ := H
              replace H : (some t154) = some r := H
              have A45 := Aside0.mk A450
              clear A450
              obtain rfl := Option.some.inj H
              go_wp2_with (first | ((with_reducible refine gate_callee (f := 81) rfl ?_); refine goesL_ (some 70) rfl rfl Try.func81 (by kernel_rfl) rfl #[.slice (some ⟨go12, 0, none⟩) x10_1.length co12, .int .i64 a1] rfl (by (try simp only [List.map_toArray, List.map_cons, List.map_nil]); first | done | rfl | (simp only [List.length_drop, List.length_take]; rfl)) ?_; (with_reducible refine (auto_state.calls k1 _ _ x10_1 a1 t154 _ ?side1 ?side2 A45.out).mono ?_); (case side1 => repeat (first | exact (Kd.R_reads' HO_10.out).2.2 | (with_reducible refine Kd.C_alloc ?_ _) | (with_reducible refine Kd.C_drewN ?_ _) | (with_reducible refine Kd.C_drew ?_))); (case side2 => exact (Kd.R_reads' HO_10.out).2.1); rintro e w46 ⟨v155, rfl, ho0, hb⟩; refine ⟨_, rfl, ?_⟩; have n0_ := Aside0.mk (Kd.R_below (by (with_reducible repeat (first | apply Kd.R_alloc | apply Kd.R_drewN | apply Kd.R_drew)); exact HO_9.out) hb); have n1_ := Aside0.mk (Kd.R_below (by (with_reducible repeat (first | apply Kd.R_alloc | apply Kd.R_drewN | apply Kd.R_drew)); exact HO_10.out) hb); have n2_ := Aside0.mk (Kd.R_lower ho0 (below_size (by repeat (first | (with_reducible first | exact HB.out | apply below_alloc | apply pw_below_drewN | apply below_drew1) | exact HB.out)))); have n3_ := Aside0.mk (below_step (by repeat (first | (with_reducible first | exact HB.out | apply below_alloc | apply pw_below_drewN | apply below_drew1) | exact HB.out)) hb); clear HO_9; clear HO_10; clear HB; have HO_9 := n0_; have HO_10 := n1_; have HO156 := n2_; have HB := n3_; clear n0_ n1_ n2_ n3_; (try clear hb); (try clear hb2); (try clear hk); (try clear hi); (try clear ho0)))
              go_ret
              exact ⟨_, by first | rfl | (simp [errW_none, errW_some] <;> rfl) | (simp only [← hji10]; first | rfl | (simp [errW_none, errW_some] <;> rfl)) | (simp [*, errW_none, errW_some] <;> rfl), by (with_reducible repeat (first | apply Kd.R_alloc | apply Kd.R_drewN | apply Kd.R_drew)); exact HO156.out, by repeat (first | (with_reducible first | exact HB.out | apply below_alloc | apply pw_below_drewN | apply below_drew1) | exact HB.out)⟩
      · rw [if_neg c11] at H
        exact absurd H (by simp)
    · rw [if_neg c9] at H
      exact absurd H (by simp)
  · replace c6 := Bool.eq_false_iff.mpr c6
    subst c6
    have H1 : (some ([] : List (S121))) = some r := by rw [if_neg (show ¬ (false = true) by decide)] at H; exact H
    clear H
    have H := H1
    clear H1
    obtain rfl := Option.some.inj H
    go_enter Try.func58, Try.ntmps58
    go_wp2_with (first | ((with_reducible refine gate_callee (f := 76) rfl ?_); refine goesL_ (some 15) rfl rfl Try.func76 (by kernel_rfl) rfl #[.int .i64 a1] rfl (by (try simp only [List.map_toArray, List.map_cons, List.map_nil]); first | done | rfl | (simp only [List.length_drop, List.length_take]; rfl)) ?_; (with_reducible refine (auto_may.calls a1 false _ A5.out).mono ?_); rintro e w' ⟨rfl, ⟨nd, rfl⟩⟩; refine ⟨_, rfl, ?_⟩))
    go_ret
    exact ⟨_, by first | rfl | (simp [errW_none, errW_some] <;> rfl) | (simp [*, errW_none, errW_some] <;> rfl), by first | exact Kd.R_nil _ _ _ _ _ | exact Kd.N_nil _ _ _ _ _ | exact Kd.V_nil _ _ _ _ _ | exact Kd.Q_nil _ _ _ _ _ | exact Kd.S_nil _ _ _ _ _, by repeat (first | (with_reducible first | exact HB.out | apply below_alloc | apply pw_below_drewN | apply below_drew1) | exact HB.out)⟩

/-! ### auto_Dead: function 59 -/
def auto_Dead.f (l0 : List (S121)) : Option (Bool) := some ((l0.length : Int) == 0)
set_option maxHeartbeats 8000000 in
set_option maxRecDepth 100000 in
theorem auto_Dead.calls (A0 : Option Addr) (c0 : Nat) (l0 : List (S121)) (r : Bool) (w : World) (hr0 : Kd.C k121 w A0 l0.length l0) (hc0 : l0.length ≤ c0) (h : auto_Dead.f l0 = some r) :
    Calls Try.prog 59 #[.slice A0 l0.length c0] w fun e w' => e = .returned (.bool r) ∧ Drawn0 w w' := by
  have HR0 := Aside0.mk hr0
  have HC0 := Aside0.mk hc0
  clear hr0 hc0
  have H : (some ((l0.length : Int) == 0)) = some r := h
  clear h
  obtain rfl := Option.some.inj H
  go_enter Try.func59, Try.ntmps59
  go_wp2
  go_ret
  exact ⟨by first | rfl | (simp; done) | (simp [*]; done), by repeat (first | exact Drawn0.refl _ | apply Drawn0.step)⟩

-- NOT PRINTED: function 36 (walk_each)

-- NOT PRINTED: function 15 (walk_Next)

end Go.Proofs.Ytklidannncajiaa.OW

namespace Go.Proofs.Ytklidannncajiaa.OW
open Go.RowKit Go.Proofs.YtklidannncajiaaW.PrintWords Go.Proofs.YtklidannncajiaaW.PrintLast Go.Proofs.YtklidannncajiaaW.PrintMore

theorem enc_le (i : Int) : (Utf8.encode i).size ≤ 4 := by
  unfold Utf8.encode
  dsimp only
  repeat' split
  all_goals (show _ ≤ 4; simp [ByteArray.size])
/-- The edges of a place from the i-th on downwards: what they lead to is laid onto the stack (its top is last). -/
def walk_each.kids (k : Nat) (q : List Int) (d : Int) (st : List S121) (wd : ByteArray) (es : List S91) : Nat → List S96 → Option (List S96)
  | 0, xs => some xs
  | i + 1, xs => (auto_Step.f k q d st (rd_T91 es i).f0).bind fun s => if s.length = 0 then walk_each.kids k q d st wd es i xs else if xs.length < 1000000 ∧ wd.size < 1000000 then walk_each.kids k q d st wd es i (xs ++ [⟨(rd_T91 es i).f1, s, wd ++ Utf8.encode (rd_T91 es i).f0⟩]) else none
def walk_each.l0 {α : Type} (k : Nat) (q : List Int) (d : Int) (ns : List S72) (step : α → ByteArray → Option (α × Bool)) : Nat → List S96 → α → Option α
  | 0, _, _ => none
  | kq + 1, xs, a => if xs.length = 0 then some a else
    let p := rd_T96 xs (xs.length - 1)
    (auto_Dist.f k q d p.f1).bind fun t => (if t.2 = true ∧ t.1 = d ∧ (nodeAt ns p.f0).f0 = true then step a p.f2 else some (a, true)).bind fun y =>
      if y.2 = true then (graph_Edges.f ns p.f0).bind fun es => (walk_each.kids k q d p.f1 p.f2 es es.length (xs.take (xs.length - 1))).bind fun xs' => walk_each.l0 k q d ns step kq xs' y.1 else some y.1
def walk_each.f {α : Type} (k : Nat) (q : List Int) (d : Int) (ns : List S72) (step : α → ByteArray → Option (α × Bool)) (a : α) : Option α :=
  (auto_Start.f q d).bind fun s => walk_each.l0 k q d ns step k [⟨0, s, ⟨#[]⟩⟩] a
/-- What walk.each may write: what the closure may, and places of its own. -/
def EachMay (Pc : Nat → Nat → Prop) (B : Nat) (k t : Nat) : Prop := Pc k t ∨ (B ≤ k ∧ t = 96)
theorem KeptBy.to_own {Pc : Nat → Nat → Prop} {w w' : World} (h : KeptBy (EachMay Pc w.heap.size) w w') : KeptBy Pc w w' :=
  ⟨h.os, h.tape, h.output, h.size, fun k hk ht => h.block k hk (fun t h1 h2 => by
    rcases h2 with h2 | h2
    · exact ht t h1 h2
    · omega)⟩
/-- What holds while a place is gone through: its box (block bx), its state's row, the stack. -/
structure EachAt (Pc : Nat → Nat → Prop) (w0 : World) (bx : Nat) (pn : Int) (Ap : Option Addr) (cp : Nat) (ps : List S121) (pw : ByteArray) (v : Value) (xs : List S96) (W : World) : Prop where
  kept : KeptBy (EachMay Pc w0.heap.size) w0 W
  box : W.heap[bx]? = some (.cells #[.int .i64 pn, .slice Ap ps.length cp, .string pw] 96 (0, 0))
  state : k121.R 121 W w0.heap.size (fun _ => True) (.slice Ap ps.length cp) ps
  stack : k96.R 96 W w0.heap.size (fun k => k ≠ bx) v xs
namespace EachAt
variable {Pc : Nat → Nat → Prop} {w0 : World} {bx : Nat} {pn : Int} {Ap : Option Addr} {cp : Nat} {ps : List S121} {pw : ByteArray} {v : Value} {xs : List S96} {W W' : World}
theorem below (h : EachAt Pc w0 bx pn Ap cp ps pw v xs W) (hb : Below W.heap.size W W') : EachAt Pc w0 bx pn Ap cp ps pw v xs W' :=
  ⟨h.kept.trans (KeptBy.of_below hb), blk_below h.box hb, Kd.R_below h.state hb, Kd.R_below h.stack hb⟩
theorem closure (h : EachAt Pc w0 bx pn Ap cp ps pw v xs W) (hp : ∀ k t, Pc k t → t ≠ 96 ∧ t ≠ 121) (hk : KeptBy Pc W W') : EachAt Pc w0 bx pn Ap cp ps pw v xs W' :=
  ⟨h.kept.trans (hk.mono fun _ _ hp => .inl hp), (hk.typed ⟨_, h.box⟩ (fun hc => (hp _ _ hc).1 rfl)).trans h.box,
   hk.row h.state (fun k t ht _ hc => (hp k t hc).2 (by simpa [k121, Kd.iso, Kd.pair, Kd.int, Kd.scalar] using ht)),
   hk.row h.stack (fun k t ht _ hc => by
     have h1 := hp k t hc
     have : t = 96 ∨ t = 121 := by simpa [k96, k121, Kd.iso, Kd.pair, Kd.int, Kd.scalar, Kd.slice, Kd.string] using ht
     omega)⟩
theorem grown (h : EachAt Pc w0 bx pn Ap cp ps pw v xs W) {v1 : Value} {ys : List S96} (hg : W.grownBy W' v.ownBlock) (ho : k96.R 96 W' w0.heap.size (fun k => k ≠ bx) v1 ys) : EachAt Pc w0 bx pn Ap cp ps pw v1 ys W' := by
  obtain ⟨inner, hown⟩ := Kd.R_own h.stack
  refine ⟨h.kept.trans (KeptBy.of_grown hg (fun k hk => ⟨96, own_typed hown k hk, .inr ⟨own_base hown k hk, rfl⟩⟩)), blk_grown h.box hg (fun e => h.stack.1 bx e.symm rfl), ?_, ho⟩
  exact Kd.R_mono (Kd.R_over (d' := k96) h.state h.stack (by simp [k121, Kd.iso, Kd.pair, Kd.int, Kd.scalar]) hg) (fun _ hk => hk)
theorem cells (h : EachAt Pc w0 bx pn Ap cp ps pw v xs W) : W.cell? ⟨bx, 0, none⟩ = some (.int .i64 pn) ∧ W.cell? ⟨bx, 1, none⟩ = some (.slice Ap ps.length cp) ∧ W.cell? ⟨bx, 2, none⟩ = some (.string pw) :=
  ⟨blk_cell h.box 0, blk_cell h.box 1, blk_cell h.box 2⟩
theorem reads (h : EachAt Pc w0 bx pn Ap cp ps pw v xs W) : k121.C W Ap ps.length ps ∧ ps.length ≤ cp := ⟨(Kd.R_reads' h.state).2.2, (Kd.R_reads' h.state).2.1⟩
end EachAt
/-- What is left of a round behind the word. -/
def walk_each.next {α : Type} (k : Nat) (q : List Int) (d : Int) (ns : List S72) (step : α → ByteArray → Option (α × Bool)) (kq : Nat) (pn : Int) (ps : List S121) (pw : ByteArray) (xs : List S96) (y : α × Bool) : Option α :=
  if y.2 = true then (graph_Edges.f ns pn).bind fun es => (walk_each.kids k q d ps pw es es.length xs).bind fun xs' => walk_each.l0 k q d ns step kq xs' y.1 else some y.1
set_option maxHeartbeats 2000000 in
set_option maxRecDepth 100000 in
theorem walk_each.calls {α : Type} (k : Nat) (g : Nat) (ns : List S72) (gf : FuncId) (cap : Array Value) (Pc : Nat → Nat → Prop) (Inv : α → World → Prop) (step : α → ByteArray → Option (α × Bool)) (HY : YieldsBy gf cap Pc Inv step) (A0 : Option Addr) (c0 : Nat) (q : List Int) (d : Int) (a r : α) (w : World)
    (hG : ∀ W, KeptBy (EachMay Pc w.heap.size) w W → GraphAt W g ns ∧ Kd.C (Kd.int .i32) W A0 q.length q) (hc0 : q.length ≤ c0) (hI : Inv a w) (h : walk_each.f k q d ns step a = some r) :
    Calls Try.prog 36 #[.pointer (some ⟨g, 0, none⟩), .slice A0 q.length c0, .int .i64 d, .func (.func gf) #[] cap] w fun e w' => e = .returned (.tuple #[]) ∧ Inv r w' ∧ KeptBy Pc w w' := by
  have HG := Aside0.mk hG
  have HC0 := Aside0.mk hc0
  have HI := Aside0.mk hI
  clear hG hc0 hI
  obtain ⟨s0, hs0, h⟩ := Option.bind_eq_some_iff.1 h
  have AS := Aside0.mk hs0
  have H' := Aside0.mk h
  clear hs0 h
  have HQ := Aside0.mk ((HG.out w (KeptBy.refl _ w)).2)
  have HB := Aside0.mk (Below.refl w.heap.size w)
  go_enter Try.func36, Try.ntmps36
  go_wp2_with (first | ((with_reducible refine gate_callee (f := 54) rfl ?_); (try (refine gate_guard (by rfl) ?_; dsimp only)); refine goesL_ (some 18) rfl rfl Try.func54 (by kernel_rfl) rfl #[.slice A0 q.length c0, .int .i64 d] rfl (by (try simp only [List.map_toArray, List.map_cons, List.map_nil]); first | done | rfl) ?_; (with_reducible refine (auto_Start.calls A0 c0 q d s0 _ HQ.out HC0.out AS.out).mono ?_); rintro e w1 ⟨v, rfl, ho, hb⟩; refine ⟨_, rfl, ?_⟩; obtain ⟨As, cs, es⟩ := Kd.R_slice ho; subst es; have HO1 := Aside0.mk ho; have HB1 := Aside0.mk hb; clear ho hb) | ((with_reducible refine gate_dst (N := 20) rfl ?_); refine Kd.R_lit (w0 := w) k96 w.heap.size 96 ?hg (N := 20) ?hd (xs := ([⟨0, s0, ⟨#[]⟩⟩] : List S96)) (inner := [.int .i64 0, .slice As s0.length cs, .string ⟨#[]⟩]) (ok := fun _ => True) (okp := fun _ => True) ?hr ?hp (fun _ hk => hk) trivial HB1.out HB1.out.size (by simp) ?_; (case hd => rfl); (case hg => rfl); (case hr => first | (go_simp; done) | (go_simp; rfl)); (case hp => exact (Reps.c3 (show Kd.M k96 _ _ _ (⟨0, s0, ⟨#[]⟩⟩ : S96) [.int .i64 0, .slice As s0.length cs, .string ⟨#[]⟩] from (k96_mkM _ _ _ (⟨0, s0, ⟨#[]⟩⟩ : S96) HO1.out)) (Reps.none _ _))); intro v2 w2 ho2 hb2 hg2 _; have HO2 := Aside0.mk ho2; have HB2 := Aside0.mk hb2; clear ho2 hb2 hg2))
  have HI2 := Aside0.mk (HY.keep a w w2 HI.out (KeptBy.of_below HB2.out))
  have HK2 := Aside0.mk (KeptBy.of_below (P := EachMay Pc w.heap.size) HB2.out)
  clear HI HB HB1 HB2 HO1
  go_loopg [8] k (fun kq v8 W => ∃ (xs : List S96) (b : α), Aside0 (walk_each.l0 k q d ns step kq xs b = some r) ∧ Aside0 (Kd.R k96 96 W w.heap.size (fun _ => True) v8 xs) ∧ Aside0 (Inv b W) ∧ Aside0 (KeptBy (EachMay Pc w.heap.size) w W))
  case atStart => exact ⟨_, a, H', HO2, HI2, HK2⟩
  case round =>
    clear H' HO2 HI2 HK2
    obtain ⟨xs, b, HA, HO, HI, HK⟩ := hrel
    cases gk with
    | zero => exact absurd HA.out (by simp [walk_each.l0])
    | succ ko =>
      have H := HA.out
      clear HA
      simp only [walk_each.l0] at H
      by_cases c0x : xs.length = 0
      · rw [if_pos c0x] at H
        obtain rfl := Option.some.inj H
        obtain rfl := List.eq_nil_of_length_eq_zero c0x
        clear H
        obtain ⟨Ax, cx, ex⟩ := Kd.R_slice HO.out
        subst ex
        go_wp2
        first | go_end0 | ((try simp only [Exit.inBlock, Exit.then]); refine bodyPost_ret (results_none rfl _ _ _) rfl ?_)
        exact ⟨rfl, HI.out, HK.out.to_own⟩
      · rw [if_neg c0x] at H
        obtain ⟨n, hn⟩ : ∃ n, xs.length = n + 1 := ⟨xs.length - 1, by omega⟩
        obtain ⟨go, co, eo, gb, gl, cl, HGo⟩ := Kd.R_form HO.out (by omega)
        rw [hn] at eo
        subst eo
        have hmax : n + 1 ≤ 9223372036854775807 := by
          have h2 := (Kd.R_reads' HO.out).2.2.2.1
          omega
        clear c0x
        have HN := Aside0.mk hn
        have GB := Aside0.mk gb
        clear gb gl
        obtain ⟨ce, hcl, hM, hcc, hfr⟩ := Kd.R_elem HO.out z96 (n : Int) (by omega) (by omega)
        rw [Int.toNat_natCast] at hM hcc hfr
        rw [hn, Nat.add_sub_cancel, show (((n + 1 : Nat) : Int) - 1) = (n : Int) by omega] at H
        clear hn
        have hrd : xs.getD n z96 = rd_T96 xs n := by unfold rd_T96; rw [Int.toNat_natCast]
        rw [hrd] at hM
        clear hrd
        have HX := Aside0.mk (Kd.R_take (m := n) HO.out (by have := HN.out; omega))
        generalize rd_T96 xs n = p at H hM
        obtain ⟨pn, ps, pw⟩ := p
        dsimp only at H
        obtain ⟨vs, rfl, hs⟩ := k96_openM hM
        obtain ⟨Ap, cp, ep⟩ := Kd.R_slice hs
        subst ep
        have HS := Aside0.mk hs
        clear hM hs hcl
        have hx0 : wr.cell? ⟨go, n * 3, none⟩ = some (.int .i64 pn) := hcc 0 _ rfl
        have hx1 : wr.cell? ⟨go, n * 3 + 1, none⟩ = some (.slice Ap ps.length cp) := hcc 1 _ rfl
        have hx2 : wr.cell? ⟨go, n * 3 + 2, none⟩ = some (.string pw) := hcc 2 _ rfl
        clear hcc hfr
        have HP := Aside0.mk H
        clear H
        have hcap : n + 1 ≤ co := (Kd.R_reads' HO.out).2.1
        go_upto_region 4 with fail
        have hbx := heap_alloc_new wr (.cells #[.int .i64 pn, .slice Ap ps.length cp, .string pw] 96)
        have hlt : ∀ kk, some kk = (Value.slice (some ⟨go, 0, none⟩) n co).ownBlock → kk ≠ wr.heap.size := by
          intro kk hk
          have := blk_lt HGo
          have : kk = go := by simpa [Value.ownBlock] using hk
          omega
        have EA := Aside0.mk (show EachAt Pc w wr.heap.size pn Ap cp ps pw (.slice (some ⟨go, 0, none⟩) n co) (xs.take n) (wr.alloc (.cells #[.int .i64 pn, .slice Ap ps.length cp, .string pw] 96)) from
          ⟨HK.out.trans (KeptBy.of_below ((Below.refl _ _).alloc (Nat.le_refl _) _)), hbx, Kd.R_mono (Kd.R_alloc HS.out _) (fun _ _ => trivial), Kd.R_mono (Kd.R_alloc (Kd.R_bound HX.out) _) (fun kk hk => by have := hk.2.2.1; omega)⟩)
        have HI2 := Aside0.mk (HY.keep b wr (wr.alloc (.cells #[.int .i64 pn, .slice Ap ps.length cp, .string pw] 96)) HI.out (KeptBy.of_below ((Below.refl _ _).alloc (Nat.le_refl _) _)))
        clear hbx hlt hcap hmax hx0 hx1 hx2 HGo HS HX HO HI HK HN GB
        generalize wr.alloc (.cells #[.int .i64 pn, .slice Ap ps.length cp, .string pw] 96) = W3 at EA HI2 ⊢
        generalize wr.heap.size = bx at EA ⊢
        obtain ⟨⟨far, near⟩, hD, hN⟩ := Option.bind_eq_some_iff.1 HP.out
        have AD := Aside0.mk hD
        obtain ⟨y, hY1, hY2⟩ := Option.bind_eq_some_iff.1 hN
        have AY := Aside0.mk hY1
        have AN := Aside0.mk (show walk_each.next k q d ns step ko pn ps pw (xs.take n) y = some r from hY2)
        clear hD hN hY1 hY2 HP
        obtain ⟨hb0, hb1, hb2⟩ := EA.out.cells
        go_upto_region 5 with ((with_reducible refine gate_callee (f := 55) rfl ?_); (try (refine gate_guard (by rfl) ?_; dsimp only)); refine goesL_ (some 40) rfl rfl Try.func55 (by kernel_rfl) rfl #[.slice A0 q.length c0, .int .i64 d, .slice Ap ps.length cp] rfl (by (try simp only [List.map_toArray, List.map_cons, List.map_nil]); first | done | rfl) ?_; (with_reducible refine (auto_Dist.calls k A0 c0 q d Ap cp ps far near _ (HG.out _ EA.out.kept).2 HC0.out EA.out.reads.1 EA.out.reads.2 AD.out).mono ?_); rintro e w4 ⟨rfl, hb⟩; refine ⟨_, rfl, ?_⟩; have EA4 := Aside0.mk (EA.out.below hb); have HI4 := Aside0.mk (HY.keep b W3 w4 HI2.out (KeptBy.of_below hb)); clear hb hb0 hb1 hb2 EA HI2)
        clear AD
        go_cut [61] (fun v61 W => v61 = .bool (!y.2) ∧ Aside0 (EachAt Pc w bx pn Ap cp ps pw (.slice (some ⟨go, 0, none⟩) n co) (xs.take n) W) ∧ Aside0 (Inv y.1 W))
        case first =>
          obtain ⟨fn, hf1, hf2, hf3⟩ := HY.fn
          have HF1 := Aside0.mk hf1
          clear hf1
          cases near with
          | false =>
            obtain rfl : (b, true) = y := Option.some.inj ((if_neg (by simp)).symm.trans AY.out)
            go_wp2_with fail
            go_meet
            exact ⟨rfl, EA4, HI4⟩
          | true =>
            by_cases hfd : far = d
            · have hfb : (far == d) = true := by simpa using hfd
              have HFD := Aside0.mk hfd
              clear hfd
              have hb0 := EA4.out.cells.1
              cases hfin : (nodeAt ns pn).f0 with
              | false =>
                have HFI := Aside0.mk hfin
                clear hfin
                obtain rfl : (b, true) = y := Option.some.inj ((if_neg (by rw [HFI.out]; simp)).symm.trans AY.out)
                go_wp2_with ((with_reducible refine gate_callee (f := 56) rfl ?_); (try (refine gate_guard (by rfl) ?_; dsimp only)); refine goesL_ (some 53) rfl rfl Try.func56 (by kernel_rfl) rfl #[.pointer (some ⟨g, 0, none⟩), .int .i64 pn] rfl (by (try simp only [List.map_toArray, List.map_cons, List.map_nil]); first | done | rfl) ?_; (with_reducible refine (graph_Final.calls g ns pn _ (HG.out _ EA4.out.kept).1).mono ?_); rintro e w5 ⟨rfl, hb⟩; refine ⟨_, rfl, ?_⟩; rw [HFI.out]; have EA5 := Aside0.mk (EA4.out.below hb); have HI5 := Aside0.mk (HY.keep b w4 w5 HI4.out (KeptBy.of_below hb)); clear hb hb0 EA4 HI4)
                go_meet
                exact ⟨rfl, EA5, HI5⟩
              | true =>
                have HFI := Aside0.mk hfin
                clear hfin
                have AY2 := Aside0.mk ((if_pos (show true = true ∧ far = d ∧ (nodeAt ns pn).f0 = true from ⟨rfl, HFD.out, HFI.out⟩)).symm.trans AY.out)
                obtain ⟨ya, yg⟩ := y
                go_wp2_with (first | ((with_reducible refine gate_callee (f := 56) rfl ?_); (try (refine gate_guard (by rfl) ?_; dsimp only)); refine goesL_ (some 53) rfl rfl Try.func56 (by kernel_rfl) rfl #[.pointer (some ⟨g, 0, none⟩), .int .i64 pn] rfl (by (try simp only [List.map_toArray, List.map_cons, List.map_nil]); first | done | rfl) ?_; (with_reducible refine (graph_Final.calls g ns pn _ (HG.out _ EA4.out.kept).1).mono ?_); rintro e w5 ⟨rfl, hb⟩; refine ⟨_, rfl, ?_⟩; rw [HFI.out]; have EA5 := Aside0.mk (EA4.out.below hb); have HI5 := Aside0.mk (HY.keep b w4 w5 HI4.out (KeptBy.of_below hb)); clear hb hb0 EA4 HI4; have hb2 := EA5.out.cells.2.2) | ((with_reducible refine gate_value (t := 56) rfl ?_); (try (refine gate_guard (by rfl) ?_; dsimp only)); refine goesV_ (some 59) rfl rfl HF1.out hf2 hf3 (#[.string pw] ++ cap) rfl rfl (by (try simp only [List.map_toArray, List.map_cons, List.map_nil]); first | done | rfl) ?_; (with_reducible refine (HY.call b pw ya yg _ AY2.out HI5.out).mono ?_); rintro e w6 ⟨rfl, hi, hk⟩; refine ⟨_, rfl, ?_⟩; have EA6 := Aside0.mk (EA5.out.closure HY.pc hk); have HI6 := Aside0.mk hi; clear hi hk hb2 EA5 HI5))
                go_meet
                exact ⟨rfl, EA6, HI6⟩
            · have hfb : (far == d) = false := by simpa using hfd
              obtain rfl : (b, true) = y := Option.some.inj ((if_neg (by simp [hfd])).symm.trans AY.out)
              clear hfd
              go_wp2_with fail
              go_meet
              exact ⟨rfl, EA4, HI4⟩
        case rest =>
          obtain ⟨rfl, EA, HI⟩ := hcut
          obtain ⟨ya, yg⟩ := y
          clear AY EA4 HI4
          cases yg with
          | false =>
            obtain rfl : ya = r := Option.some.inj ((if_neg (by simp)).symm.trans AN.out)
            go_wp2_with fail
            first | go_end0 | ((try simp only [Exit.inBlock, Exit.then]); refine bodyPost_ret (results_none rfl _ _ _) rfl ?_)
            exact ⟨rfl, HI.out, EA.out.kept.to_own⟩
          | true =>
            have hn := AN.out
            unfold walk_each.next at hn
            rw [if_pos rfl] at hn
            obtain ⟨es, he, hn⟩ := Option.bind_eq_some_iff.1 hn
            obtain ⟨xe, hk, hn⟩ := Option.bind_eq_some_iff.1 hn
            have AE := Aside0.mk he
            have AK := Aside0.mk hk
            have AN := Aside0.mk (show walk_each.l0 k q d ns step ko xe ya = some r from hn)
            clear he hk hn
            dsimp only at HI
            have hb0 := EA.out.cells.1
            go_upto_block 2 with ((with_reducible refine gate_callee (f := 57) rfl ?_); (try (refine gate_guard (by rfl) ?_; dsimp only)); refine goesL_ (some 65) rfl rfl Try.func57 (by kernel_rfl) rfl #[.pointer (some ⟨g, 0, none⟩), .int .i64 pn] rfl (by (try simp only [List.map_toArray, List.map_cons, List.map_nil]); first | done | rfl) ?_; (with_reducible refine (graph_Edges.calls g ns pn es _ (HG.out _ EA.out.kept).1 AE.out).mono ?_); rintro e w7 ⟨v7, rfl, ho, hb⟩; refine ⟨_, rfl, ?_⟩; obtain ⟨Ae, ce, ee⟩ := Kd.R_slice ho; subst ee; have hme : es.length ≤ 9223372036854775807 := (Kd.R_reads' ho).2.2.2.1; have EA7 := Aside0.mk (EA.out.below hb); have HI7 := Aside0.mk (HY.keep ya wc w7 HI.out (KeptBy.of_below hb)); have HE7 := Aside0.mk (Kd.R_lower (base' := 0) ho (Nat.zero_le _)); clear hb hb0 ho EA HI)
            go_wp2_with fail
            go_loopg [8, 13] es.length (fun kq v8 v13 W => ∃ (xs1 : List S96) (jv : Int), v13 = .int .i64 jv ∧ Aside0 (jv = (kq : Int) - 1) ∧ Aside0 (kq ≤ es.length) ∧ Aside0 (EachAt Pc w bx pn Ap cp ps pw v8 xs1 W) ∧ Aside0 (walk_each.kids k q d ps pw es kq xs1 = some xe) ∧ Aside0 (Inv ya W) ∧ Aside0 (Kd.R k91 91 W 0 (fun _ => True) (.slice Ae es.length ce) es))
            case atStart => exact ⟨_, _, rfl, ⟨rfl⟩, ⟨Nat.le_refl _⟩, EA7, AK, HI7, HE7⟩
            case round =>
              clear EA7 HI7 HE7 AK
              obtain ⟨xs1, jv, rfl, HJ, HKQ, EA, AK, HI, HE⟩ := hrel
              cases gk with
              | zero =>
                obtain rfl : xs1 = xe := Option.some.inj AK.out
                have hj := HJ.out
                obtain rfl : jv = -1 := by omega
                clear hj
                go_wp2_with fail
                go_roundg ko
                case measure => omega
                case rel => exact ⟨xs1, ya, AN, ⟨Kd.R_mono EA.out.stack (fun _ _ => trivial)⟩, HI, ⟨EA.out.kept⟩⟩
              | succ i =>
                have hj := HJ.out
                obtain rfl : jv = (i : Int) := by omega
                clear hj
                have hi : i < es.length := HKQ.out
                obtain ⟨ge, cge, eo, _, _, cle, HGe⟩ := Kd.R_form HE.out (by omega)
                injection eo with ea en ec
                subst ea
                subst ec
                clear en
                obtain ⟨cel, hcl, hM, hcc, hfr⟩ := Kd.R_elem HE.out z91 (i : Int) (by omega) (by omega)
                rw [Int.toNat_natCast] at hM hcc hfr
                have hrd : es.getD i z91 = rd_T91 es (i : Int) := by unfold rd_T91; rw [Int.toNat_natCast]
                rw [hrd] at hM
                have hK := AK.out
                unfold walk_each.kids at hK
                generalize rd_T91 es (i : Int) = x at hM hK
                obtain ⟨xr, xt⟩ := x
                obtain rfl := k91_openM hM
                have he0 : wr.cell? ⟨ge, i * 2, none⟩ = some (.int .i32 xr) := hcc 0 _ rfl
                have he1 : wr.cell? ⟨ge, i * 2 + 1, none⟩ = some (.int .i64 xt) := hcc 1 _ rfl
                clear hcc hfr hM hcl hrd HGe
                obtain ⟨s, hS, hK⟩ := Option.bind_eq_some_iff.1 hK
                have AS1 := Aside0.mk hS
                have AK1 := Aside0.mk hK
                clear hS hK AK
                dsimp only at AS1 AK1
                have hib : decide ((i : Int) < 0) = false := decide_eq_false (by omega)
                have hib2 : decide (0 ≤ (i : Int)) = true := decide_eq_true (by omega)
                go_upto_region 11 with fail
                have hbe := heap_alloc_new wr (.cells #[.int .i32 xr, .int .i64 xt] 91)
                have hbW := (Below.refl wr.heap.size wr).alloc (Nat.le_refl _) (.cells #[.int .i32 xr, .int .i64 xt] 91)
                have EA4 := Aside0.mk (EA.out.below hbW)
                have HI4 := Aside0.mk (HY.keep ya wr _ HI.out (KeptBy.of_below hbW))
                have HE4 := Aside0.mk (Kd.R_below HE.out hbW)
                have BE4 := Aside0.mk hbe
                have HU := Aside0.mk (show w.heap.size ≤ wr.heap.size ∧ bx < wr.heap.size ∧ ∀ kk, u8.ownBlock = some kk → kk < wr.heap.size from ⟨EA.out.kept.size, blk_lt EA.out.box, fun kk hk => by obtain ⟨inner, ho⟩ := Kd.R_own EA.out.stack; exact own_lt ho kk hk⟩)
                have HW4 := Aside0.mk (hbW.size)
                clear hbe hbW he0 he1 EA HI HE hib hib2
                generalize wr.alloc (.cells #[.int .i32 xr, .int .i64 xt] 91) = W4 at EA4 HI4 HE4 BE4 HW4 ⊢
                generalize wr.heap.size = be at BE4 HU HW4 ⊢
                have hb1 := EA4.out.cells.2.1
                have hc0 : W4.cell? ⟨be, 0, none⟩ = some (.int .i32 xr) := blk_cell BE4.out 0
                by_cases hs0 : s.length = 0
                · have AK2 := Aside0.mk ((if_pos hs0).symm.trans AK1.out)
                  have AD0 := Aside0.mk (show auto_Dead.f s = some true by unfold auto_Dead.f; rw [hs0]; rfl)
                  clear hs0
                  go_wp2_with (first | ((with_reducible refine gate_callee (f := 58) rfl ?_); (try (refine gate_guard (by rfl) ?_; dsimp only)); refine goesL_ (some 83) rfl rfl Try.func58 (by kernel_rfl) rfl #[.slice A0 q.length c0, .int .i64 d, .slice Ap ps.length cp, .int .i32 xr] rfl (by (try simp only [List.map_toArray, List.map_cons, List.map_nil]); first | done | rfl) ?_; (with_reducible refine (auto_Step.calls k A0 c0 q d Ap cp ps xr s _ (HG.out _ EA4.out.kept).2 HC0.out EA4.out.reads.1 EA4.out.reads.2 AS1.out).mono ?_); rintro e w5 ⟨v5, rfl, ho, hb⟩; refine ⟨_, rfl, ?_⟩; obtain ⟨A5, c5, e5⟩ := Kd.R_slice ho; subst e5; have EA5 := Aside0.mk (EA4.out.below hb); have HI5 := Aside0.mk (HY.keep ya W4 w5 HI4.out (KeptBy.of_below hb)); have HE5 := Aside0.mk (Kd.R_below HE4.out hb); have BE5 := Aside0.mk (blk_below BE4.out hb); have HS5 := Aside0.mk ho; have HZ5 := Aside0.mk hb.size; clear ho hb hb1 hc0 EA4 HI4 HE4 BE4) | ((with_reducible refine gate_callee (f := 59) rfl ?_); (try (refine gate_guard (by rfl) ?_; dsimp only)); refine goesL_ (some 85) rfl rfl Try.func59 (by kernel_rfl) rfl #[.slice A5 s.length c5] rfl (by (try simp only [List.map_toArray, List.map_cons, List.map_nil]); first | done | rfl) ?_; (with_reducible refine (auto_Dead.calls A5 c5 s true _ (Kd.R_reads' HS5.out).2.2 (Kd.R_reads' HS5.out).2.1 AD0.out).mono ?_); rintro e w6 ⟨rfl, hd⟩; refine ⟨_, rfl, ?_⟩; have hb := hd.below; have EA6 := Aside0.mk (EA5.out.below hb); have HI6 := Aside0.mk (HY.keep ya w5 w6 HI5.out (KeptBy.of_below hb)); have HE6 := Aside0.mk (Kd.R_below HE5.out hb); have BE6 := Aside0.mk (blk_below BE5.out hb); have HS6 := Aside0.mk (Kd.R_below HS5.out hb); have HZ6 := Aside0.mk (Nat.le_trans HZ5.out hb.size); clear hd hb EA5 HI5 HE5 BE5 HS5))
                  go_roundg i
                  case measure => omega
                  case rel => exact ⟨xs1, (i : Int) - 1, by go_num, ⟨rfl⟩, ⟨by omega⟩, EA6, AK2, HI6, HE6⟩
                · have AK2 := Aside0.mk ((if_neg hs0).symm.trans AK1.out)
                  have AD0 := Aside0.mk (show auto_Dead.f s = some false by unfold auto_Dead.f; congr 1; simpa using hs0)
                  clear hs0
                  go_upto_region 13 with (first | ((with_reducible refine gate_callee (f := 58) rfl ?_); (try (refine gate_guard (by rfl) ?_; dsimp only)); refine goesL_ (some 83) rfl rfl Try.func58 (by kernel_rfl) rfl #[.slice A0 q.length c0, .int .i64 d, .slice Ap ps.length cp, .int .i32 xr] rfl (by (try simp only [List.map_toArray, List.map_cons, List.map_nil]); first | done | rfl) ?_; (with_reducible refine (auto_Step.calls k A0 c0 q d Ap cp ps xr s _ (HG.out _ EA4.out.kept).2 HC0.out EA4.out.reads.1 EA4.out.reads.2 AS1.out).mono ?_); rintro e w5 ⟨v5, rfl, ho, hb⟩; refine ⟨_, rfl, ?_⟩; obtain ⟨A5, c5, e5⟩ := Kd.R_slice ho; subst e5; have EA5 := Aside0.mk (EA4.out.below hb); have HI5 := Aside0.mk (HY.keep ya W4 w5 HI4.out (KeptBy.of_below hb)); have HE5 := Aside0.mk (Kd.R_below HE4.out hb); have BE5 := Aside0.mk (blk_below BE4.out hb); have HS5 := Aside0.mk ho; have HZ5 := Aside0.mk hb.size; clear ho hb hb1 hc0 EA4 HI4 HE4 BE4) | ((with_reducible refine gate_callee (f := 59) rfl ?_); (try (refine gate_guard (by rfl) ?_; dsimp only)); refine goesL_ (some 85) rfl rfl Try.func59 (by kernel_rfl) rfl #[.slice A5 s.length c5] rfl (by (try simp only [List.map_toArray, List.map_cons, List.map_nil]); first | done | rfl) ?_; (with_reducible refine (auto_Dead.calls A5 c5 s false _ (Kd.R_reads' HS5.out).2.2 (Kd.R_reads' HS5.out).2.1 AD0.out).mono ?_); rintro e w6 ⟨rfl, hd⟩; refine ⟨_, rfl, ?_⟩; have hb := hd.below; have EA6 := Aside0.mk (EA5.out.below hb); have HI6 := Aside0.mk (HY.keep ya w5 w6 HI5.out (KeptBy.of_below hb)); have HE6 := Aside0.mk (Kd.R_below HE5.out hb); have BE6 := Aside0.mk (blk_below BE5.out hb); have HS6 := Aside0.mk (Kd.R_below HS5.out hb); have HZ6 := Aside0.mk (Nat.le_trans HZ5.out hb.size); clear hd hb EA5 HI5 HE5 BE5 HS5))
                  by_cases hlen : xs1.length < 1000000 ∧ pw.size < 1000000
                  case neg => exact absurd ((if_neg hlen).symm.trans AK2.out) (by simp)
                  have AK3 := Aside0.mk ((if_pos hlen).symm.trans AK2.out)
                  have hsz : ¬ 9223372036854775807 < pw.size + (Utf8.encode xr).size := by have := enc_le xr; omega
                  have HL := Aside0.mk hlen.1
                  clear hlen
                  have hb2 := EA6.out.cells.2.2
                  have hc0 : w6.cell? ⟨be, 0, none⟩ = some (.int .i32 xr) := blk_cell BE6.out 0
                  have hc1 : w6.cell? ⟨be, 1, none⟩ = some (.int .i64 xt) := blk_cell BE6.out 1
                  have hsx : k121.R 121 w6 w.heap.size (fun kk => kk ≠ bx ∧ some kk ≠ u8.ownBlock) (.slice A5 s.length c5) s :=
                    Kd.R_lower (Kd.R_mono (Kd.R_bound HS6.out) (fun kk hk => ⟨by have := HU.out.2.1; have := HW4.out; have := hk.2.1; omega, fun e => by have := HU.out.2.2 kk e.symm; have := HW4.out; have := hk.2.1; omega⟩)) (Nat.le_trans HU.out.1 HW4.out)
                  have HSX := Aside0.mk hsx
                  clear hsx
                  go_wp2_with ((with_reducible refine gate_builtin (b := .append) (xs := #[.tmp 87, .tmp 98]) rfl ?_); at_builtin; refine Kd.R_append k96 (w0 := w6) w.heap.size rfl (.tmp 87) (.tmp 98) 97 96 (.agg #[(.int .i64 0), (.slice none 0 0), (.string ⟨#[]⟩)]) 48 rfl Try.underlying97 info96 rfl (by decide) (by omega) u8 xs1 (⟨xt, s, pw ++ Utf8.encode xr⟩ : S96) [.int .i64 xt, .slice A5 s.length c5, .string (pw ++ Utf8.encode xr)] (fun kk => kk ≠ bx) (fun kk => kk ≠ bx ∧ some kk ≠ u8.ownBlock) rfl rfl ?aP (fun _ hk => hk) ?aF ?aO ?aB ?aS ?aL ?_; (case aP => exact k96_mkM _ _ _ (⟨xt, s, pw ++ Utf8.encode xr⟩ : S96) HSX.out); (case aF => exact (fun kk hk => by have := blk_lt EA6.out.box; omega)); (case aO => exact EA6.out.stack); (case aB => exact Below.refl _ _); (case aS => exact EA6.out.kept.size); (case aL => have := HL.out; omega); intro v9 w9 ho hb hg hat; have HO9 := Aside0.mk ho; have HG9 := Aside0.mk hg; clear ho hb hg hat)
                  go_roundg i
                  case measure => omega
                  case rel => exact ⟨xs1 ++ [(⟨xt, s, pw ++ Utf8.encode xr⟩ : S96)], (i : Int) - 1, by go_num, ⟨rfl⟩, ⟨by omega⟩, ⟨EA6.out.grown HG9.out HO9.out⟩, AK3, ⟨HY.keep ya _ _ HI6.out (KeptBy.of_grown HG9.out (fun kk hk => by obtain ⟨inner, ho⟩ := Kd.R_own EA6.out.stack; exact ⟨96, own_typed ho kk hk, rfl⟩))⟩, ⟨Kd.R_over (d' := k96) HE6.out EA6.out.stack (by simp [k91, Kd.iso, Kd.pair, Kd.int, Kd.scalar]) HG9.out⟩⟩
end Go.Proofs.Ytklidannncajiaa.OW

namespace Go.Proofs.Ytklidannncajiaa.OW
open Go.RowKit Go.Proofs.YtklidannncajiaaW.PrintWords Go.Proofs.YtklidannncajiaaW.PrintLast Go.Proofs.YtklidannncajiaaW.PrintMore

/-- What walk.asked tells where there is a graph. -/
def walk_asked.f (s : ByteArray) (k : Int) : Option (List Int × Bool) := if k < 0 then some ([], false) else if k > 4 then some ([], false) else (text_Asked.f s).bind fun b => if b = true then text_Runes.f s else some ([], false)
set_option maxHeartbeats 2000000 in
set_option maxRecDepth 100000 in
theorem walk_asked.calls (g : Nat) (s : ByteArray) (k : Int) (r1 : List Int) (r2 : Bool) (w : World) (h : walk_asked.f s k = some (r1, r2)) :
    Calls Try.prog 35 #[.pointer (some ⟨g, 0, none⟩), .string s, .int .i64 k] w fun e w' => ∃ v0_ : Value, e = .returned (.tuple #[v0_, .bool r2]) ∧ Kd.R (Kd.int .i32) 21 w' w.heap.size (fun _ => True) v0_ r1 ∧ Below w.heap.size w w' := by
  unfold walk_asked.f at h
  by_cases c0 : k < 0
  · rw [if_pos c0] at h
    obtain ⟨rfl, rfl⟩ := Prod.mk.inj (Option.some.inj h)
    clear h
    have d0 : decide (k < 0) = true := decide_eq_true c0
    go_enter Try.func35, Try.ntmps35
    go_wp2
    go_ret2
    exact ⟨_, rfl, Kd.R_nil _ _ _ _ _, Below.refl _ _⟩
  · rw [if_neg c0] at h
    have d0 : decide (k < 0) = false := decide_eq_false c0
    by_cases c1 : k > 4
    · rw [if_pos c1] at h
      obtain ⟨rfl, rfl⟩ := Prod.mk.inj (Option.some.inj h)
      clear h
      have d1 : decide (4 < k) = true := decide_eq_true c1
      go_enter Try.func35, Try.ntmps35
      go_wp2
      go_ret2
      exact ⟨_, rfl, Kd.R_nil _ _ _ _ _, Below.refl _ _⟩
    · rw [if_neg c1] at h
      have d1 : decide (4 < k) = false := decide_eq_false c1
      obtain ⟨b, ha, h⟩ := Option.bind_eq_some_iff.1 h
      have HA := Aside0.mk ha
      clear ha
      cases b with
      | true =>
        have HR := Aside0.mk (show text_Runes.f s = some (r1, r2) from by rw [if_pos rfl] at h; exact h)
        clear h
        go_enter Try.func35, Try.ntmps35
        go_wp2_with (first | ((with_reducible refine gate_callee (f := 25) rfl ?_); (try (refine gate_guard (by rfl) ?_; dsimp only)); refine goesL_ (some 20) rfl rfl Try.func25 (by kernel_rfl) rfl #[.string s] rfl (by (try simp only [List.map_toArray, List.map_cons, List.map_nil]); first | done | rfl) ?_; (with_reducible refine (text_Asked.calls s true _ HA.out).mono ?_); rintro e w1 ⟨rfl, hb⟩; refine ⟨_, rfl, ?_⟩; have HB1 := Aside0.mk hb; clear hb) | ((with_reducible refine gate_callee (f := 53) rfl ?_); (try (refine gate_guard (by rfl) ?_; dsimp only)); refine goesL_ (some 24) rfl rfl Try.func53 (by kernel_rfl) rfl #[.string s] rfl (by (try simp only [List.map_toArray, List.map_cons, List.map_nil]); first | done | rfl) ?_; (with_reducible refine (text_Runes.calls s r1 r2 _ HR.out).mono ?_); rintro e w2 ⟨v, rfl, ho, hb⟩; refine ⟨_, rfl, ?_⟩; have HO := Aside0.mk ho; have HB2 := Aside0.mk (below_step HB1.out hb); clear ho hb))
        go_ret2
        exact ⟨_, rfl, Kd.R_lower HO.out HB1.out.size, HB2.out⟩
      | false =>
        rw [if_neg (by decide)] at h
        obtain ⟨rfl, rfl⟩ := Prod.mk.inj (Option.some.inj h)
        clear h
        go_enter Try.func35, Try.ntmps35
        go_wp2_with ((with_reducible refine gate_callee (f := 25) rfl ?_); (try (refine gate_guard (by rfl) ?_; dsimp only)); refine goesL_ (some 20) rfl rfl Try.func25 (by kernel_rfl) rfl #[.string s] rfl (by (try simp only [List.map_toArray, List.map_cons, List.map_nil]); first | done | rfl) ?_; (with_reducible refine (text_Asked.calls s false _ HA.out).mono ?_); rintro e w1 ⟨rfl, hb⟩; refine ⟨_, rfl, ?_⟩; have HB1 := Aside0.mk hb; clear hb)
        go_ret2
        exact ⟨_, rfl, Kd.R_nil _ _ _ _ _, HB1.out⟩
end Go.Proofs.Ytklidannncajiaa.OW

namespace Go.Proofs.Ytklidannncajiaa.OW
open Go.RowKit Go.Proofs.YtklidannncajiaaW.PrintWords Go.Proofs.YtklidannncajiaaW.PrintLast Go.Proofs.YtklidannncajiaaW.PrintMore

theorem block_cell {W : World} {b t : Nat} {v : Value} (h : W.heap[b]? = some (.cells #[v] t (0, 0))) : W.cell? ⟨b, 0, none⟩ = some v := blk_cell h 0
/-- A graph that was there when a call began is there as long as what is written was made since. -/
theorem GraphAt.kept {w w1 : World} {g : Nat} {ns : List S72} {P : Nat → Nat → Prop} (h : GraphAt w g ns) (hk : KeptBy P w w1) (hp : ∀ k t, P k t → w.heap.size ≤ k) : GraphAt w1 g ns := h.below (hk.to_below hp (Nat.le_refl _))
end Go.Proofs.Ytklidannncajiaa.OW

namespace Go.Proofs.Ytklidannncajiaa.OW
open Go.RowKit Go.Proofs.YtklidannncajiaaW.PrintWords Go.Proofs.YtklidannncajiaaW.PrintLast Go.Proofs.YtklidannncajiaaW.PrintMore
set_option linter.unusedVariables false
set_option linter.unusedSimpArgs false

theorem row_flat {w : World} {A : Option Addr} {xs : List ByteArray} (h : Kd.C Kd.string w A xs.length xs) (h0 : 0 < xs.length) : ∃ bk o, A = some ⟨bk, o, none⟩ ∧ bk < w.heap.size ∧ ∀ (j : Nat) x, xs[j]? = some x → w.cell? ⟨bk, o + j, none⟩ = some (.string x) := by
  obtain ⟨ad, e, hc⟩ := h.2.2 h0
  have hcell : ∀ (j : Nat) x, xs[j]? = some x → w.cell? (ad.add j) = some (.string x) := by
    intro j x hx
    obtain ⟨c, _, hK, h2⟩ := hc j x hx
    have hK' : c = [.string x] := hK
    subst hK'
    have := h2 0 _ rfl
    rwa [show (Kd.string).sz = 1 from rfl, Nat.mul_one, Nat.add_zero] at this
  have h1 := hcell 0 _ (List.getElem?_eq_getElem h0)
  obtain ⟨bk, o, sp⟩ := ad
  have hsp : sp = none := by
    cases sp with
    | none => rfl
    | some q =>
      exfalso
      simp only [Addr.add, if_true] at h1
      unfold World.cell? at h1
      split at h1 <;> simp at h1
  subst hsp
  refine ⟨bk, o, e, World.block_lt_of_cell? w _ h1, fun j x hx => ?_⟩
  have := hcell j x hx
  unfold Addr.add at this
  by_cases hj : j = 0
  · subst hj; simpa using this
  · rwa [if_neg hj] at this
theorem join_calls (bk o c : Nat) (l : List ByteArray) (w : World) (hbk : bk < w.heap.size) (hcells : ∀ (j : Nat) x, l[j]? = some x → w.cell? ⟨bk, o + j, none⟩ = some (.string x)) (h1 : l.length ≤ 1000000) (h2 : l.length ≤ c) (h3 : (Lib.join (l.map (·.data.toList)) [255]).length ≤ 1000000) :
    Calls Try.prog 50 #[.slice (some ⟨bk, o, none⟩) l.length c, .string ⟨#[255]⟩] w fun e w' => e = .returned (.string (restsKey l)) ∧ Below w.heap.size w w' :=
  Try.strings_Join bk o c l ⟨#[255]⟩ w hcells hbk (by omega) h2 (Nat.le_trans h3 (by omega))
theorem BuilderAt.mono {w : World} {B b gB mB : Nat} {ok ok' : Nat → Prop} {st : Bld} (h : BuilderAt w B b gB mB ok st) (ho : ∀ k, ok k → k < w.heap.size → ok' k) : BuilderAt w B b gB mB ok' st := by
  obtain ⟨v, h1, h2⟩ := h.graph
  exact ⟨h.blk, h.leG, h.leM, h.size, ⟨v, h1, Kd.R_mono (Kd.R_bound h2) (fun k hk => ho k hk.1 hk.2.2.1)⟩, h.map⟩
theorem BuilderAt.below {w w1 : World} {B b gB mB : Nat} {ok : Nat → Prop} {st : Bld} (h : BuilderAt w B b gB mB ok st) (hb : Below w.heap.size w w1) : BuilderAt w1 B b gB mB ok st := by
  obtain ⟨v, h1, h2⟩ := h.graph
  exact ⟨blk_below h.blk hb, h.leG, h.leM, Nat.le_trans h.size hb.size, ⟨v, blk_below h1 hb, Kd.R_below h2 hb⟩, h.map.move (hb.block _ h.map.lt)⟩
theorem cells_ne_map {w : World} {k t m : Nat} {cs : Array Value} {es : Array MapEntry} {clock : Nat} (h : w.heap[k]? = some (.cells cs t (0, 0))) (h' : w.heap[m]? = some (.map es clock)) : k ≠ m := by
  rintro rfl
  rw [h] at h'
  cases h'
theorem NodeKept.setCell (B mB : Nat) (w : World) {a : Addr} {t : Nat} (ht : Typed w a.block t) (hp : B ≤ a.block ∧ (t = 66 ∨ t = 72)) (v : Value) : NodeKept B mB w (w.setCell a v) :=
  ⟨rfl, rfl, rfl, by simp [World.setCell], fun k _ _ hn => Below.heap_setCell w a v k (fun e => by subst e; exact hn t ht hp)⟩
theorem isEnd_true {s : ByteArray} {tl : List ByteArray} (h : s.toList.isEmpty = true) : isEnd (s :: tl) = true := by
  have h1 : s.data.toList = [] := by rw [← Lib.toList_data]; simpa using h
  have : s = ⟨#[]⟩ := bytes_ext (by rw [h1])
  simp [isEnd, this]
theorem isEnd_false {s : ByteArray} {tl : List ByteArray} (h : s.toList.isEmpty = false) : isEnd (s :: tl) = false := by
  have : s ≠ ⟨#[]⟩ := by
    rintro rfl
    rw [Lib.toList_data] at h
    simp at h
  simp [isEnd, this]
theorem cut_rests (A : Option Addr) (c : Nat) (xs : List ByteArray) (m : Nat) (hm : m ≤ xs.length) (hc : xs.length ≤ c) :
    ∃ A' : Option Addr, (∀ W : World, (Instr.slice 22 (.slice A xs.length c) (some (.int .i64 m)) none none).run Try.prog W = .ok (.slice A' (xs.drop m).length (c - m)) W) ∧
      (∀ w : World, Kd.C Kd.string w A xs.length xs → Kd.C Kd.string w A' (xs.drop m).length (xs.drop m)) ∧ (xs.drop m).length ≤ c - m := by
  obtain ⟨i, hi, hz⟩ := Option.map_eq_some_iff.1 info9
  simp only [Prod.mk.injEq] at hz
  obtain ⟨A', h1, h2, h3⟩ := print_drop_of (P := Try.prog) Value.string (⟨#[]⟩ : ByteArray) 22 9 .i64 Try.underlying22 hi hz.2.1 A c xs (m : Int) (by omega) (by omega) hc
  rw [Int.toNat_natCast] at h1 h2 h3
  exact ⟨A', h1, fun w h => Kd.C_of_reads (h2 w (Kd.reads_of_C h)), h3⟩
theorem okp_of {w : World} {base gn : Nat} {v : Value} {es : List S91} {cls : Array Value} (h : Kd.R k91 91 w base (fun _ => True) v es) (hg : w.heap[gn]? = some (.cells cls 72 (0, 0))) : Kd.R k91 91 w base (fun k => base ≤ k ∧ k ≠ gn) v es :=
  Kd.R_mono (Kd.R_bound (Kd.R_types h hg (by decide))) (fun _ hk => ⟨hk.2.1, hk.1.2⟩)
theorem grp_at (p : ByteArray) (n : Nat) : ∀ (l : List ByteArray) (j : Nat), j < (grp p n l).length → ∃ x, l[j]? = some x ∧ Lib.hasPrefix x.data.toList p.data.toList = true ∧ (grp p n l)[j]? = some (cut x n)
  | [], j, h => by simp [grp] at h
  | s :: t, j, h => by
    unfold grp at h ⊢
    by_cases hp : Lib.hasPrefix s.data.toList p.data.toList = true
    · rw [if_pos hp] at h ⊢
      cases j with
      | zero => exact ⟨s, rfl, hp, rfl⟩
      | succ j => exact grp_at p n t j (by simpa using h)
    · rw [if_neg hp] at h
      simp at h
theorem grp_le (p : ByteArray) (n : Nat) : ∀ l : List ByteArray, (grp p n l).length ≤ l.length
  | [] => by simp [grp]
  | s :: t => by
    unfold grp
    split
    · have := grp_le p n t; simp; omega
    · simp
theorem grp_stop (p : ByteArray) (n : Nat) : ∀ (l : List ByteArray) (x : ByteArray), l[(grp p n l).length]? = some x → Lib.hasPrefix x.data.toList p.data.toList = false
  | [], x, h => by simp [grp] at h
  | s :: t, x, h => by
    unfold grp at h
    by_cases hp : Lib.hasPrefix s.data.toList p.data.toList = true
    · rw [if_pos hp, List.length_cons, List.getElem?_cons_succ] at h
      exact grp_stop p n t x h
    · rw [if_neg hp] at h
      simp only [List.length_nil, List.getElem?_cons_zero, Option.some.injEq] at h
      subst h
      simpa using hp
/-- What is there behind the map's own turn. -/
theorem BuilderAt.mapped {w w1 : World} {B b gB mB : Nat} {ok : Nat → Prop} {st : Bld} {v : Value} (h : BuilderAt w B b gB mB ok st) (h1 : w.heap[gB]? = some (.cells #[v] 66 (0, 0))) (h2 : Kd.R k72 72 w B ok v st.ns) (hg : w.grownBy w1 (some mB)) :
    w1.heap[b]? = some (.cells #[.pointer (some ⟨gB, 0, none⟩), .map (some mB)] 69 (0, 0)) ∧ w1.heap[gB]? = some (.cells #[v] 66 (0, 0)) ∧ Kd.R k72 72 w1 B ok v st.ns := by
  obtain ⟨es, clock, hM⟩ := h.map.is
  refine ⟨blk_grown h.blk hg (fun e => cells_ne_map h.blk hM (Option.some.inj e)), blk_grown h1 hg (fun e => cells_ne_map h1 hM (Option.some.inj e)), ?_⟩
  exact Kd.R_mono (Kd.R_grown (Kd.R_bound h2) hg (fun k hk e => by
    obtain ⟨_, _, _, q, _, cells, hc⟩ := hk
    exact cells_ne_map hc hM (Option.some.inj e))) (fun _ hk => hk.1)
/-- A row of edges that none of the nodes has is written. -/
theorem BuilderAt.edged {w w1 : World} {B b gB mB base : Nat} {ok ok1 : Nat → Prop} {st : Bld} {u : Value} {es : List S91} (h : BuilderAt w B b gB mB ok st) (hu : Kd.R k91 91 w base ok1 u es) (hg : w.grownBy w1 u.ownBlock) (hne : ∀ k, ok k → some k ≠ u.ownBlock) :
    BuilderAt w1 B b gB mB (fun k => ok k ∧ some k ≠ u.ownBlock ∧ k < w.heap.size) st := by
  obtain ⟨v, h1, h2⟩ := h.graph
  refine ⟨blk_grown h.blk hg (Kd.R_ne hu h.blk (by decide)), h.leG, h.leM, Nat.le_trans h.size hg.size, ⟨v, blk_grown h1 hg (Kd.R_ne hu h1 (by decide)), ?_⟩, ?_⟩
  · exact Kd.R_mono (Kd.R_grown (Kd.R_bound h2) hg (fun k hk => hne k hk.1)) (fun k hk => ⟨hk.1, hne k hk.1, hk.2.2.1⟩)
  · refine h.map.move (hg.block _ h.map.lt (fun e => ?_))
    obtain ⟨inner, hown⟩ := Kd.R_own hu
    obtain ⟨cells, hc⟩ := own_typed hown _ e.symm
    obtain ⟨es', clock, hM⟩ := h.map.is
    exact cells_ne_map hc hM rfl
theorem NodeKept.edged {w w1 w2 : World} {B mB : Nat} {ok1 : Nat → Prop} {u : Value} {es : List S91} (h : NodeKept B mB w w1) (hu : Kd.R k91 91 w1 w.heap.size ok1 u es) (hg : w1.grownBy w2 u.ownBlock) : NodeKept B mB w w2 :=
  ⟨hg.os.trans h.os, hg.tape.trans h.tape, hg.output.trans h.output, Nat.le_trans h.size hg.size, fun k hk hm ht => (hg.block k (Nat.lt_of_lt_of_le hk h.size) (fun e => by
    obtain ⟨inner, hown⟩ := Kd.R_own hu
    have := own_base hown k e.symm
    omega)).trans (h.block k hk hm ht)⟩
set_option maxHeartbeats 4000000 in
set_option maxRecDepth 100000 in
theorem node_calls (B b gB mB : Nat) : ∀ (f : Nat) (l : List ByteArray) (st st' : Bld) (r : Int) (A : Option Addr) (c : Nat) (ok : Nat → Prop) (w : World), node f l st = some (r, st') → BuilderAt w B b gB mB ok st → (∀ W, NodeKept B mB w W → Kd.C Kd.string W A l.length l) → l.length ≤ c →
    Calls Try.prog 34 #[.pointer (some ⟨b, 0, none⟩), .slice A l.length c] w fun e w' => e = .returned (.int .i64 r) ∧ BuilderAt w' B b gB mB (fun k => ok k ∨ w.heap.size ≤ k) st' ∧ NodeKept B mB w w' := by
  intro f
  induction f using Nat.strongRecOn with
  | _ f ih =>
    intro l st st' r A c ok w h hB hC hc
    have IH := Aside0.mk ih
    clear ih
    cases f with
    | zero => simp [node] at h
    | succ f =>
      simp only [node] at h
      by_cases hg : l ≠ [] ∧ (Lib.join (l.map (·.data.toList)) [255]).length ≤ 1000000 ∧ st.ns.length ≤ 1000000 ∧ l.length ≤ 1000000
      case neg => rw [if_neg hg] at h; cases h
      rw [if_pos hg] at h
      obtain ⟨hne, hjl, hnl, hll⟩ := hg
      have hpos : 0 < l.length := List.length_pos_iff.2 hne
      have HB := Aside0.mk hB
      have HC := Aside0.mk hC
      have HL := Aside0.mk (show l.length ≤ c ∧ (Lib.join (l.map (·.data.toList)) [255]).length ≤ 1000000 ∧ st.ns.length ≤ 1000000 ∧ l.length ≤ 1000000 from ⟨hc, hjl, hnl, hll⟩)
      obtain ⟨bk, o, eA, hbk, hcell⟩ := row_flat (hC w (NodeKept.refl _ _ _)) hpos
      subst eA
      have HJ := Aside0.mk (show bk < w.heap.size ∧ ∀ (j : Nat) x, l[j]? = some x → w.cell? ⟨bk, o + j, none⟩ = some (.string x) from ⟨hbk, hcell⟩)
      clear hB hC hc hjl hnl hll hne hbk hcell
      have hks : (restsKey l).size ≤ maxLen := by have h1 := HL.out.2.1; unfold maxLen; show (Lib.join _ _).toArray.size ≤ _; simp only [List.size_toArray]; omega
      cases hF : st.F (restsKey l) with
      | some n =>
        rw [hF] at h
        obtain ⟨rfl, rfl⟩ := Prod.mk.inj (Option.some.inj h)
        have HF := Aside0.mk hF
        clear h hF
        have hb0 : w.cell? ⟨b, 0, none⟩ = some (.pointer (some ⟨gB, 0, none⟩)) := blk_cell HB.out.blk 0
        have hb1 : w.cell? ⟨b, 1, none⟩ = some (.map (some mB)) := blk_cell HB.out.blk 1
        go_enter Try.func34, Try.ntmps34
        go_wp2_with (first | ((with_reducible refine gate_callee (f := 50) rfl ?_); (try (refine gate_guard (by rfl) ?_; dsimp only)); refine goesL_ (some 16) rfl rfl Try.func50 (by kernel_rfl) rfl #[.slice (some ⟨bk, o, none⟩) l.length c, .string ⟨#[255]⟩] rfl (by (try simp only [List.map_toArray, List.map_cons, List.map_nil]); first | done | rfl) ?_; (with_reducible refine (join_calls bk o c l w HJ.out.1 HJ.out.2 HL.out.2.2.2 HL.out.1 HL.out.2.1).mono ?_); rintro e w1 ⟨rfl, hb⟩; refine ⟨_, rfl, ?_⟩; have hb0' := pw_cell_below hb hb0; have hb1' := pw_cell_below hb hb1; have HB1 := Aside0.mk hb; clear hb hb0 hb1) | (at_lookup; refine (HB.out.map.move (HB1.out.block _ HB.out.map.lt)).look rfl _ _ rfl (restsKey l) hks rfl rfl ?_; intro ci hci; rw [HF.out]; obtain rfl := hci n HF.out; clear hci))
        go_ret
        exact ⟨rfl, (HB.out.below HB1.out).mono (fun _ hk _ => .inl hk), NodeKept.of_below HB1.out⟩
      | none =>
        rw [hF] at h
        obtain ⟨y, hy, h⟩ := Option.bind_eq_some_iff.1 h
        by_cases hlt : st.ns.length < y.2.ns.length
        case neg => rw [if_neg hlt] at h; cases h
        rw [if_pos hlt] at h
        obtain ⟨rfl, rfl⟩ := Prod.mk.inj (Option.some.inj h)
        have HF := Aside0.mk hF
        have HY := Aside0.mk hy
        have HLT := Aside0.mk hlt
        clear h hF hy hlt
        have hb0 : w.cell? ⟨b, 0, none⟩ = some (.pointer (some ⟨gB, 0, none⟩)) := blk_cell HB.out.blk 0
        have hb1 : w.cell? ⟨b, 1, none⟩ = some (.map (some mB)) := blk_cell HB.out.blk 1
        obtain ⟨vn, hg0, hr0⟩ := HB.out.graph
        obtain ⟨An, cn, en⟩ := Kd.R_slice hr0
        subst en
        have hg1 := block_cell hg0
        have hnl := HL.out.2.2.1
        have HG0 := Aside0.mk hg0
        have HR0 := Aside0.mk hr0
        clear hg0 hr0
        go_enter Try.func34, Try.ntmps34
        go_upto_region 7 with (first | ((with_reducible refine gate_callee (f := 50) rfl ?_); (try (refine gate_guard (by rfl) ?_; dsimp only)); refine goesL_ (some 16) rfl rfl Try.func50 (by kernel_rfl) rfl #[.slice (some ⟨bk, o, none⟩) l.length c, .string ⟨#[255]⟩] rfl (by (try simp only [List.map_toArray, List.map_cons, List.map_nil]); first | done | rfl) ?_; (with_reducible refine (join_calls bk o c l w HJ.out.1 HJ.out.2 HL.out.2.2.2 HL.out.1 HL.out.2.1).mono ?_); rintro e w1 ⟨rfl, hb⟩; refine ⟨_, rfl, ?_⟩; have hb0' := pw_cell_below hb hb0; have hb1' := pw_cell_below hb hb1; have hg1' := pw_cell_below hb hg1; have HB1 := Aside0.mk (HB.out.below hb); have HK1 := Aside0.mk (NodeKept.of_below (B := B) (mB := mB) hb); have HG1 := Aside0.mk (blk_below HG0.out hb); have HR1 := Aside0.mk (Kd.R_below HR0.out hb); clear hb hb0 hb1 hg1) | (at_lookup; refine HB1.out.map.look rfl _ _ rfl (restsKey l) hks rfl rfl ?_; intro ci hci; rw [HF.out]; clear hci) | (at_mapUpdate; refine HB1.out.map.put (by unfold maxLen; omega) rfl rfl _ _ _ rfl (restsKey l) hks (st.ns.length : Int) (WalkArith.wf_i64 (by omega)) rfl rfl rfl ?_; intro w2 hm2 hgr2; have HM2 := Aside0.mk hm2; have HG2 := Aside0.mk hgr2; clear hm2 hgr2 hb0' hb1' hg1'))
        obtain ⟨h2b, h2g, h2r⟩ := HB1.out.mapped HG1.out HR1.out HG2.out
        have hb2c : w2.cell? ⟨b, 0, none⟩ = some (.pointer (some ⟨gB, 0, none⟩)) := blk_cell h2b 0
        have hg2c := block_cell h2g
        have H2b := Aside0.mk h2b
        have H2g := Aside0.mk h2g
        have H2r := Aside0.mk h2r
        have HK2 := Aside0.mk (HK1.out.trans (NodeKept.of_grown (B := B) (mB := mB) HG2.out (fun k hk => .inl (Option.some.inj hk).symm)))
        clear h2b h2g h2r HB1 HG1 HR1 HK1
        go_cut [8] (fun v8 W => v8 = .int .i64 st.ns.length ∧ Aside0 (BuilderAt W B b gB mB (fun k => ok k ∨ w.heap.size ≤ k) (st.open_ (restsKey l))) ∧ Aside0 (NodeKept B mB w W))
        case first =>
          refine start_ (n := 17) (S := fun w' => w'.cell? ⟨b, 0, none⟩ = some (.pointer (some ⟨gB, 0, none⟩)) ∧ w'.cell? ⟨gB, 0, none⟩ = some (.slice An st.ns.length cn)) (ds := [16]) #[false, false, false, false, false, false, false, false, false, false, false, false, false, false, false, false, false] (by kernel_rfl) rfl rfl ⟨hb2c, hg2c⟩ (fun hHeld => ?_)
          have D1 := Aside0.mk (blk_drew H2b.out)
          have D2 := Aside0.mk (blk_drew H2g.out)
          have D3 := Aside0.mk (Kd.R_mono (ok' := fun k => ok k ∨ w.heap.size ≤ k) (Kd.R_drew H2r.out) (fun _ hk => .inl hk))
          have D4 := Aside0.mk (HM2.out.move (w' := w2.drew) rfl)
          have D5 := Aside0.mk (HK2.out.trans (NodeKept.of_below ((Below.refl _ _).drew)))
          clear H2b H2g H2r HM2 HK2 HG2 hb2c hg2c
          generalize w2.drew = w3 at D1 D2 D3 D4 D5 hHeld ⊢
          refine pure_ (i := 0) (N := (some 42)) (v := ?_) (a' := ?_) #[true, false, false, false, false, false, false, false, false, false, false, false, false, false, false, false, false] rfl rfl (by kernel_rfl) (fun _ _ _ h => h) (Or.inl ⟨by rfl, ?_⟩) ?_ ?_
          rotate_left
          · intro w'
            go_simp
            with_reducible rfl
          rotate_left
          · simp only [Act.put, List.setIfInBounds_toArray, List.set_cons_zero, List.set_cons_succ, i64_w, i32_w]
            rfl
          refine pure_ (i := 1) (N := (some 43)) (v := ?_) (a' := ?_) #[true, true, false, false, false, false, false, false, false, false, false, false, false, false, false, false, false] rfl rfl (by kernel_rfl) (fun _ _ _ h => h) (Or.inl ⟨by rfl, ?_⟩) ?_ ?_
          rotate_left
          · intro w'
            go_simp
            with_reducible rfl
          rotate_left
          · simp only [Act.put, List.setIfInBounds_toArray, List.set_cons_zero, List.set_cons_succ, i64_w, i32_w]
            rfl
          refine pure_ (i := 2) (N := (some 44)) (v := ?_) (a' := ?_) #[true, true, true, false, false, false, false, false, false, false, false, false, false, false, false, false, false] rfl rfl (by kernel_rfl) (fun _ _ _ h => h) (Or.inl ⟨by rfl, ?_⟩) ?_ ?_
          rotate_left
          · intro w'
            go_simp
            with_reducible rfl
          rotate_left
          · simp only [Act.put, List.setIfInBounds_toArray, List.set_cons_zero, List.set_cons_succ, i64_w, i32_w]
            rfl
          refine pure_ (i := 4) (N := (some 46)) (v := ?_) (a' := ?_) #[true, true, true, false, true, false, false, false, false, false, false, false, false, false, false, false, false] rfl rfl (by kernel_rfl) (fun _ _ _ h => h) (Or.inl ⟨by rfl, ?_⟩) ?_ ?_
          rotate_left
          · intro w'
            go_simp
            with_reducible rfl
          rotate_left
          · simp only [Act.put, List.setIfInBounds_toArray, List.set_cons_zero, List.set_cons_succ, i64_w, i32_w]
            rfl
          refine pure_ (i := 5) (N := (some 47)) (v := ?_) (a' := ?_) #[true, true, true, false, true, true, false, false, false, false, false, false, false, false, false, false, false] rfl rfl (by kernel_rfl) (fun _ _ _ h => h) (Or.inl ⟨by rfl, ?_⟩) ?_ ?_
          rotate_left
          · intro w'
            go_simp
            with_reducible rfl
          rotate_left
          · simp only [Act.put, List.setIfInBounds_toArray, List.set_cons_zero, List.set_cons_succ, i64_w, i32_w]
            rfl
          refine pure_ (i := 6) (N := (some 48)) (v := ?_) (a' := ?_) #[true, true, true, false, true, true, true, false, false, false, false, false, false, false, false, false, false] rfl rfl (by kernel_rfl) (fun _ _ _ h => h) (Or.inl ⟨by rfl, ?_⟩) ?_ ?_
          rotate_left
          · intro w'
            go_simp
            with_reducible rfl
          rotate_left
          · simp only [Act.put, List.setIfInBounds_toArray, List.set_cons_zero, List.set_cons_succ, i64_w, i32_w]
            rfl
          refine pure_ (i := 11) (N := (some 53)) (v := ?_) (a' := ?_) #[true, true, true, false, true, true, true, false, false, false, false, true, false, false, false, false, false] rfl rfl (by kernel_rfl) (fun _ _ _ h => h) (Or.inl ⟨by rfl, ?_⟩) ?_ ?_
          rotate_left
          · intro w'
            go_simp
            with_reducible rfl
          rotate_left
          · simp only [Act.put, List.setIfInBounds_toArray, List.set_cons_zero, List.set_cons_succ, i64_w, i32_w]
            rfl
          refine take_ (i := 3) (N := (some 45)) (v := ?_) (a' := ?_) #[true, true, true, true, true, true, true, false, false, false, false, true, false, false, false, false, false] rfl rfl (by kernel_rfl) (fun _ _ _ h => h) (Or.inl ⟨by rfl, ?_⟩) hHeld ?_ ?_
          rotate_left
          · rintro w' ⟨s0, s1⟩
            go_simp
            with_reducible rfl
          rotate_left
          · simp only [Act.put, List.setIfInBounds_toArray, List.set_cons_zero, List.set_cons_succ, i64_w, i32_w]
            rfl
          refine take_ (i := 7) (N := (some 49)) (v := ?_) (a' := ?_) #[true, true, true, true, true, true, true, true, false, false, false, true, false, false, false, false, false] rfl rfl (by kernel_rfl) (fun _ _ _ h => h) (Or.inl ⟨by rfl, ?_⟩) hHeld ?_ ?_
          rotate_left
          · rintro w' ⟨s0, s1⟩
            go_simp
            with_reducible rfl
          rotate_left
          · simp only [Act.put, List.setIfInBounds_toArray, List.set_cons_zero, List.set_cons_succ, i64_w, i32_w]
            rfl
          refine pure_ (i := 8) (N := (some 50)) (v := ?_) (a' := ?_) #[true, true, true, true, true, true, true, true, true, false, false, true, false, false, false, false, false] rfl rfl (by kernel_rfl) (fun _ _ _ h => h) (Or.inl ⟨by rfl, ?_⟩) ?_ ?_
          rotate_left
          · intro w'
            go_simp
            with_reducible rfl
          rotate_left
          · simp only [Act.put, List.setIfInBounds_toArray, List.set_cons_zero, List.set_cons_succ, i64_w, i32_w]
            rfl
          refine pure_ (i := 9) (N := (some 51)) (v := ?_) (a' := ?_) #[true, true, true, true, true, true, true, true, true, true, false, true, false, false, false, false, false] rfl rfl (by kernel_rfl) (fun _ _ _ h => h) (Or.inl ⟨by rfl, ?_⟩) ?_ ?_
          rotate_left
          · intro w'
            go_simp
            with_reducible rfl
          rotate_left
          · simp only [Act.put, List.setIfInBounds_toArray, List.set_cons_zero, List.set_cons_succ, i64_w, i32_w]
            rfl
          refine take_ (i := 10) (N := (some 52)) (v := ?_) (a' := ?_) #[true, true, true, true, true, true, true, true, true, true, true, true, false, false, false, false, false] rfl rfl (by kernel_rfl) (fun _ _ _ h => h) (Or.inl ⟨by rfl, ?_⟩) hHeld ?_ ?_
          rotate_left
          · rintro w' ⟨s0, s1⟩
            go_simp
            with_reducible rfl
          rotate_left
          · simp only [Act.put, List.setIfInBounds_toArray, List.set_cons_zero, List.set_cons_succ, i64_w, i32_w]
            rfl
          refine one_ (i := 12) (N := (some 54)) #[true, true, true, true, true, true, true, true, true, true, true, true, true, false, false, false, false] rfl rfl (by kernel_rfl) (by decide) (fun K hK => ?_)
          refine value_ (v := .slice (some ⟨w3.heap.size, 0, none⟩) 1 1) (w1 := w3.alloc (.cells #[.bool false, .slice none 0 0] 72)) (by rfl) rfl ?hr ?_
          (case hr => first | (go_simp; done) | (go_simp; rfl))
          refine hK.out _ _ ⟨blk_cell (blk_alloc D1.out _) 0, blk_cell (blk_alloc D2.out _) 0⟩ (fun hHeld => ?_)
          clear hK K
          refine norm_ (a' := ?_) ?_ ?_
          rotate_left
          · show Act.put _ (some 54) _ = _
            simp only [Act.put, List.setIfInBounds_toArray, List.set_cons_zero, List.set_cons_succ, i64_w, i32_w]
            rfl
          refine one_ (i := 13) (N := (some 55)) #[true, true, true, true, true, true, true, true, true, true, true, true, true, true, false, false, false] rfl rfl (by kernel_rfl) (by decide) (fun K hK => ?_)
          refine Kd.R_append_step k72 (w0 := w3) B (by rfl) (.tmp 52) (.tmp 54) 64 72 (.agg #[.bool false, .slice none 0 0]) 32 rfl Try.underlying64 info72 rfl (by decide) (by omega) (.slice An st.ns.length cn) st.ns z72 [.bool false, .slice none 0 0] (fun k => ok k ∨ w.heap.size ≤ k) (fun _ => False) rfl rfl ?aP (fun _ hk => hk.elim) (fun k hk => .inr (Nat.le_trans D5.out.size hk)) D3.out (Below.refl _ _) ?aS (by omega) ?_
          (case aP => exact k72_mkM _ _ _ z72 (Kd.R_nil _ _ _ _ _))
          (case aS => exact Nat.le_trans HB.out.size D5.out.size)
          intro v1 w5 ho hb hg hat
          obtain ⟨A5, c5, e5⟩ := Kd.R_slice ho
          subst e5
          rw [List.length_append, List.length_singleton] at ho
          have E1 := Aside0.mk (blk_grown D1.out hg (Kd.R_ne D3.out D1.out (by decide)))
          have E2 := Aside0.mk (blk_grown D2.out hg (Kd.R_ne D3.out D2.out (by decide)))
          have E3 := Aside0.mk ho
          have E4 := Aside0.mk (D4.out.move (hg.block _ D4.out.lt (fun e => by obtain ⟨inner, hown⟩ := Kd.R_own D3.out; obtain ⟨cells, hcl⟩ := own_typed hown _ e.symm; obtain ⟨es, clock, hM⟩ := D4.out.is; exact cells_ne_map hcl hM rfl)))
          have E5 := Aside0.mk (D5.out.trans (NodeKept.of_grown hg (fun k hk => by obtain ⟨inner, hown⟩ := Kd.R_own D3.out; exact .inr ⟨72, own_typed hown k hk, own_base hown k hk, .inr rfl⟩)))
          clear ho hb hg hat D1 D2 D3 D4 D5
          refine hK.out _ _ ⟨blk_cell E1.out 0, blk_cell E2.out 0⟩ (fun hHeld => ?_)
          clear hK K
          refine norm_ (a' := ?_) ?_ ?_
          rotate_left
          · show Act.put _ (some 55) _ = _
            simp only [Act.put, List.setIfInBounds_toArray, List.set_cons_zero, List.set_cons_succ, i64_w, i32_w]
            rfl
          refine pure_ (i := 14) (N := (some 56)) (v := ?_) (a' := ?_) #[true, true, true, true, true, true, true, true, true, true, true, true, true, true, true, false, false] rfl rfl (by kernel_rfl) (fun _ _ _ h => h) (Or.inl ⟨by rfl, ?_⟩) ?_ ?_
          rotate_left
          · intro w'
            go_simp
            with_reducible rfl
          rotate_left
          · simp only [Act.put, List.setIfInBounds_toArray, List.set_cons_zero, List.set_cons_succ, i64_w, i32_w]
            rfl
          refine pure_ (i := 15) (N := (some 57)) (v := ?_) (a' := ?_) #[true, true, true, true, true, true, true, true, true, true, true, true, true, true, true, true, false] rfl rfl (by kernel_rfl) (fun _ _ _ h => h) (Or.inl ⟨by rfl, ?_⟩) ?_ ?_
          rotate_left
          · intro w'
            go_simp
            with_reducible rfl
          rotate_left
          · simp only [Act.put, List.setIfInBounds_toArray, List.set_cons_zero, List.set_cons_succ, i64_w, i32_w]
            rfl
          refine last_ (i := 16) (N := none) #[true, true, true, true, true, true, true, true, true, true, true, true, true, true, true, true, true] rfl rfl (by kernel_rfl) (by decide) (fun K hK => ?_)
          have hc5 := block_cell E2.out
          have hf5 := blk_frozen E2.out 0
          refine skip_ (w1 := w5.setCell ⟨gB, 0, none⟩ (.slice A5 (st.ns.length + 1) c5)) (by rfl) rfl ?hr ?_
          (case hr => first | (go_simp; done) | (go_simp; rfl))
          refine hK.out _ _ ?_
          clear hK K hHeld hc5 hf5
          refine done_ (by kernel_rfl) ?_
          go_wp2_with fail
          go_meet
          exact ⟨rfl, ⟨⟨blk_far (p := ⟨gB, 0, none⟩) E1.out (blk_ne E1.out E2.out (by decide)) _, HB.out.leG, HB.out.leM, Nat.le_trans HB.out.size (Nat.le_trans E5.out.size (by simp [World.setCell])), ⟨_, blk_set E2.out 0 _, Kd.R_set E3.out E2.out (by decide) 0 _⟩, by
            have := E4.out.move (w' := w5.setCell ⟨gB, 0, none⟩ (.slice A5 (st.ns.length + 1) c5)) (Below.heap_setCell _ _ _ _ (fun e => by obtain ⟨es, clock, hM⟩ := E4.out.is; exact cells_ne_map E2.out (e ▸ hM) rfl))
            simpa [Bld.open_] using this⟩⟩, ⟨E5.out.trans (NodeKept.setCell B mB w5 (a := ⟨gB, 0, none⟩) ⟨_, E2.out⟩ ⟨HB.out.leG, .inl rfl⟩ _)⟩⟩
        case rest =>
          obtain ⟨rfl, HB2, HK2⟩ := hcut
          clear hks
          obtain ⟨s, tl, hl⟩ : ∃ s tl, l = s :: tl := by
            cases l with
            | nil => simp at hpos
            | cons s tl => exact ⟨s, tl, rfl⟩
          obtain ⟨bk', o', eA, _, hcell⟩ := row_flat (HC.out wc HK2.out) hpos
          obtain ⟨rfl, rfl⟩ : bk = bk' ∧ o = o' := by
            injection eA with eA
            injection eA with h1 h2
            exact ⟨h1, h2⟩
          clear eA
          have hs0 : wc.cell? ⟨bk, o, none⟩ = some (.string s) := by have := hcell 0 s (by rw [hl]; rfl); rwa [Nat.add_zero] at this
          clear hcell
          have HLs := Aside0.mk hl
          clear hl
          go_upto_if 67 with fail
          have HC2 := HC
          clear hs0
          go_cut [1, 9] (fun v1 v9 W => ∃ (A' : Option Addr) (c' : Nat), v1 = .slice A' (restsOf l).length c' ∧ v9 = .bool (isEnd l) ∧ W = wc ∧ Aside0 ((restsOf l).length ≤ c') ∧ Aside0 (∀ W, NodeKept B mB w W → Kd.C Kd.string W A' (restsOf l).length (restsOf l)))
          case first =>
            cases hse : s.toList.isEmpty with
            | true =>
              have he : isEnd l = true := by rw [HLs.out]; exact isEnd_true hse
              have hr : restsOf l = l.drop 1 := by unfold restsOf; rw [if_pos he]
              obtain ⟨A', h1, h2, h3⟩ := cut_rests (some ⟨bk, o, none⟩) c l 1 hpos HL.out.1
              replace h1 : ∀ W : World, (Instr.slice 22 (.slice (some ⟨bk, o, none⟩) l.length c) (some (.int .i64 1)) none none).run Try.prog W = .ok (.slice A' (l.drop 1).length (c - 1)) W := h1
              have HE := Aside0.mk he
              have HR := Aside0.mk hr
              clear he hr hse
              go_wp2_with fail
              go_meet
              exact ⟨A', c - 1, by rw [HR.out, List.length_drop], by rw [HE.out], rfl, ⟨by rw [HR.out]; exact h3⟩, ⟨fun W hk => by rw [HR.out]; exact h2 W (HC2.out W hk)⟩⟩
            | false =>
              have he : isEnd l = false := by rw [HLs.out]; exact isEnd_false hse
              have hr : restsOf l = l := by unfold restsOf; rw [if_neg (by rw [he]; simp)]
              have HE := Aside0.mk he
              have HR := Aside0.mk hr
              clear he hr hse
              go_wp2_with fail
              go_meet
              exact ⟨some ⟨bk, o, none⟩, c, by rw [HR.out], by rw [HE.out], rfl, ⟨by rw [HR.out]; exact HL.out.1⟩, ⟨fun W hk => by rw [HR.out]; exact HC2.out W hk⟩⟩
          case rest =>
            obtain ⟨A', c', rfl, rfl, rfl, HL', HC'⟩ := hcut
            have HBB := Aside0.mk HB.out.size
            clear HC2
            go_upto_block 0 with fail
            go_wp2_with fail
            go_loopg [1, 10] f (fun kq v1 v10 W => ∃ (l' : List ByteArray) (es : List S91) (st1 : Bld) (A1 : Option Addr) (c1 : Nat), v1 = .slice A1 l'.length c1 ∧ Aside0 (edges kq l' es st1 = some y) ∧ Aside0 (kq ≤ f) ∧ Aside0 (l'.length ≤ c1) ∧ Aside0 (∀ W', NodeKept B mB w W' → Kd.C Kd.string W' A1 l'.length l') ∧ Aside0 (Kd.R k91 91 W w.heap.size (fun _ => True) v10 es) ∧ Aside0 (BuilderAt W B b gB mB (fun k => (ok k ∨ w.heap.size ≤ k) ∧ some k ≠ v10.ownBlock) st1) ∧ Aside0 (NodeKept B mB w W))
            case atStart => exact ⟨restsOf l, [], _, _, _, rfl, HY, ⟨Nat.le_refl _⟩, HL', HC', ⟨Kd.R_nil _ _ _ _ _⟩, ⟨HB2.out.mono (fun k hk _ => ⟨hk, by simp [Value.ownBlock]⟩)⟩, HK2⟩
            case round =>
              clear HY HL' HC' HB2 HK2
              obtain ⟨l1, es, st1, A1, c1, rfl, HE, HKF, HL1, HC1, HO, HB1, HK⟩ := hrel
              cases gk with
              | zero => exact absurd HE.out (by simp [edges])
              | succ ko =>
                have hE := HE.out
                clear HE
                cases l1 with
                | nil =>
                  simp only [edges] at hE
                  obtain rfl := Option.some.inj hE
                  clear hE
                  obtain ⟨v, hg, hr'⟩ := HB1.out.graph
                  have hr := Kd.R_mono (ok' := fun k => ok k ∨ w.heap.size ≤ k) hr' (fun _ hk => hk.1)
                  clear hr'
                  obtain ⟨gn, cn1, ev, hgb, _, cls, hgn⟩ := Kd.R_form hr (by have := HLT.out; dsimp only at this; omega)
                  subst ev
                  have HGB := Aside0.mk hgb
                  clear hgb
                  have hlt : ((st.ns.length : Int)) < (st1.ns.length : Int) := by have := HLT.out; dsimp only at this; omega
                  obtain ⟨ce, hcl, hM, hcc, hfr⟩ := Kd.R_elem hr z72 (st.ns.length : Int) (by omega) hlt
                  obtain ⟨vq, rfl, _⟩ := k72_openM hM
                  obtain ⟨A10, c10, e10⟩ := Kd.R_slice HO.out
                  subst e10
                  have HSG := Aside0.mk (Kd.R_seg hr (st.ns.length : Int) (by omega) hlt (seg := [.bool (isEnd l), .slice A10 es.length c10]) (j := 0) hcl hcc (show 2 ≤ 2 from by decide) (x' := (⟨isEnd l, es⟩ : S72)) (k72_mkM _ _ _ (⟨isEnd l, es⟩ : S72) (Kd.R_lower (Kd.R_mono (okp_of HO.out hgn) (fun _ hk => hk)) HBB.out)) (fun _ hk => ⟨.inr hk.1, hk.2⟩))
                  rw [Int.toNat_natCast] at hcc hfr HSG
                  have hx0 : wr.cell? ⟨gn, st.ns.length * 2, none⟩ = some _ := hcc 0 _ rfl
                  have hx1 : wr.cell? ⟨gn, st.ns.length * 2 + 1, none⟩ = some _ := hcc 1 _ rfl
                  have hf0 : wr.frozen? ⟨gn, st.ns.length * 2, none⟩ = false := hfr 0
                  have hf1 : wr.frozen? ⟨gn, st.ns.length * 2 + 1, none⟩ = false := hfr 1
                  have hb0 : wr.cell? ⟨b, 0, none⟩ = some (.pointer (some ⟨gB, 0, none⟩)) := blk_cell HB1.out.blk 0
                  have hg0 := block_cell hg
                  have HGG := Aside0.mk hg
                  have HGN := Aside0.mk hgn
                  clear hg hr hcl hcc hfr hM hgn
                  go_wp2_with fail
                  go_ret
                  have hsg := HSG.out
                  refine ⟨rfl, ⟨blk_grown HB1.out.blk hsg.2 (fun e => blk_ne HB1.out.blk HGN.out (by decide) (Option.some.inj e)), HB1.out.leG, HB1.out.leM, Nat.le_trans HB1.out.size hsg.2.size, ⟨_, blk_grown HGG.out hsg.2 (fun e => blk_ne HGG.out HGN.out (by decide) (Option.some.inj e)), hsg.1⟩, ?_⟩, HK.out.trans (NodeKept.of_grown hsg.2 (fun k hk => .inr ⟨72, (Option.some.inj hk) ▸ ⟨_, HGN.out⟩, (Option.some.inj hk) ▸ ?_, .inr rfl⟩))⟩
                  · have h3 := HB1.out.map.move (hsg.2.block _ HB1.out.map.lt (fun e => by obtain ⟨es', clock, hM⟩ := HB1.out.map.is; exact cells_ne_map HGN.out hM (Option.some.inj e).symm))
                    have e : (st1.shut st.ns.length ⟨isEnd l, es⟩).ns.length = st1.ns.length := by simp [Bld.shut]
                    rw [e]
                    exact h3
                  · exact HGB.out
                | cons s1 t1 =>
                  simp only [edges] at hE
                  by_cases hsz : s1.size ≤ 1000000 ∧ 0 < s1.size ∧ es.length ≤ 1000000 ∧ (s1 :: t1).length ≤ 1000000
                  case neg => rw [if_neg hsz] at hE; cases hE
                  rw [if_pos hsz] at hE
                  obtain ⟨⟨m, st2⟩, hN, hE2⟩ := Option.bind_eq_some_iff.1 hE
                  have HSZ := Aside0.mk hsz
                  have HDW := Aside0.mk (show 1 ≤ (Utf8.decode s1 0).2 ∧ (Utf8.decode s1 0).2 ≤ s1.size from ⟨decode_pos s1 0 hsz.2.1, by have := decode_le_size s1 0 hsz.2.1; omega⟩)
                  have HFI := Aside0.mk (show graph_first.f s1 = some (((Utf8.decode s1 0).1 : Int), ((Utf8.decode s1 0).2 : Int)) from by unfold graph_first.f; rw [if_pos (by omega), if_neg (by omega)])
                  have HNO := Aside0.mk hN
                  have HED := Aside0.mk hE2
                  clear hE hN hE2 hsz
                  dsimp only at HED
                  generalize (Utf8.decode s1 0).1 = rn at HFI HED
                  generalize hwd : (Utf8.decode s1 0).2 = wd at HDW HFI HNO HED
                  clear hwd
                  obtain ⟨bk1, o1, eA1, hbk1, hcell1⟩ := row_flat (HC1.out wr HK.out) (by simp)
                  subst eA1
                  have hs1 : wr.cell? ⟨bk1, o1, none⟩ = some (.string s1) := by have := hcell1 0 s1 rfl; rwa [Nat.add_zero] at this
                  have hlen1 : (s1 :: t1).length = t1.length + 1 := rfl
                  clear hcell1 hbk1
                  go_upto_region 14 with ((with_reducible refine gate_callee (f := 51) rfl ?_); (try (refine gate_guard (by rfl) ?_; dsimp only)); refine goesL_ (some 77) rfl rfl Try.func51 (by kernel_rfl) rfl #[.string s1] rfl (by (try simp only [List.map_toArray, List.map_cons, List.map_nil]); first | done | rfl) ?_; (with_reducible refine (graph_first.calls s1 (rn : Int) (wd : Int) _ HFI.out).mono ?_); rintro e w5 ⟨rfl, hb⟩; refine ⟨_, rfl, ?_⟩; have HB5 := Aside0.mk (HB1.out.below hb); have HK5 := Aside0.mk (NodeKept.of_below (B := B) (mB := mB) hb); have HO5 := Aside0.mk (Kd.R_below HO.out hb); clear hb)
                  have HC5 := HC1
                  clear hs1
                  obtain ⟨G, hG⟩ : ∃ G, G = grp (s1.extract 0 wd) wd (s1 :: t1) := ⟨_, rfl⟩
                  rw [← hG] at HNO HED
                  have HGG := Aside0.mk hG
                  have HGL := Aside0.mk (show G.length ≤ t1.length + 1 from by rw [hG]; exact grp_le _ _ _)
                  clear hG
                  have HLL := Aside0.mk (show t1.length + 1 ≤ 1000000 from HSZ.out.2.2.2)
                  have HTL := Aside0.mk (show t1.length + 1 ≤ 9223372036854775807 from (HC5.out w5 (HK.out.trans HK5.out)).2.1)
                  go_wp2_with fail
                  go_loopg [13, 14] G.length (fun kq v13 v14 W => ∃ j : Nat, v13 = .int .i64 j ∧ Aside0 (j + kq = G.length) ∧ Aside0 (Kd.R Kd.string 9 W w5.heap.size (fun _ => True) v14 (G.take j)) ∧ Aside0 (Below w5.heap.size w5 W))
                  case atStart => exact ⟨0, rfl, ⟨by omega⟩, ⟨by rw [List.take_zero]; exact Kd.R_nil _ _ _ _ _⟩, ⟨Below.refl _ _⟩⟩
                  case round =>
                    obtain ⟨j, rfl, HJK, HR6, HB6⟩ := hrel
                    have HK6 := Aside0.mk (NodeKept.of_below (B := B) (mB := mB) HB6.out)
                    obtain ⟨bk2, o2, eA2, _, hcell2⟩ := row_flat (HC5.out wr (HK.out.trans (HK5.out.trans HK6.out))) (by simp)
                    obtain ⟨rfl, rfl⟩ : bk1 = bk2 ∧ o1 = o2 := by
                      injection eA2 with eA2
                      injection eA2 with h1 h2
                      exact ⟨h1, h2⟩
                    clear eA2
                    have hs1 : wr.cell? ⟨bk1, o1, none⟩ = some (.string s1) := by have := hcell2 0 s1 rfl; rwa [Nat.add_zero] at this
                    have hw1 := HDW.out.1
                    have hw2 := HDW.out.2
                    have hmx : s1.size ≤ 1000000 := HSZ.out.1
                    have htl := HTL.out
                    cases gk with
                    | succ q =>
                      obtain ⟨x, hx1, hx2, hx3⟩ := grp_at (s1.extract 0 wd) wd (s1 :: t1) j (by rw [← HGG.out]; have := HJK.out; omega)
                      have hxc := hcell2 j x hx1
                      have HX := Aside0.mk (show Lib.hasPrefix x.data.toList (s1.extract 0 wd).data.toList = true ∧ G[j]? = some (cut x wd) from ⟨hx2, by rw [HGG.out]; exact hx3⟩)
                      clear hcell2 hx1 hx2 hx3
                      have hjl : j < t1.length + 1 := by have := HJK.out; have := HGL.out; omega
                      have hji : decide ((j : Int) < (t1.length : Int) + 1) = true := decide_eq_true (by omega)
                      have hq : ∀ W : World, Calls Try.prog 52 #[.string x, .string (s1.extract 0 wd)] W fun e w' => e = .returned (.bool true) ∧ w' = W := fun W => (Try.strings_HasPrefix x (s1.extract 0 wd) W).mono fun e w' ⟨h1, h2⟩ => ⟨by rw [h1, HX.out.1], h2⟩
                      have HQ := Aside0.mk hq
                      clear hq
                      have hxs : wd ≤ x.size := by
                        have h1 := (List.isPrefixOf_iff_prefix.1 HX.out.1).length_le
                        rw [head_data, List.length_take, ← size_list, ← size_list] at h1
                        omega
                      have hjg : j < G.length := by have := HJK.out; omega
                      have HGT := Aside0.mk (show G.take j ++ [cut x wd] = G.take (j + 1) from by rw [List.take_add_one, HX.out.2]; rfl)
                      have hgj : (G.take j).length = j := by rw [List.length_take]; omega
                      have HGJ := Aside0.mk hgj
                      have hgl : j ≤ 100000000 := by have := HGL.out; have := HLL.out; omega
                      clear hgj
                      go_upto_region 16 with fail
                      go_quiet ((go_at_call 52; exact Calls.quiet_of_same (HQ.out _)))
                      go_wp2_with ((with_reducible refine gate_builtin (b := .append) (xs := #[.tmp 96, .tmp 103]) rfl ?_); at_builtin; refine Kd.R_append Kd.string (w0 := wr.drewN nq) w5.heap.size rfl (.tmp 96) (.tmp 103) 22 9 (.string ⟨#[]⟩) 16 rfl Try.underlying22 info9 rfl (by decide) (by omega) u14 (G.take j) (cut x wd) [.string (cut x wd)] (fun _ => True) (fun _ => False) rfl rfl ?aP (fun _ hk => hk.elim) (fun _ _ => trivial) (Kd.R_drewN HR6.out _) (Below.refl _ _) HB6.out.size (by rw [HGJ.out]; omega) ?_; (case aP => exact rfl); intro v8 w8 ho hb hg hat; rw [HGT.out] at ho; have HR8 := Aside0.mk ho; have HB8 := Aside0.mk ((pw_below_drewN HB6.out nq).grown hg HB6.out.size (fun kk hk => by obtain ⟨inner, hown⟩ := Kd.R_own HR6.out; exact own_base hown kk hk)); clear ho hb hg hat)
                      go_roundg q
                      case measure => omega
                      case rel => exact ⟨j + 1, by go_num, ⟨by have := HJK.out; omega⟩, HR8, HB8⟩
                    | zero =>
                      have hj := HJK.out
                      obtain rfl : j = G.length := by omega
                      clear hj HJK
                      have hr6 := HR6.out
                      rw [List.take_length] at hr6
                      have HR6' := Aside0.mk hr6
                      clear hr6 HR6
                      go_upto_region 16 with fail
                      by_cases hjL : G.length < t1.length + 1
                      · obtain ⟨x, hx1⟩ : ∃ x, (s1 :: t1)[G.length]? = some x := ⟨_, List.getElem?_eq_getElem (by simpa using hjL)⟩
                        have hxc := hcell2 G.length x hx1
                        have HX := Aside0.mk (show Lib.hasPrefix x.data.toList (s1.extract 0 wd).data.toList = false from grp_stop _ wd (s1 :: t1) x (by rw [← HGG.out]; exact hx1))
                        clear hcell2 hx1
                        have hji : decide ((G.length : Int) < (t1.length : Int) + 1) = true := decide_eq_true (by omega)
                        have hq : ∀ W : World, Calls Try.prog 52 #[.string x, .string (s1.extract 0 wd)] W fun e w' => e = .returned (.bool false) ∧ w' = W := fun W => (Try.strings_HasPrefix x (s1.extract 0 wd) W).mono fun e w' ⟨h1, h2⟩ => ⟨by rw [h1, HX.out], h2⟩
                        have HQ := Aside0.mk hq
                        clear hq
                        go_quiet ((go_at_call 52; exact Calls.quiet_of_same (HQ.out _)))
                        clear HQ HX hji hxc
                        go_upto_region 19 with fail
                        have HR7 := Aside0.mk (Kd.R_drewN HR6'.out nq)
                        have HB7 := Aside0.mk (pw_below_drewN HB6.out nq)
                        clear HR6' HB6 HK6 hs1
                        generalize wr.drewN nq = w7 at HR7 HB7 ⊢
                        have HK7 := Aside0.mk (NodeKept.of_below (B := B) (mB := mB) HB7.out)
                        have HB8 := Aside0.mk (HB5.out.below HB7.out)
                        have HO7 := Aside0.mk (Kd.R_below HO5.out HB7.out)
                        obtain ⟨A', h1, h2, h3⟩ := cut_rests (some ⟨bk1, o1, none⟩) c1 (s1 :: t1) G.length (by have := HGL.out; simpa using this) HL1.out
                        replace h1 : ∀ W : World, (Instr.slice 22 (.slice (some ⟨bk1, o1, none⟩) (t1.length + 1) c1) (some (.int .i64 (G.length : Int))) none none).run Try.prog W = .ok (.slice A' ((s1 :: t1).drop G.length).length (c1 - G.length)) W := h1
                        have H2 := Aside0.mk h2
                        have H3 := Aside0.mk h3
                        clear h2 h3
                        obtain ⟨Ag, cg, eg⟩ := Kd.R_slice HR7.out
                        subst eg
                        have HU10 := Aside0.mk (show ∀ k, u10.ownBlock = some k → k < w7.heap.size from fun k hk => by obtain ⟨inner, hown⟩ := Kd.R_own HO7.out; exact own_lt hown k hk)
                        have HGC := Aside0.mk (show (∀ W', NodeKept B mB w7 W' → Kd.C Kd.string W' Ag G.length G) ∧ G.length ≤ cg from ⟨fun W' hk => (Kd.R_reads' (hk.row HB8.out.map.is HR7.out (by decide))).2.2, (Kd.R_reads' HR7.out).2.1⟩)
                        go_wp2_with (first | ((with_reducible refine gate_callee (f := 34) rfl ?_); (try (refine gate_guard (by rfl) ?_; dsimp only)); refine goesL_ (some 114) rfl rfl Try.func34 (by kernel_rfl) rfl #[.pointer (some ⟨b, 0, none⟩), .slice Ag G.length cg] rfl (by (try simp only [List.map_toArray, List.map_cons, List.map_nil]); first | done | rfl) ?_; (with_reducible refine (IH.out ko (by have := HKF.out; omega) G st1 st2 m Ag cg _ w7 HNO.out HB8.out HGC.out.1 HGC.out.2).mono ?_); rintro e w8 ⟨rfl, hb, hk⟩; refine ⟨_, rfl, ?_⟩; have HB9 := Aside0.mk hb; have HK9 := Aside0.mk hk; have HO9 := Aside0.mk (hk.row HB8.out.map.is HO7.out (by decide)); clear hb hk) | ((with_reducible refine gate_builtin (b := .append) (xs := #[.tmp 110, .tmp 116]) rfl ?_); at_builtin; refine Kd.R_append k91 (w0 := w8) w.heap.size rfl (.tmp 110) (.tmp 116) 70 91 (.agg #[(.int .i32 0), (.int .i64 0)]) 16 rfl Try.underlying70 info91 rfl (by decide) (by omega) u10 es (⟨(rn : Int), m⟩ : S91) [.int .i32 (rn : Int), .int .i64 m] (fun _ => True) (fun _ => False) rfl rfl ?bP (fun _ hk => hk.elim) (fun _ _ => trivial) HO9.out (Below.refl _ _) ?bS (by have := HSZ.out.2.2.1; omega) ?_; (case bP => exact k91_mkM _ _ _ (⟨(rn : Int), m⟩ : S91)); (case bS => exact Nat.le_trans HK.out.size (Nat.le_trans HK5.out.size (Nat.le_trans HK7.out.size HK9.out.size))); intro v9 w9 ho hb hg hat; have HO10 := Aside0.mk ho; have HG10 := Aside0.mk hg; have HAT := Aside0.mk hat; clear ho hb hg hat))
                        go_roundg ko
                        case measure => omega
                        case rel => exact ⟨(s1 :: t1).drop G.length, es ++ [(⟨(rn : Int), m⟩ : S91)], st2, A', c1 - G.length, by rw [List.length_drop]; rfl, HED, ⟨by have := HKF.out; omega⟩, H3, ⟨fun W' hk => H2.out W' (HC5.out W' hk)⟩, HO10, ⟨(HB9.out.edged HO9.out HG10.out (fun k hk => by
                          rcases hk with hk | hk
                          · exact hk.2
                          · intro e; have := HU10.out k e.symm; omega)).mono (fun k hk hlt => ⟨by
                            rcases hk.1 with hk' | hk'
                            · exact hk'.1
                            · exact .inr (Nat.le_trans HK.out.size (Nat.le_trans HK5.out.size (Nat.le_trans HK7.out.size hk'))), by
                            rcases HAT.out with e | ⟨bb, e, hle⟩
                            · rw [e]; exact hk.2.1
                            · rw [e]; intro e2; have := hk.2.2; injection e2 with e2; omega⟩)⟩, ⟨(HK.out.trans (HK5.out.trans (HK7.out.trans HK9.out))).edged HO9.out HG10.out⟩⟩
                      · clear hcell2
                        have hji : decide ((G.length : Int) < (t1.length : Int) + 1) = false := decide_eq_false (by omega)
                        go_quiet (fail)
                        clear hji
                        go_upto_region 19 with fail
                        have HR7 := Aside0.mk (Kd.R_drewN HR6'.out nq)
                        have HB7 := Aside0.mk (pw_below_drewN HB6.out nq)
                        clear HR6' HB6 HK6 hs1
                        generalize wr.drewN nq = w7 at HR7 HB7 ⊢
                        have HK7 := Aside0.mk (NodeKept.of_below (B := B) (mB := mB) HB7.out)
                        have HB8 := Aside0.mk (HB5.out.below HB7.out)
                        have HO7 := Aside0.mk (Kd.R_below HO5.out HB7.out)
                        obtain ⟨A', h1, h2, h3⟩ := cut_rests (some ⟨bk1, o1, none⟩) c1 (s1 :: t1) G.length (by have := HGL.out; simpa using this) HL1.out
                        replace h1 : ∀ W : World, (Instr.slice 22 (.slice (some ⟨bk1, o1, none⟩) (t1.length + 1) c1) (some (.int .i64 (G.length : Int))) none none).run Try.prog W = .ok (.slice A' ((s1 :: t1).drop G.length).length (c1 - G.length)) W := h1
                        have H2 := Aside0.mk h2
                        have H3 := Aside0.mk h3
                        clear h2 h3
                        obtain ⟨Ag, cg, eg⟩ := Kd.R_slice HR7.out
                        subst eg
                        have HU10 := Aside0.mk (show ∀ k, u10.ownBlock = some k → k < w7.heap.size from fun k hk => by obtain ⟨inner, hown⟩ := Kd.R_own HO7.out; exact own_lt hown k hk)
                        have HGC := Aside0.mk (show (∀ W', NodeKept B mB w7 W' → Kd.C Kd.string W' Ag G.length G) ∧ G.length ≤ cg from ⟨fun W' hk => (Kd.R_reads' (hk.row HB8.out.map.is HR7.out (by decide))).2.2, (Kd.R_reads' HR7.out).2.1⟩)
                        go_wp2_with (first | ((with_reducible refine gate_callee (f := 34) rfl ?_); (try (refine gate_guard (by rfl) ?_; dsimp only)); refine goesL_ (some 114) rfl rfl Try.func34 (by kernel_rfl) rfl #[.pointer (some ⟨b, 0, none⟩), .slice Ag G.length cg] rfl (by (try simp only [List.map_toArray, List.map_cons, List.map_nil]); first | done | rfl) ?_; (with_reducible refine (IH.out ko (by have := HKF.out; omega) G st1 st2 m Ag cg _ w7 HNO.out HB8.out HGC.out.1 HGC.out.2).mono ?_); rintro e w8 ⟨rfl, hb, hk⟩; refine ⟨_, rfl, ?_⟩; have HB9 := Aside0.mk hb; have HK9 := Aside0.mk hk; have HO9 := Aside0.mk (hk.row HB8.out.map.is HO7.out (by decide)); clear hb hk) | ((with_reducible refine gate_builtin (b := .append) (xs := #[.tmp 110, .tmp 116]) rfl ?_); at_builtin; refine Kd.R_append k91 (w0 := w8) w.heap.size rfl (.tmp 110) (.tmp 116) 70 91 (.agg #[(.int .i32 0), (.int .i64 0)]) 16 rfl Try.underlying70 info91 rfl (by decide) (by omega) u10 es (⟨(rn : Int), m⟩ : S91) [.int .i32 (rn : Int), .int .i64 m] (fun _ => True) (fun _ => False) rfl rfl ?bP (fun _ hk => hk.elim) (fun _ _ => trivial) HO9.out (Below.refl _ _) ?bS (by have := HSZ.out.2.2.1; omega) ?_; (case bP => exact k91_mkM _ _ _ (⟨(rn : Int), m⟩ : S91)); (case bS => exact Nat.le_trans HK.out.size (Nat.le_trans HK5.out.size (Nat.le_trans HK7.out.size HK9.out.size))); intro v9 w9 ho hb hg hat; have HO10 := Aside0.mk ho; have HG10 := Aside0.mk hg; have HAT := Aside0.mk hat; clear ho hb hg hat))
                        go_roundg ko
                        case measure => omega
                        case rel => exact ⟨(s1 :: t1).drop G.length, es ++ [(⟨(rn : Int), m⟩ : S91)], st2, A', c1 - G.length, by rw [List.length_drop]; rfl, HED, ⟨by have := HKF.out; omega⟩, H3, ⟨fun W' hk => H2.out W' (HC5.out W' hk)⟩, HO10, ⟨(HB9.out.edged HO9.out HG10.out (fun k hk => by
                          rcases hk with hk | hk
                          · exact hk.2
                          · intro e; have := HU10.out k e.symm; omega)).mono (fun k hk hlt => ⟨by
                            rcases hk.1 with hk' | hk'
                            · exact hk'.1
                            · exact .inr (Nat.le_trans HK.out.size (Nat.le_trans HK5.out.size (Nat.le_trans HK7.out.size hk'))), by
                            rcases HAT.out with e | ⟨bb, e, hle⟩
                            · rw [e]; exact hk.2.1
                            · rw [e]; intro e2; have := hk.2.2; injection e2 with e2; omega⟩)⟩, ⟨(HK.out.trans (HK5.out.trans (HK7.out.trans HK9.out))).edged HO9.out HG10.out⟩⟩
end Go.Proofs.Ytklidannncajiaa.OW

namespace Go.Proofs.Ytklidannncajiaa.OW
open Go.RowKit

def bytesOf_ (l : List ByteArray) : Nat := (l.map ByteArray.size).sum
/-- Rests of a node: clean texts, in order, at least one. -/
structure GoodL (l : List ByteArray) : Prop where
  ne : l ≠ []
  clean : ∀ s ∈ l, Clean s
  sorted : l.Pairwise ltB
/-- Rests that begin with runes. -/
structure GoodR (l : List ByteArray) : Prop where
  clean : ∀ s ∈ l, Clean s ∧ 0 < s.size
  sorted : l.Pairwise ltB
theorem restsOf_good {l : List ByteArray} (h : GoodL l) : GoodR (restsOf l) := by
  cases l with
  | nil => exact absurd rfl h.ne
  | cons s t =>
    have hs := List.pairwise_cons.1 h.sorted
    unfold restsOf isEnd
    by_cases he : s = ⟨#[]⟩
    · simp only [he, decide_true, if_true, List.drop_one, List.tail_cons]
      exact ⟨fun x hx => ⟨h.clean x (List.mem_cons_of_mem _ hx), (hs.1 x hx).ne_empty⟩, hs.2⟩
    · simp only [he, decide_false, Bool.false_eq_true, if_false]
      refine ⟨fun x hx => ⟨h.clean x hx, ?_⟩, h.sorted⟩
      rcases List.mem_cons.1 hx with rfl | hx
      · rcases Nat.eq_zero_or_pos x.size with h0 | h0
        · exfalso
          apply he
          apply bytes_ext
          rw [size_list] at h0
          rw [List.length_eq_zero_iff.1 h0]
        · exact h0
      · exact (hs.1 x hx).ne_empty
theorem restsOf_bytes (l : List ByteArray) : bytesOf_ (restsOf l) = bytesOf_ l := by
  cases l with
  | nil => rfl
  | cons s t =>
    unfold restsOf isEnd
    by_cases he : s = ⟨#[]⟩
    · simp only [he, decide_true, if_true, List.drop_one, List.tail_cons]
      simp [bytesOf_, ByteArray.size]
    · simp only [he, decide_false, Bool.false_eq_true, if_false]
theorem restsOf_len (l : List ByteArray) : (restsOf l).length ≤ l.length := by
  unfold restsOf
  split
  · rw [List.length_drop]; omega
  · exact Nat.le_refl _
/-- The first rune's bytes of a text. -/
def hd (s : ByteArray) : ByteArray := s.extract 0 (Utf8.decode s 0).2
def wd (s : ByteArray) : Nat := (Utf8.decode s 0).2
theorem prefix_self (s : ByteArray) : Lib.hasPrefix s.data.toList (hd s).data.toList = true := by
  unfold hd Lib.hasPrefix
  rw [head_data]
  exact List.isPrefixOf_iff_prefix.2 (List.take_prefix _ _)
/-- Behind its first rune a text that begins with s's goes on as its cut. -/
theorem prefix_cut {s x : ByteArray} (h0 : 0 < s.size) (h : Lib.hasPrefix x.data.toList (hd s).data.toList = true) : x.data.toList = (hd s).data.toList ++ (cut x (wd s)).data.toList ∧ wd s ≤ x.size := by
  obtain ⟨t, ht⟩ := List.isPrefixOf_iff_prefix.1 h
  have hl : (hd s).data.toList.length = wd s := by
    unfold hd
    rw [head_data, List.length_take, ← size_list]
    have := decode_le_size s 0 h0
    unfold wd
    omega
  rw [cut_data, ← ht, ← hl, List.drop_left]
  refine ⟨rfl, ?_⟩
  rw [size_list, ← ht, List.length_append]
  omega
theorem grp_cons (s : ByteArray) (t : List ByteArray) : grp (hd s) (wd s) (s :: t) = cut s (wd s) :: grp (hd s) (wd s) t := by
  conv => lhs; unfold grp
  rw [if_pos (prefix_self s)]
theorem grp_mem {p : ByteArray} {n : Nat} : ∀ {l : List ByteArray} {c : ByteArray}, c ∈ grp p n l → ∃ x ∈ l, Lib.hasPrefix x.data.toList p.data.toList = true ∧ c = cut x n
  | [], _, h => by simp [grp] at h
  | s :: t, c, h => by
    unfold grp at h
    by_cases hp : Lib.hasPrefix s.data.toList p.data.toList = true
    · rw [if_pos hp] at h
      rcases List.mem_cons.1 h with rfl | h
      · exact ⟨s, List.mem_cons_self, hp, rfl⟩
      · obtain ⟨x, hx, h1, h2⟩ := grp_mem h
        exact ⟨x, List.mem_cons_of_mem _ hx, h1, h2⟩
    · rw [if_neg hp] at h; cases h
theorem grp_sorted {s : ByteArray} (h0 : 0 < s.size) : ∀ {l : List ByteArray}, l.Pairwise ltB → (grp (hd s) (wd s) l).Pairwise ltB
  | [], _ => List.Pairwise.nil
  | x :: t, h => by
    unfold grp
    by_cases hp : Lib.hasPrefix x.data.toList (hd s).data.toList = true
    · rw [if_pos hp]
      have hs := List.pairwise_cons.1 h
      refine List.pairwise_cons.2 ⟨fun c hc => ?_, grp_sorted h0 hs.2⟩
      obtain ⟨y, hy, h1, rfl⟩ := grp_mem hc
      have := hs.1 y hy
      unfold ltB at this ⊢
      rw [(prefix_cut h0 hp).1, (prefix_cut h0 h1).1, cmp_app] at this
      exact this
    · rw [if_neg hp]; exact List.Pairwise.nil
theorem grp_bytes {s : ByteArray} (h0 : 0 < s.size) : ∀ l : List ByteArray, bytesOf_ (grp (hd s) (wd s) l) + (grp (hd s) (wd s) l).length + bytesOf_ (l.drop (grp (hd s) (wd s) l).length) ≤ bytesOf_ l
  | [] => by simp [grp, bytesOf_]
  | x :: t => by
    unfold grp
    by_cases hp : Lib.hasPrefix x.data.toList (hd s).data.toList = true
    · rw [if_pos hp]
      have ih := grp_bytes h0 t
      have h1 := (prefix_cut h0 hp).2
      have h2 : 1 ≤ wd s := decode_pos s 0 h0
      simp only [bytesOf_, List.map_cons, List.sum_cons, List.length_cons, List.drop_succ_cons, cut_size] at ih ⊢
      omega
    · rw [if_neg hp]; simp [bytesOf_]
theorem grp_good {s : ByteArray} {t : List ByteArray} (h : GoodR (s :: t)) : GoodL (grp (hd s) (wd s) (s :: t)) := by
  have hs := h.clean s List.mem_cons_self
  refine ⟨by rw [grp_cons]; simp, fun c hc => ?_, grp_sorted hs.2 h.sorted⟩
  obtain ⟨x, hx, h1, rfl⟩ := grp_mem hc
  have hc' := h.clean x hx
  have hd' := decode_prefix s x hs.2 (hs.1.first_ hs.2) h1
  have := hc'.1.cut_ hc'.2
  rw [hd'] at this
  exact this
theorem drop_good {l : List ByteArray} (h : GoodR l) (n : Nat) : GoodR (l.drop n) := ⟨fun s hs => h.clean s (List.mem_of_mem_drop hs), h.sorted.sublist (List.drop_sublist _ _)⟩
/-- The texts of a group are its cuts behind the rune. -/
theorem grp_take {s : ByteArray} (h0 : 0 < s.size) : ∀ l : List ByteArray, l.take (grp (hd s) (wd s) l).length = (grp (hd s) (wd s) l).map (fun c => hd s ++ c)
  | [] => by simp [grp]
  | x :: t => by
    unfold grp
    by_cases hp : Lib.hasPrefix x.data.toList (hd s).data.toList = true
    · rw [if_pos hp]
      simp only [List.length_cons, List.take_succ_cons, List.map_cons]
      rw [grp_take h0 t]
      congr 1
      apply bytes_ext
      have := (prefix_cut h0 hp).1
      simpa using this
    · rw [if_neg hp]; simp
theorem hd_encode {s : ByteArray} (h : Clean s) (h0 : 0 < s.size) : hd s = Utf8.encode ((Utf8.decode s 0).1 : Int) := by
  have h1 := encode_first s h0 (h.first_ h0)
  have h2 := encode_size s h0 (h.first_ h0)
  apply bytes_ext
  unfold hd
  rw [head_data]
  have h3 := congrArg (fun s : ByteArray => s.data.toList) h1
  have h4 : (Utf8.encode ((Utf8.decode s 0).1 : Int)).data.toList ++ (cut s (Utf8.decode s 0).2).data.toList = s.data.toList := by simpa using h3
  rw [← h4, List.take_append_of_le_length (by rw [← size_list, h2]; exact Nat.le_refl _), List.take_of_length_le (by rw [← size_list, h2]; exact Nat.le_refl _)]
/-! ### what a node stands for -/
mutual
def Rep : Nat → List S72 → Int → List ByteArray → Prop
  | 0, _, _, _ => False
  | f + 1, ns, n, l => 0 ≤ n ∧ ∃ x, ns[n.toNat]? = some x ∧ x.f0 = isEnd l ∧ RepE f ns x.f1 (restsOf l)
def RepE : Nat → List S72 → List S91 → List ByteArray → Prop
  | 0, _, _, _ => False
  | f + 1, ns, es, l => match es, l with
    | [], [] => True
    | e :: es, s :: t => e.f0 = ((Utf8.decode s 0).1 : Int) ∧ Rep f ns e.f1 (grp (hd s) (wd s) (s :: t)) ∧ RepE f ns es ((s :: t).drop (grp (hd s) (wd s) (s :: t)).length)
    | _, _ => False
end
theorem rep_mono : ∀ f, (∀ ns n l, Rep f ns n l → Rep (f + 1) ns n l) ∧ (∀ ns es l, RepE f ns es l → RepE (f + 1) ns es l)
  | 0 => ⟨fun _ _ _ h => by simp [Rep] at h, fun _ _ _ h => by simp [RepE] at h⟩
  | f + 1 => by
    obtain ⟨h1, h2⟩ := rep_mono f
    refine ⟨fun ns n l h => ?_, fun ns es l h => ?_⟩
    · unfold Rep at h ⊢
      obtain ⟨h0, x, hx, hf, he⟩ := h
      exact ⟨h0, x, hx, hf, h2 _ _ _ he⟩
    · unfold RepE at h ⊢
      cases es with
      | nil => cases l with
        | nil => trivial
        | cons _ _ => exact h
      | cons e es => cases l with
        | nil => exact h
        | cons s t => exact ⟨h.1, h1 _ _ _ h.2.1, h2 _ _ _ h.2.2⟩
theorem rep_up {f f' : Nat} (hf : f ≤ f') {ns : List S72} : (∀ {n l}, Rep f ns n l → Rep f' ns n l) ∧ (∀ {es l}, RepE f ns es l → RepE f' ns es l) := by
  induction hf with
  | refl => exact ⟨fun h => h, fun h => h⟩
  | step _ ih => exact ⟨fun h => (rep_mono _).1 _ _ _ (ih.1 h), fun h => (rep_mono _).2 _ _ _ (ih.2 h)⟩
/-- Nodes that were whole stay as they are. -/
def Ext (ns ns' : List S72) : Prop := ∀ (i : Nat) x, ns[i]? = some x → ∃ x', ns'[i]? = some x' ∧ (x' = x ∨ x = z72)
theorem Ext.refl (ns : List S72) : Ext ns ns := fun _ x h => ⟨x, h, .inl rfl⟩
theorem Ext.trans {a b c : List S72} (h : Ext a b) (k : Ext b c) : Ext a c := fun i x hx => by
  obtain ⟨y, hy, e⟩ := h i x hx
  obtain ⟨z, hz, e'⟩ := k i y hy
  refine ⟨z, hz, ?_⟩
  rcases e with rfl | e
  · exact e'
  · exact .inr e
theorem Ext.len {a b : List S72} (h : Ext a b) : a.length ≤ b.length := by
  rcases Nat.lt_or_ge b.length a.length with hl | hl
  · obtain ⟨y, hy, _⟩ := h b.length a[b.length] (List.getElem?_eq_getElem hl)
    have := (List.getElem?_eq_some_iff.1 hy).1
    omega
  · exact hl
theorem rep_ext : ∀ f, (∀ ns ns' n l, l ≠ [] → Rep f ns n l → Ext ns ns' → Rep f ns' n l) ∧ (∀ ns ns' es l, RepE f ns es l → Ext ns ns' → RepE f ns' es l)
  | 0 => ⟨fun _ _ _ _ _ h => by simp [Rep] at h, fun _ _ _ _ h => by simp [RepE] at h⟩
  | f + 1 => by
    obtain ⟨h1, h2⟩ := rep_ext f
    refine ⟨fun ns ns' n l hl h he => ?_, fun ns ns' es l h he => ?_⟩
    · unfold Rep at h ⊢
      obtain ⟨h0, x, hx, hf, hE⟩ := h
      obtain ⟨x', hx', e⟩ := he _ x hx
      have hne : x ≠ z72 := by
        rintro rfl
        have hf' : isEnd l = false := hf.symm
        have : restsOf l = l := by unfold restsOf; rw [if_neg (by rw [hf']; simp)]
        rw [this] at hE
        cases l with
        | nil => exact hl rfl
        | cons s t =>
          cases f with
          | zero => simp [RepE] at hE
          | succ f => simp [RepE, z72] at hE
      rcases e with rfl | e
      · exact ⟨h0, x', hx', hf, h2 _ _ _ _ hE he⟩
      · exact absurd e hne
    · unfold RepE at h ⊢
      cases es with
      | nil => cases l with
        | nil => trivial
        | cons _ _ => exact h
      | cons e es => cases l with
        | nil => exact h
        | cons s t => exact ⟨h.1, h1 _ _ _ _ (by rw [grp_cons]; simp) h.2.1 he, h2 _ _ _ _ h.2.2 he⟩
/-- Each text's key that is found tells a node that is whole, or one that is not yet (of B bytes or more). -/
def Inv (B : Nat) (st : Bld) : Prop := ∀ key n, st.F key = some n → ∃ l, GoodL l ∧ restsKey l = key ∧ ((∃ f, Rep f st.ns n l) ∨ B ≤ bytesOf_ l)
def Pre (ns ns' : List S72) : Prop := ∀ (i : Nat) x, ns[i]? = some x → ns'[i]? = some x
theorem Pre.ext {ns ns' : List S72} (h : Pre ns ns') : Ext ns ns' := fun i x hx => ⟨x, h i x hx, .inl rfl⟩
theorem Pre.trans {a b c : List S72} (h : Pre a b) (k : Pre b c) : Pre a c := fun i x hx => k i x (h i x hx)
def More (st st' : Bld) : Prop := ∀ key n, st'.F key = some n → st.F key = some n ∨ ∃ l, GoodL l ∧ restsKey l = key ∧ ∃ f, Rep f st'.ns n l
theorem More.trans {a b c : Bld} (h : More a b) (k : More b c) (he : Ext b.ns c.ns) : More a c := fun key n hn => by
  rcases k key n hn with h1 | h1
  · rcases h key n h1 with h2 | ⟨l, h2, h3, f, h4⟩
    · exact .inl h2
    · exact .inr ⟨l, h2, h3, f, (rep_ext f).1 _ _ _ _ h2.ne h4 he⟩
  · exact .inr h1
theorem Inv.more {B : Nat} {st st' : Bld} (h : Inv B st) (hm : More st st') (he : Ext st.ns st'.ns) : Inv B st' := fun key n hn => by
  rcases hm key n hn with h1 | ⟨l, h2, h3, h4⟩
  · obtain ⟨l, h2, h3, h4⟩ := h key n h1
    refine ⟨l, h2, h3, ?_⟩
    rcases h4 with ⟨f, h4⟩ | h4
    · exact .inl ⟨f, (rep_ext f).1 _ _ _ _ h2.ne h4 he⟩
    · exact .inr h4
  · exact ⟨l, h2, h3, .inl h4⟩
theorem join_len (l : List ByteArray) : (Lib.join (l.map (·.data.toList)) [255]).length ≤ bytesOf_ l + l.length := by
  rw [join_eq]
  have h := joinR_len (l.map (·.data.toList))
  have e : ((l.map (·.data.toList)).map List.length).sum = bytesOf_ l := by
    unfold bytesOf_
    rw [List.map_map]
    congr 1
  rw [e, List.length_map] at h
  exact h
theorem size_le_bytes {s : ByteArray} : ∀ {l : List ByteArray}, s ∈ l → s.size ≤ bytesOf_ l
  | x :: t, h => by
    unfold bytesOf_
    simp only [List.map_cons, List.sum_cons]
    rcases List.mem_cons.1 h with rfl | h
    · omega
    · have := size_le_bytes h
      unfold bytesOf_ at this
      omega
theorem node_spec : ∀ f : Nat,
    (∀ (l : List ByteArray) (st : Bld) (B : Nat), GoodL l → Inv B st → bytesOf_ l < B → 2 * bytesOf_ l + l.length + 2 ≤ f → bytesOf_ l + l.length ≤ 500000 → st.ns.length + bytesOf_ l ≤ 900000 →
      ∃ r st', node f l st = some (r, st') ∧ Pre st.ns st'.ns ∧ (∃ f', Rep f' st'.ns r l) ∧ More st st' ∧ st'.ns.length ≤ st.ns.length + bytesOf_ l + 1) ∧
    (∀ (l : List ByteArray) (es : List S91) (st : Bld) (B : Nat), GoodR l → Inv B st → bytesOf_ l ≤ B → 2 * bytesOf_ l + l.length + 1 ≤ f → bytesOf_ l + l.length ≤ 500000 → es.length + l.length ≤ 900000 → st.ns.length + bytesOf_ l ≤ 900001 →
      ∃ es2 st', edges f l es st = some (es ++ es2, st') ∧ Pre st.ns st'.ns ∧ (∃ f', RepE f' st'.ns es2 l) ∧ More st st' ∧ st'.ns.length ≤ st.ns.length + bytesOf_ l) := by
  intro f
  induction f with
  | zero => exact ⟨fun l st B _ _ _ h => by omega, fun l es st B _ _ _ h => by omega⟩
  | succ f ih =>
    obtain ⟨ih1, ih2⟩ := ih
    refine ⟨fun l st B hl hi hb hf hz hn => ?_, fun l es st B hl hi hb hf hz he hn => ?_⟩
    · have hj := join_len l
      have hcond : l ≠ [] ∧ (Lib.join (l.map (·.data.toList)) [255]).length ≤ 1000000 ∧ st.ns.length ≤ 1000000 ∧ l.length ≤ 1000000 := ⟨hl.ne, by omega, by omega, by omega⟩
      simp only [node]
      rw [if_pos hcond]
      cases hF : st.F (restsKey l) with
      | some n =>
        refine ⟨n, st, rfl, fun _ _ h => h, ?_, fun _ _ h => .inl h, by omega⟩
        obtain ⟨l', h1, h2, h3⟩ := hi _ _ hF
        have := key_inj h1.ne hl.ne h1.clean hl.clean h2
        subst this
        rcases h3 with h3 | h3
        · exact h3
        · omega
      | none =>
        have hr := restsOf_good hl
        have hrb := restsOf_bytes l
        have hrl := restsOf_len l
        have hP0 : Pre st.ns (st.open_ (restsKey l)).ns := fun i x hx => by
          unfold Bld.open_
          dsimp only
          rw [List.getElem?_append_left (List.getElem?_eq_some_iff.1 hx).1]
          exact hx
        have hI0 : Inv (bytesOf_ l) (st.open_ (restsKey l)) := fun key n hk => by
          unfold Bld.open_ at hk
          dsimp only at hk
          by_cases e : key = restsKey l
          · exact ⟨l, hl, e.symm, .inr (Nat.le_refl _)⟩
          · rw [if_neg e] at hk
            obtain ⟨l', h1, h2, h3⟩ := hi key n hk
            refine ⟨l', h1, h2, ?_⟩
            rcases h3 with ⟨f', h3⟩ | h3
            · exact .inl ⟨f', (rep_ext f').1 _ _ _ _ h1.ne h3 hP0.ext⟩
            · exact .inr (by omega)
        have hlen0 : (st.open_ (restsKey l)).ns.length = st.ns.length + 1 := by simp [Bld.open_]
        obtain ⟨es2, st1, h1, h2, ⟨f1, h3⟩, h4, h5⟩ := ih2 (restsOf l) [] (st.open_ (restsKey l)) (bytesOf_ l) hr hI0 (by omega) (by omega) (by omega) (by simp; omega) (by omega)
        rw [List.nil_append] at h1
        have hlt : st.ns.length < st1.ns.length := by have := h2.ext.len; omega
        have hz1 : st1.ns[st.ns.length]? = some z72 := h2 _ _ (by unfold Bld.open_; dsimp only; rw [List.getElem?_append_right (Nat.le_refl _)]; simp)
        have hE : Ext st1.ns (st1.shut st.ns.length ⟨isEnd l, es2⟩).ns := fun i x hx => by
          unfold Bld.shut
          dsimp only
          by_cases e : i = st.ns.length
          · subst e
            rw [hz1] at hx
            exact ⟨⟨isEnd l, es2⟩, by rw [List.getElem?_set_self hlt], .inr (Option.some.inj hx).symm⟩
          · exact ⟨x, by rw [List.getElem?_set_ne (Ne.symm e)]; exact hx, .inl rfl⟩
        have hR : Rep (f1 + 1) (st1.shut st.ns.length ⟨isEnd l, es2⟩).ns (st.ns.length : Int) l := by
          unfold Rep
          refine ⟨by omega, ⟨isEnd l, es2⟩, ?_, rfl, (rep_ext f1).2 _ _ _ _ h3 hE⟩
          unfold Bld.shut
          dsimp only
          rw [Int.toNat_natCast, List.getElem?_set_self hlt]
        simp only [h1, Option.bind_some]
        rw [if_pos hlt]
        refine ⟨_, _, rfl, ?_, ⟨_, hR⟩, ?_, ?_⟩
        · intro i x hx
          have hi' := (List.getElem?_eq_some_iff.1 hx).1
          unfold Bld.shut
          dsimp only
          rw [List.getElem?_set_ne (by omega)]
          exact h2 i x (hP0 i x hx)
        · intro key n hk
          rcases h4 key n hk with h6 | ⟨l', h6, h7, f', h8⟩
          · unfold Bld.open_ at h6
            dsimp only at h6
            by_cases e : key = restsKey l
            · rw [if_pos e] at h6
              refine .inr ⟨l, hl, e.symm, f1 + 1, ?_⟩
              rw [← Option.some.inj h6]
              exact hR
            · rw [if_neg e] at h6
              exact .inl h6
          · exact .inr ⟨l', h6, h7, f', (rep_ext f').1 _ _ _ _ h6.ne h8 hE⟩
        · have : (st1.shut st.ns.length ⟨isEnd l, es2⟩).ns.length = st1.ns.length := by simp [Bld.shut]
          omega
    · cases l with
      | nil =>
        simp only [edges]
        exact ⟨[], st, by rw [List.append_nil], fun _ _ h => h, ⟨1, by simp [RepE]⟩, fun _ _ h => .inl h, by omega⟩
      | cons s t =>
        have hs := hl.clean s List.mem_cons_self
        have hsz := size_le_bytes (l := s :: t) (s := s) List.mem_cons_self
        have hgb := grp_bytes hs.2 (s :: t)
        have hgl : 1 ≤ (grp (hd s) (wd s) (s :: t)).length := by rw [grp_cons]; simp
        have hgle := grp_le (hd s) (wd s) (s :: t)
        have hdl : ((s :: t).drop (grp (hd s) (wd s) (s :: t)).length).length = (s :: t).length - (grp (hd s) (wd s) (s :: t)).length := List.length_drop
        simp only [List.length_cons] at hf hz he hgle hdl
        obtain ⟨r, st1, a1, a2, ⟨f1, a3⟩, a4, a5⟩ := ih1 (grp (hd s) (wd s) (s :: t)) st B (grp_good hl) hi (by omega) (by omega) (by omega) (by omega)
        obtain ⟨es2, st2, b1, b2, ⟨f2, b3⟩, b4, b5⟩ := ih2 ((s :: t).drop (grp (hd s) (wd s) (s :: t)).length) (es ++ [⟨((Utf8.decode s 0).1 : Int), r⟩]) st1 B (drop_good hl _) (hi.more a4 a2.ext) (by omega) (by rw [hdl]; omega) (by rw [hdl]; omega) (by rw [hdl]; simp; omega) (by omega)
        refine ⟨⟨((Utf8.decode s 0).1 : Int), r⟩ :: es2, st2, ?_, a2.trans b2, ⟨max f1 f2 + 1, ?_⟩, a4.trans b4 b2.ext, by omega⟩
        · simp only [edges]
          rw [if_pos ⟨by omega, hs.2, by omega, by simp; omega⟩]
          show (node f (grp (hd s) (wd s) (s :: t)) st).bind _ = _
          rw [a1, Option.bind_some]
          show edges f ((s :: t).drop (grp (hd s) (wd s) (s :: t)).length) _ _ = _
          rw [b1, List.append_assoc]
          rfl
        · unfold RepE
          exact ⟨rfl, (rep_ext _).1 _ _ _ _ (by rw [grp_cons]; simp) ((rep_up (Nat.le_max_left _ _)).1 a3) b2.ext, (rep_up (Nat.le_max_right _ _)).2 b3⟩
end Go.Proofs.Ytklidannncajiaa.OW

namespace Go.Proofs.Ytklidannncajiaa.Am

/-- The next row of distances, when one more rune r has been read. -/
def stepRow (q : List Int) (r : Int) (f : Nat → Nat) : Nat → Nat
  | 0 => f 0 + 1
  | i + 1 => min (min (f (i + 1) + 1) (stepRow q r f i + 1)) (f i + if q.getD i 0 = r then 0 else 1)
/-- The distances of p to the beginnings of q; p's runes are read one by one. -/
def dp (q : List Int) (p : List Int) : Nat → Nat := p.foldl (fun f r => stepRow q r f) (fun i => i)
theorem dp_nil (q : List Int) (i : Nat) : dp q [] i = i := rfl
theorem dp_snoc (q p : List Int) (r : Int) : dp q (p ++ [r]) = stepRow q r (dp q p) := by simp [dp]

theorem step_le_old (q : List Int) (r : Int) (f : Nat → Nat) (i : Nat) : stepRow q r f i ≤ f i + 1 := by
  cases i with
  | zero => simp [stepRow]
  | succ i => simp only [stepRow]; omega
theorem step_le_left (q : List Int) (r : Int) (f : Nat → Nat) (i : Nat) : stepRow q r f (i + 1) ≤ stepRow q r f i + 1 := by
  simp only [stepRow]; omega
/-- A row of distances rises and falls by at most one. -/
structure Lip (f : Nat → Nat) : Prop where
  up : ∀ i, f (i + 1) ≤ f i + 1
  down : ∀ i, f i ≤ f (i + 1) + 1
theorem lip_step {q : List Int} {r : Int} {f : Nat → Nat} (h : Lip f) : Lip (stepRow q r f) := by
  refine ⟨step_le_left q r f, fun i => ?_⟩
  have h1 := step_le_old q r f i
  have h2 := h.down i
  have h3 : stepRow q r f (i + 1) = min (min (f (i + 1) + 1) (stepRow q r f i + 1)) (f i + if q.getD i 0 = r then 0 else 1) := rfl
  rw [h3]
  omega
theorem snoc_induction {P : List Int → Prop} (h0 : P []) (h1 : ∀ p r, P p → P (p ++ [r])) : ∀ p, P p := by
  intro p
  rw [← List.reverse_reverse p]
  generalize p.reverse = q
  induction q with
  | nil => exact h0
  | cons x q ih => rw [List.reverse_cons]; exact h1 _ _ ih
theorem lip_dp (q p : List Int) : Lip (dp q p) := by
  induction p using snoc_induction with
  | h0 => exact ⟨fun i => by simp [dp_nil], fun i => by simp [dp_nil]; omega⟩
  | h1 p r ih => rw [dp_snoc]; exact lip_step ih
theorem Lip.far {f : Nat → Nat} (h : Lip f) (i d : Nat) : f (i + d) ≤ f i + d ∧ f i ≤ f (i + d) + d := by
  induction d with
  | zero => simp
  | succ d ih =>
    have h1 := h.up (i + d)
    have h2 := h.down (i + d)
    have e : i + (d + 1) = i + d + 1 := by omega
    rw [e]
    omega
theorem Lip.any {f : Nat → Nat} (h : Lip f) (i j : Nat) : f i ≤ f j + ((i - j) + (j - i)) := by
  rcases Nat.le_total i j with h1 | h1
  · obtain ⟨d, rfl⟩ : ∃ d, j = i + d := ⟨j - i, by omega⟩
    have := (h.far i d).2
    omega
  · obtain ⟨d, rfl⟩ : ∃ d, i = j + d := ⟨i - j, by omega⟩
    have := (h.far j d).1
    omega
/-- No row is everywhere further off than a later one. -/
theorem dead_step (q : List Int) (r : Int) (f : Nat → Nat) (k n : Nat) (h : ∀ i, i ≤ n → k < f i) : ∀ i, i ≤ n → k < stepRow q r f i := by
  intro i
  induction i with
  | zero => intro hi; have := h 0 hi; simp only [stepRow]; omega
  | succ i ih =>
    intro hi
    have h1 := h (i + 1) hi
    have h2 := h i (by omega)
    have h3 := ih (by omega)
    simp only [stepRow]
    omega
/-- The row looks at the beginnings alone. -/
theorem dp_take (a c p : List Int) : ∀ i, i ≤ a.length → dp (a ++ c) p i = dp a p i := by
  induction p using snoc_induction with
  | h0 => intro i _; simp [dp_nil]
  | h1 p r ih =>
    intro i
    rw [dp_snoc, dp_snoc]
    induction i with
    | zero => intro hi; simp only [stepRow]; rw [ih 0 hi]
    | succ i ih2 =>
      intro hi
      simp only [stepRow]
      rw [ih (i + 1) hi, ih i (by omega), ih2 (by omega)]
      have e : (a ++ c).getD i 0 = a.getD i 0 := by
        simp [List.getD_eq_getElem?_getD, List.getElem?_append_left (show i < a.length by omega)]
      rw [e]

/-! ### Alignments -/
inductive Al : List Int → List Int → Nat → Prop
  | nil : Al [] [] 0
  | del {a b n} (x : Int) : Al a b n → Al (a ++ [x]) b (n + 1)
  | ins {a b n} (y : Int) : Al a b n → Al a (b ++ [y]) (n + 1)
  | sub {a b n} (x y : Int) : Al a b n → Al (a ++ [x]) (b ++ [y]) (n + 1)
  | keep {a b n} (x : Int) : Al a b n → Al (a ++ [x]) (b ++ [x]) n
theorem Al.append {a b c d : List Int} {n m : Nat} (h : Al a b n) (k : Al c d m) : Al (a ++ c) (b ++ d) (n + m) := by
  induction k with
  | nil => simpa using h
  | del x _ ih => rw [← List.append_assoc]; exact .del x ih
  | ins y _ ih => rw [← List.append_assoc]; exact .ins y ih
  | sub x y _ ih => rw [← List.append_assoc, ← List.append_assoc]; exact .sub x y ih
  | keep x _ ih => rw [← List.append_assoc, ← List.append_assoc]; exact .keep x ih
theorem Al.reverse {a b : List Int} {n : Nat} (h : Al a b n) : Al a.reverse b.reverse n := by
  induction h with
  | nil => exact .nil
  | del x _ ih => rw [List.reverse_append, Nat.add_comm]; exact Al.append (.del x .nil) ih
  | ins y _ ih => rw [List.reverse_append, Nat.add_comm]; exact Al.append (.ins y .nil) ih
  | sub x y _ ih => rw [List.reverse_append, List.reverse_append, Nat.add_comm]; exact Al.append (.sub x y .nil) ih
  | keep x _ ih =>
    rw [List.reverse_append, List.reverse_append]
    have := Al.append (.keep x .nil) ih
    simpa using this
theorem getD_snoc (a : List Int) (x : Int) : (a ++ [x]).getD a.length 0 = x := by simp [List.getD_eq_getElem?_getD]
theorem Al.least {a b : List Int} {n : Nat} (h : Al a b n) : dp a b a.length ≤ n := by
  induction h with
  | nil => simp [dp_nil]
  | @del a b n x _ ih =>
    rw [List.length_append, List.length_singleton]
    have h1 := (lip_dp (a ++ [x]) b).up a.length
    rw [dp_take a [x] b a.length (Nat.le_refl _)] at h1
    omega
  | @ins a b n y _ ih =>
    rw [dp_snoc]
    have := step_le_old a y (dp a b) a.length
    omega
  | @sub a b n x y _ ih =>
    rw [dp_snoc, List.length_append, List.length_singleton]
    simp only [stepRow]
    rw [dp_take a [x] b a.length (Nat.le_refl _)]
    split <;> omega
  | @keep a b n x _ ih =>
    rw [dp_snoc, List.length_append, List.length_singleton]
    simp only [stepRow]
    rw [dp_take a [x] b a.length (Nat.le_refl _), getD_snoc, if_pos rfl]
    omega
/-- The distance of two lists. -/
def far (a b : List Int) : Nat := dp a b a.length
end Go.Proofs.Ytklidannncajiaa.Am
