/- What the row of the law WalkBatches leans on: contracts of functions and plain laws, each for all inputs that its own theorem names. -/
import Derived.Test.YtklidannncajiaaBa0
import Derived.Test.YtklidannncajiaaBa1
import Derived.Test.YtklidannncajiaaBa2
import Derived.Test.YtklidannncajiaaBa9
import Derived.Test.YtklidannncajiaaBa12
-- Laid by a program of this session (wip/ownprint.py, wip/hooks.py) over the seat's translation. Lean checks it.
namespace Go.Proofs.Ytklidannncajiaa.OW
open Go.RowKit Go.Proofs.YtklidannncajiaaW.PrintWords Go.Proofs.YtklidannncajiaaW.PrintLast Go.Proofs.YtklidannncajiaaW.PrintMore
attribute [local go_sem] max2_int min2_int max_two min_two max_three min_three max_four min_four   -- for this text's walks alone
set_option linter.unusedVariables false
set_option linter.unusedSimpArgs false

/-! ### rank_May: function 19 -/
def rank_May.f (a0_0 : ByteArray) (a0_1 : Int) (a0_2 : Int) : Option (Bool) := (text_Asked.f a0_0).bind fun t283 => (if t283 = true then (if a0_1 ≥ 0 then (if a0_1 ≤ 4 then (if a0_2 ≥ 1 then (some (decide (a0_2 ≤ 10))) else (some false)) else (some false)) else (some false)) else (some false))
set_option maxHeartbeats 8000000 in
set_option maxRecDepth 100000 in
theorem rank_May.calls (a0_0 : ByteArray) (a0_1 : Int) (a0_2 : Int) (r : Bool) (w : World) (h : rank_May.f a0_0 a0_1 a0_2 = some r) :
    Calls Try.prog 19 #[.agg #[.string a0_0, .int .i64 a0_1, .int .i64 a0_2]] w fun e w' => e = .returned (.bool r) ∧ Below w.heap.size w w' := by
  have hu39 := Try.underlying39
  have HB := Aside0.mk (Below.refl w.heap.size w)
  have H : ((text_Asked.f a0_0).bind fun t283 => (if t283 = true then (if a0_1 ≥ 0 then (if a0_1 ≤ 4 then (if a0_2 ≥ 1 then (some (decide (a0_2 ≤ 10))) else (some false)) else (some false)) else (some false)) else (some false))) = some r := h
  clear h
  replace H := Option.bind_eq_some_iff.mp H
  obtain ⟨t283, A20, H⟩ := H
  replace H : (if t283 = true then (if a0_1 ≥ 0 then (if a0_1 ≤ 4 then (if a0_2 ≥ 1 then (some (decide (a0_2 ≤ 10))) else (some false)) else (some false)) else (some false)) else (some false)) = some r := H
  have A2 := Aside0.mk A20
  clear A20
  by_cases c3 : t283 = true
  · subst c3
    have H1 : (if a0_1 ≥ 0 then (if a0_1 ≤ 4 then (if a0_2 ≥ 1 then (some (decide (a0_2 ≤ 10))) else (some false)) else (some false)) else (some false)) = some r := by rw [if_pos rfl] at H; exact H
    clear H
    have H := H1
    clear H1
    by_cases c4 : a0_1 ≥ 0
    · rw [if_pos c4] at H
      have c4b0 : decide (0 ≤ a0_1) = true := decide_eq_true c4
      clear c4
      by_cases c5 : a0_1 ≤ 4
      · rw [if_pos c5] at H
        have c5b0 : decide (a0_1 ≤ 4) = true := decide_eq_true c5
        clear c5
        by_cases c6 : a0_2 ≥ 1
        · rw [if_pos c6] at H
          have c6b0 : decide (1 ≤ a0_2) = true := decide_eq_true c6
          clear c6
          obtain rfl := Option.some.inj H
          go_enter Try.func19, Try.ntmps19
          go_wp2_with (first | ((with_reducible refine gate_dst (N := 1) rfl ?_); refine box_event ?hg (N := 1) ?hd (cs := #[.string a0_0, .int .i64 a0_1, .int .i64 a0_2]) (t := 39) ?hr ?_; (case hd => rfl); (case hg => rfl); (case hr => first | (go_simp; done) | (go_simp; rfl)); intro gb282 hg w7 hbox hb; have n0_ := Aside0.mk (below_step (by repeat (first | (with_reducible first | exact HB.out | apply below_alloc | apply pw_below_drewN | apply below_drew1) | exact HB.out)) hb); have n1_ := Aside0.mk (hbox); have n2_ := Aside0.mk ((by rw [hg]; exact (below_size (by repeat (first | (with_reducible first | exact HB.out | apply below_alloc | apply pw_below_drewN | apply below_drew1) | exact HB.out))) : w.heap.size ≤ gb282)); have n3_ := Aside0.mk ((by rw [hg]; exact (below_size (by repeat (first | (with_reducible first | exact HB.out | apply below_alloc | apply pw_below_drewN | apply below_drew1) | exact HB.out))) : w.heap.size ≤ gb282)); clear HB; have HB := n0_; have BK282 := n1_; have GW282 := n2_; have GE282 := n3_; clear n0_ n1_ n2_ n3_; clear hb hbox hg; have hcz8_0 : w7.cell? ⟨gb282, 0, none⟩ = some (.string a0_0) := (blk_cell BK282.out 0).trans rfl; have hcz8_1 : w7.cell? ⟨gb282, 1, none⟩ = some (.int .i64 a0_1) := (blk_cell BK282.out 1).trans rfl; have hcz8_2 : w7.cell? ⟨gb282, 2, none⟩ = some (.int .i64 a0_2) := (blk_cell BK282.out 2).trans rfl; have hfz8_0 := blk_frozen BK282.out 0; have hfz8_1 := blk_frozen BK282.out 1; have hfz8_2 := blk_frozen BK282.out 2) | ((with_reducible refine gate_callee (f := 25) rfl ?_); refine goesL_ (some 5) rfl rfl Try.func25 (by kernel_rfl) rfl #[.string a0_0] rfl (by (try simp only [List.map_toArray, List.map_cons, List.map_nil]); first | done | rfl | (simp only [List.length_drop, List.length_take]; rfl)) ?_; (with_reducible refine (text_Asked.calls a0_0 true _ A2.out).mono ?_); rintro e w9 ⟨rfl, hb⟩; refine ⟨_, rfl, ?_⟩; have n0_ := Aside0.mk (blk_below (g := gb282) (o := .cells #[.string a0_0, .int .i64 a0_1, .int .i64 a0_2] 39 (0, 0)) (by (with_reducible repeat (first | refine blk_drewN ?_ _ | refine blk_drew ?_ | refine blk_alloc ?_ _)); exact BK282.out) hb); have n1_ := Aside0.mk (below_step (by repeat (first | (with_reducible first | exact HB.out | apply below_alloc | apply pw_below_drewN | apply below_drew1 | refine below_set ?_ GE282.out) | exact HB.out)) hb); clear BK282; clear HB; have BK282 := n0_; have HB := n1_; clear n0_ n1_; (try clear hb); (try clear hb2); (try clear hk); (try clear hi); have hcz10_0 : w9.cell? ⟨gb282, 0, none⟩ = some (.string a0_0) := (blk_cell BK282.out 0).trans rfl; have hcz10_1 : w9.cell? ⟨gb282, 1, none⟩ = some (.int .i64 a0_1) := (blk_cell BK282.out 1).trans rfl; have hcz10_2 : w9.cell? ⟨gb282, 2, none⟩ = some (.int .i64 a0_2) := (blk_cell BK282.out 2).trans rfl; have hfz10_0 := blk_frozen BK282.out 0; have hfz10_1 := blk_frozen BK282.out 1; have hfz10_2 := blk_frozen BK282.out 2))
          go_ret
          exact ⟨by first | rfl | (simp [errW_none, errW_some] <;> rfl) | (simp [*, errW_none, errW_some] <;> rfl), by repeat (first | (with_reducible first | exact HB.out | apply below_alloc | apply pw_below_drewN | apply below_drew1 | refine below_set ?_ GE282.out) | exact HB.out)⟩
        · rw [if_neg c6] at H
          have c6b0 : decide (1 ≤ a0_2) = false := decide_eq_false c6
          clear c6
          obtain rfl := Option.some.inj H
          go_enter Try.func19, Try.ntmps19
          go_wp2_with (first | ((with_reducible refine gate_dst (N := 1) rfl ?_); refine box_event ?hg (N := 1) ?hd (cs := #[.string a0_0, .int .i64 a0_1, .int .i64 a0_2]) (t := 39) ?hr ?_; (case hd => rfl); (case hg => rfl); (case hr => first | (go_simp; done) | (go_simp; rfl)); intro gb282 hg w11 hbox hb; have n0_ := Aside0.mk (below_step (by repeat (first | (with_reducible first | exact HB.out | apply below_alloc | apply pw_below_drewN | apply below_drew1) | exact HB.out)) hb); have n1_ := Aside0.mk (hbox); have n2_ := Aside0.mk ((by rw [hg]; exact (below_size (by repeat (first | (with_reducible first | exact HB.out | apply below_alloc | apply pw_below_drewN | apply below_drew1) | exact HB.out))) : w.heap.size ≤ gb282)); have n3_ := Aside0.mk ((by rw [hg]; exact (below_size (by repeat (first | (with_reducible first | exact HB.out | apply below_alloc | apply pw_below_drewN | apply below_drew1) | exact HB.out))) : w.heap.size ≤ gb282)); clear HB; have HB := n0_; have BK282 := n1_; have GW282 := n2_; have GE282 := n3_; clear n0_ n1_ n2_ n3_; clear hb hbox hg; have hcz12_0 : w11.cell? ⟨gb282, 0, none⟩ = some (.string a0_0) := (blk_cell BK282.out 0).trans rfl; have hcz12_1 : w11.cell? ⟨gb282, 1, none⟩ = some (.int .i64 a0_1) := (blk_cell BK282.out 1).trans rfl; have hcz12_2 : w11.cell? ⟨gb282, 2, none⟩ = some (.int .i64 a0_2) := (blk_cell BK282.out 2).trans rfl; have hfz12_0 := blk_frozen BK282.out 0; have hfz12_1 := blk_frozen BK282.out 1; have hfz12_2 := blk_frozen BK282.out 2) | ((with_reducible refine gate_callee (f := 25) rfl ?_); refine goesL_ (some 5) rfl rfl Try.func25 (by kernel_rfl) rfl #[.string a0_0] rfl (by (try simp only [List.map_toArray, List.map_cons, List.map_nil]); first | done | rfl | (simp only [List.length_drop, List.length_take]; rfl)) ?_; (with_reducible refine (text_Asked.calls a0_0 true _ A2.out).mono ?_); rintro e w13 ⟨rfl, hb⟩; refine ⟨_, rfl, ?_⟩; have n0_ := Aside0.mk (blk_below (g := gb282) (o := .cells #[.string a0_0, .int .i64 a0_1, .int .i64 a0_2] 39 (0, 0)) (by (with_reducible repeat (first | refine blk_drewN ?_ _ | refine blk_drew ?_ | refine blk_alloc ?_ _)); exact BK282.out) hb); have n1_ := Aside0.mk (below_step (by repeat (first | (with_reducible first | exact HB.out | apply below_alloc | apply pw_below_drewN | apply below_drew1 | refine below_set ?_ GE282.out) | exact HB.out)) hb); clear BK282; clear HB; have BK282 := n0_; have HB := n1_; clear n0_ n1_; (try clear hb); (try clear hb2); (try clear hk); (try clear hi); have hcz14_0 : w13.cell? ⟨gb282, 0, none⟩ = some (.string a0_0) := (blk_cell BK282.out 0).trans rfl; have hcz14_1 : w13.cell? ⟨gb282, 1, none⟩ = some (.int .i64 a0_1) := (blk_cell BK282.out 1).trans rfl; have hcz14_2 : w13.cell? ⟨gb282, 2, none⟩ = some (.int .i64 a0_2) := (blk_cell BK282.out 2).trans rfl; have hfz14_0 := blk_frozen BK282.out 0; have hfz14_1 := blk_frozen BK282.out 1; have hfz14_2 := blk_frozen BK282.out 2))
          go_ret
          exact ⟨by first | rfl | (simp [errW_none, errW_some] <;> rfl) | (simp [*, errW_none, errW_some] <;> rfl), by repeat (first | (with_reducible first | exact HB.out | apply below_alloc | apply pw_below_drewN | apply below_drew1 | refine below_set ?_ GE282.out) | exact HB.out)⟩
      · rw [if_neg c5] at H
        have c5b0 : decide (a0_1 ≤ 4) = false := decide_eq_false c5
        clear c5
        obtain rfl := Option.some.inj H
        go_enter Try.func19, Try.ntmps19
        go_wp2_with (first | ((with_reducible refine gate_dst (N := 1) rfl ?_); refine box_event ?hg (N := 1) ?hd (cs := #[.string a0_0, .int .i64 a0_1, .int .i64 a0_2]) (t := 39) ?hr ?_; (case hd => rfl); (case hg => rfl); (case hr => first | (go_simp; done) | (go_simp; rfl)); intro gb282 hg w15 hbox hb; have n0_ := Aside0.mk (below_step (by repeat (first | (with_reducible first | exact HB.out | apply below_alloc | apply pw_below_drewN | apply below_drew1) | exact HB.out)) hb); have n1_ := Aside0.mk (hbox); have n2_ := Aside0.mk ((by rw [hg]; exact (below_size (by repeat (first | (with_reducible first | exact HB.out | apply below_alloc | apply pw_below_drewN | apply below_drew1) | exact HB.out))) : w.heap.size ≤ gb282)); have n3_ := Aside0.mk ((by rw [hg]; exact (below_size (by repeat (first | (with_reducible first | exact HB.out | apply below_alloc | apply pw_below_drewN | apply below_drew1) | exact HB.out))) : w.heap.size ≤ gb282)); clear HB; have HB := n0_; have BK282 := n1_; have GW282 := n2_; have GE282 := n3_; clear n0_ n1_ n2_ n3_; clear hb hbox hg; have hcz16_0 : w15.cell? ⟨gb282, 0, none⟩ = some (.string a0_0) := (blk_cell BK282.out 0).trans rfl; have hcz16_1 : w15.cell? ⟨gb282, 1, none⟩ = some (.int .i64 a0_1) := (blk_cell BK282.out 1).trans rfl; have hcz16_2 : w15.cell? ⟨gb282, 2, none⟩ = some (.int .i64 a0_2) := (blk_cell BK282.out 2).trans rfl; have hfz16_0 := blk_frozen BK282.out 0; have hfz16_1 := blk_frozen BK282.out 1; have hfz16_2 := blk_frozen BK282.out 2) | ((with_reducible refine gate_callee (f := 25) rfl ?_); refine goesL_ (some 5) rfl rfl Try.func25 (by kernel_rfl) rfl #[.string a0_0] rfl (by (try simp only [List.map_toArray, List.map_cons, List.map_nil]); first | done | rfl | (simp only [List.length_drop, List.length_take]; rfl)) ?_; (with_reducible refine (text_Asked.calls a0_0 true _ A2.out).mono ?_); rintro e w17 ⟨rfl, hb⟩; refine ⟨_, rfl, ?_⟩; have n0_ := Aside0.mk (blk_below (g := gb282) (o := .cells #[.string a0_0, .int .i64 a0_1, .int .i64 a0_2] 39 (0, 0)) (by (with_reducible repeat (first | refine blk_drewN ?_ _ | refine blk_drew ?_ | refine blk_alloc ?_ _)); exact BK282.out) hb); have n1_ := Aside0.mk (below_step (by repeat (first | (with_reducible first | exact HB.out | apply below_alloc | apply pw_below_drewN | apply below_drew1 | refine below_set ?_ GE282.out) | exact HB.out)) hb); clear BK282; clear HB; have BK282 := n0_; have HB := n1_; clear n0_ n1_; (try clear hb); (try clear hb2); (try clear hk); (try clear hi); have hcz18_0 : w17.cell? ⟨gb282, 0, none⟩ = some (.string a0_0) := (blk_cell BK282.out 0).trans rfl; have hcz18_1 : w17.cell? ⟨gb282, 1, none⟩ = some (.int .i64 a0_1) := (blk_cell BK282.out 1).trans rfl; have hcz18_2 : w17.cell? ⟨gb282, 2, none⟩ = some (.int .i64 a0_2) := (blk_cell BK282.out 2).trans rfl; have hfz18_0 := blk_frozen BK282.out 0; have hfz18_1 := blk_frozen BK282.out 1; have hfz18_2 := blk_frozen BK282.out 2))
        go_ret
        exact ⟨by first | rfl | (simp [errW_none, errW_some] <;> rfl) | (simp [*, errW_none, errW_some] <;> rfl), by repeat (first | (with_reducible first | exact HB.out | apply below_alloc | apply pw_below_drewN | apply below_drew1 | refine below_set ?_ GE282.out) | exact HB.out)⟩
    · rw [if_neg c4] at H
      have c4b0 : decide (0 ≤ a0_1) = false := decide_eq_false c4
      clear c4
      obtain rfl := Option.some.inj H
      go_enter Try.func19, Try.ntmps19
      go_wp2_with (first | ((with_reducible refine gate_dst (N := 1) rfl ?_); refine box_event ?hg (N := 1) ?hd (cs := #[.string a0_0, .int .i64 a0_1, .int .i64 a0_2]) (t := 39) ?hr ?_; (case hd => rfl); (case hg => rfl); (case hr => first | (go_simp; done) | (go_simp; rfl)); intro gb282 hg w19 hbox hb; have n0_ := Aside0.mk (below_step (by repeat (first | (with_reducible first | exact HB.out | apply below_alloc | apply pw_below_drewN | apply below_drew1) | exact HB.out)) hb); have n1_ := Aside0.mk (hbox); have n2_ := Aside0.mk ((by rw [hg]; exact (below_size (by repeat (first | (with_reducible first | exact HB.out | apply below_alloc | apply pw_below_drewN | apply below_drew1) | exact HB.out))) : w.heap.size ≤ gb282)); have n3_ := Aside0.mk ((by rw [hg]; exact (below_size (by repeat (first | (with_reducible first | exact HB.out | apply below_alloc | apply pw_below_drewN | apply below_drew1) | exact HB.out))) : w.heap.size ≤ gb282)); clear HB; have HB := n0_; have BK282 := n1_; have GW282 := n2_; have GE282 := n3_; clear n0_ n1_ n2_ n3_; clear hb hbox hg; have hcz20_0 : w19.cell? ⟨gb282, 0, none⟩ = some (.string a0_0) := (blk_cell BK282.out 0).trans rfl; have hcz20_1 : w19.cell? ⟨gb282, 1, none⟩ = some (.int .i64 a0_1) := (blk_cell BK282.out 1).trans rfl; have hcz20_2 : w19.cell? ⟨gb282, 2, none⟩ = some (.int .i64 a0_2) := (blk_cell BK282.out 2).trans rfl; have hfz20_0 := blk_frozen BK282.out 0; have hfz20_1 := blk_frozen BK282.out 1; have hfz20_2 := blk_frozen BK282.out 2) | ((with_reducible refine gate_callee (f := 25) rfl ?_); refine goesL_ (some 5) rfl rfl Try.func25 (by kernel_rfl) rfl #[.string a0_0] rfl (by (try simp only [List.map_toArray, List.map_cons, List.map_nil]); first | done | rfl | (simp only [List.length_drop, List.length_take]; rfl)) ?_; (with_reducible refine (text_Asked.calls a0_0 true _ A2.out).mono ?_); rintro e w21 ⟨rfl, hb⟩; refine ⟨_, rfl, ?_⟩; have n0_ := Aside0.mk (blk_below (g := gb282) (o := .cells #[.string a0_0, .int .i64 a0_1, .int .i64 a0_2] 39 (0, 0)) (by (with_reducible repeat (first | refine blk_drewN ?_ _ | refine blk_drew ?_ | refine blk_alloc ?_ _)); exact BK282.out) hb); have n1_ := Aside0.mk (below_step (by repeat (first | (with_reducible first | exact HB.out | apply below_alloc | apply pw_below_drewN | apply below_drew1 | refine below_set ?_ GE282.out) | exact HB.out)) hb); clear BK282; clear HB; have BK282 := n0_; have HB := n1_; clear n0_ n1_; (try clear hb); (try clear hb2); (try clear hk); (try clear hi); have hcz22_0 : w21.cell? ⟨gb282, 0, none⟩ = some (.string a0_0) := (blk_cell BK282.out 0).trans rfl; have hcz22_1 : w21.cell? ⟨gb282, 1, none⟩ = some (.int .i64 a0_1) := (blk_cell BK282.out 1).trans rfl; have hcz22_2 : w21.cell? ⟨gb282, 2, none⟩ = some (.int .i64 a0_2) := (blk_cell BK282.out 2).trans rfl; have hfz22_0 := blk_frozen BK282.out 0; have hfz22_1 := blk_frozen BK282.out 1; have hfz22_2 := blk_frozen BK282.out 2))
      go_ret
      exact ⟨by first | rfl | (simp [errW_none, errW_some] <;> rfl) | (simp [*, errW_none, errW_some] <;> rfl), by repeat (first | (with_reducible first | exact HB.out | apply below_alloc | apply pw_below_drewN | apply below_drew1 | refine below_set ?_ GE282.out) | exact HB.out)⟩
  · replace c3 := Bool.eq_false_iff.mpr c3
    subst c3
    have H1 : (some false) = some r := by rw [if_neg (show ¬ (false = true) by decide)] at H; exact H
    clear H
    have H := H1
    clear H1
    obtain rfl := Option.some.inj H
    go_enter Try.func19, Try.ntmps19
    go_wp2_with (first | ((with_reducible refine gate_dst (N := 1) rfl ?_); refine box_event ?hg (N := 1) ?hd (cs := #[.string a0_0, .int .i64 a0_1, .int .i64 a0_2]) (t := 39) ?hr ?_; (case hd => rfl); (case hg => rfl); (case hr => first | (go_simp; done) | (go_simp; rfl)); intro gb282 hg w23 hbox hb; have n0_ := Aside0.mk (below_step (by repeat (first | (with_reducible first | exact HB.out | apply below_alloc | apply pw_below_drewN | apply below_drew1) | exact HB.out)) hb); have n1_ := Aside0.mk (hbox); have n2_ := Aside0.mk ((by rw [hg]; exact (below_size (by repeat (first | (with_reducible first | exact HB.out | apply below_alloc | apply pw_below_drewN | apply below_drew1) | exact HB.out))) : w.heap.size ≤ gb282)); have n3_ := Aside0.mk ((by rw [hg]; exact (below_size (by repeat (first | (with_reducible first | exact HB.out | apply below_alloc | apply pw_below_drewN | apply below_drew1) | exact HB.out))) : w.heap.size ≤ gb282)); clear HB; have HB := n0_; have BK282 := n1_; have GW282 := n2_; have GE282 := n3_; clear n0_ n1_ n2_ n3_; clear hb hbox hg; have hcz24_0 : w23.cell? ⟨gb282, 0, none⟩ = some (.string a0_0) := (blk_cell BK282.out 0).trans rfl; have hcz24_1 : w23.cell? ⟨gb282, 1, none⟩ = some (.int .i64 a0_1) := (blk_cell BK282.out 1).trans rfl; have hcz24_2 : w23.cell? ⟨gb282, 2, none⟩ = some (.int .i64 a0_2) := (blk_cell BK282.out 2).trans rfl; have hfz24_0 := blk_frozen BK282.out 0; have hfz24_1 := blk_frozen BK282.out 1; have hfz24_2 := blk_frozen BK282.out 2) | ((with_reducible refine gate_callee (f := 25) rfl ?_); refine goesL_ (some 5) rfl rfl Try.func25 (by kernel_rfl) rfl #[.string a0_0] rfl (by (try simp only [List.map_toArray, List.map_cons, List.map_nil]); first | done | rfl | (simp only [List.length_drop, List.length_take]; rfl)) ?_; (with_reducible refine (text_Asked.calls a0_0 false _ A2.out).mono ?_); rintro e w25 ⟨rfl, hb⟩; refine ⟨_, rfl, ?_⟩; have n0_ := Aside0.mk (blk_below (g := gb282) (o := .cells #[.string a0_0, .int .i64 a0_1, .int .i64 a0_2] 39 (0, 0)) (by (with_reducible repeat (first | refine blk_drewN ?_ _ | refine blk_drew ?_ | refine blk_alloc ?_ _)); exact BK282.out) hb); have n1_ := Aside0.mk (below_step (by repeat (first | (with_reducible first | exact HB.out | apply below_alloc | apply pw_below_drewN | apply below_drew1 | refine below_set ?_ GE282.out) | exact HB.out)) hb); clear BK282; clear HB; have BK282 := n0_; have HB := n1_; clear n0_ n1_; (try clear hb); (try clear hb2); (try clear hk); (try clear hi)))
    go_ret
    exact ⟨by first | rfl | (simp [errW_none, errW_some] <;> rfl) | (simp [*, errW_none, errW_some] <;> rfl), by repeat (first | (with_reducible first | exact HB.out | apply below_alloc | apply pw_below_drewN | apply below_drew1 | refine below_set ?_ GE282.out) | exact HB.out)⟩

/-! ### inkhornlaw0_Low: function 20 -/
def inkhornlaw0_Low.f (a0 : Int) (a1 : Int) : Option (Int) := if (IntKind.u64.wrap (a1)) = 0 then (none) else (some (wrap64 (Int.tmod (IntKind.u64.wrap (a0)) (IntKind.u64.wrap (a1)))))
set_option maxHeartbeats 8000000 in
set_option maxRecDepth 100000 in
theorem inkhornlaw0_Low.calls (a0 : Int) (a1 : Int) (r : Int) (w : World) (h : inkhornlaw0_Low.f a0 a1 = some r) :
    Calls Try.prog 20 #[.int .i64 a0, .int .i64 a1] w fun e w' => e = .returned (.int .i64 r) ∧ Drawn0 w w' := by
  have H : (if (IntKind.u64.wrap (a1)) = 0 then (none) else (some (wrap64 (Int.tmod (IntKind.u64.wrap (a0)) (IntKind.u64.wrap (a1)))))) = some r := h
  clear h
  by_cases c3 : (IntKind.u64.wrap (a1)) = 0
  · rw [if_pos c3] at H
    exact absurd H (by simp)
  · rw [if_neg c3] at H
    have c3b0 : ((IntKind.u64.wrap (a1)) == 0) = false := beq_eq_false_iff_ne.mpr c3
    have c3b1 : ((IntKind.u64.wrap (a1)) != 0) = true := bne_iff_ne.mpr c3
    obtain rfl := Option.some.inj H
    go_enter Try.func20, Try.ntmps20
    go_wp2
    go_ret
    exact ⟨by first | rfl | (simp; done) | (simp [*]; done), by repeat (first | exact Drawn0.refl _ | apply Drawn0.step)⟩

-- NOT PRINTED: function 4 (inkhornlaw11_WalkSplit)

-- NOT PRINTED: function 21 (walk_Dists)

/-! ### inkhornlaw0_SameTexts: function 22 -/
/-! ### inkhornref11_Dists: function 23 -/
/-! ### inkhornlaw0_OverTexts: function 24 -/
-- NOT PRINTED: function 5 (inkhornlaw11_WalkDists)

-- NOT PRINTED: function 6 (inkhornlaw11_WalkFar)

-- NOT PRINTED: function 66 (slices_BinarySearchFunc_string_string_string)

-- NOT PRINTED: function 45 (list_At)

-- NOT PRINTED: function 29 (list_Without)

-- NOT PRINTED: function 7 (inkhornlaw11_WalkLevels)

end Go.Proofs.Ytklidannncajiaa.OW

namespace Go.Proofs.Ytklidannncajiaa.OW
open Go.RowKit Go.Proofs.YtklidannncajiaaW.PrintWords Go.Proofs.YtklidannncajiaaW.PrintLast Go.Proofs.YtklidannncajiaaW.PrintMore Go.Proofs.Ytklidannncajiaa.Am
set_option linter.unusedVariables false
set_option linter.unusedSimpArgs false

theorem sameItems_ev (l : List S24) (hl : l.length ≤ 1000000) : Ev (fun K => inkhornlaw0_SameItems.f K l l) true := by
  have key : ∀ (d i : Nat), i + d = l.length → Ev (fun K => inkhornlaw0_SameItems.l0 K l l (i : Int)) true := by
    intro d
    induction d with
    | zero => intro i hi; exact Ev.step (f := fun _ => some true) (fun K => by simp only [inkhornlaw0_SameItems.l0]; rw [if_neg (by omega)]) (Ev.now _)
    | succ d ih =>
      intro i hi
      refine Ev.step (fun K => ?_) (ih (i + 1) (by omega))
      simp only [inkhornlaw0_SameItems.l0]
      rw [if_pos (by omega), if_pos (by omega), if_pos (by omega), if_neg (by simp), wr64 _ (by omega) (by omega)]
      rfl
  unfold inkhornlaw0_SameItems.f
  simp only [if_true]
  exact key l.length 0 (by omega)
def wordsA : List ByteArray := [⟨#[97, 98]⟩, ⟨#[97, 98, 99]⟩, ⟨#[98]⟩, ⟨#[122, 122]⟩]
theorem smallA : Small wordsA := by decide +kernel
theorem goodA : list_Good.f 50 wordsA = some 0 := by decide +kernel
theorem next1 : nextP ⟨#[97, 98]⟩ 1 wordsA true z24 2 = ([⟨0, ⟨#[97, 98]⟩⟩, ⟨1, ⟨#[97, 98, 99]⟩⟩], false) := by kernel_rfl
theorem next2 : nextP ⟨#[97, 98]⟩ 1 wordsA false ⟨1, ⟨#[97, 98, 99]⟩⟩ 2 = ([⟨1, ⟨#[98]⟩⟩], true) := by kernel_rfl
theorem awake_facts : ∃ K ns, graph_Build.f K wordsA = some (0, ns) ∧ walk_Next.f K ns ⟨#[97, 98]⟩ 1 true ⟨0, ⟨#[]⟩⟩ 2 = some ([⟨0, ⟨#[97, 98]⟩⟩, ⟨1, ⟨#[97, 98, 99]⟩⟩], false) ∧
    walk_Next.f K ns ⟨#[97, 98]⟩ 1 false ⟨1, ⟨#[97, 98, 99]⟩⟩ 2 = some ([⟨1, ⟨#[98]⟩⟩], true) ∧ inkhornlaw0_SameItems.f K [⟨0, ⟨#[97, 98]⟩⟩, ⟨1, ⟨#[97, 98, 99]⟩⟩] [⟨0, ⟨#[97, 98]⟩⟩, ⟨1, ⟨#[97, 98, 99]⟩⟩] = some true ∧ inkhornlaw0_SameItems.f K [⟨1, ⟨#[98]⟩⟩] [⟨1, ⟨#[98]⟩⟩] = some true := by
  obtain ⟨e, ns, ⟨K0, h0⟩, hg⟩ := build_ev smallA
  have hgood : Ev (fun K => list_Good.f K wordsA) 0 := Ev.of (g := fun K => list_Good.f K wordsA) (fun k => list_Good.mono _ k) goodA
  obtain ⟨K1, h1⟩ := hgood
  have e0 : e = 0 := by
    have h2 : graph_Build.f (max K0 K1) wordsA = some (e, ns) := h0 _ (by omega)
    have h3 : list_Good.f (max K0 K1) wordsA = some 0 := h1 _ (by omega)
    unfold graph_Build.f at h2
    rw [h3, Option.bind_some, if_pos rfl] at h2
    split at h2
    · exact (Prod.mk.inj (Option.some.inj h2)).1.symm
    · obtain ⟨y, _, hy⟩ := Option.bind_eq_some_iff.1 h2
      exact (Prod.mk.inj (Option.some.inj hy)).1.symm
  obtain ⟨hw, hG⟩ := hg e0
  subst e0
  have n1 := next_ev hG ⟨#[97, 98]⟩ (by decide) 1 true z24 2
  have n2 := next_ev hG ⟨#[97, 98]⟩ (by decide) 1 false ⟨1, ⟨#[97, 98, 99]⟩⟩ 2
  rw [next1] at n1
  rw [next2] at n2
  obtain ⟨K2, h2⟩ := n1
  obtain ⟨K3, h3⟩ := n2
  obtain ⟨K4, h4⟩ := sameItems_ev [⟨0, ⟨#[97, 98]⟩⟩, ⟨1, ⟨#[97, 98, 99]⟩⟩] (by simp)
  obtain ⟨K5, h5⟩ := sameItems_ev [⟨1, ⟨#[98]⟩⟩] (by simp)
  exact ⟨max K0 (max K2 (max K3 (max K4 K5))), ns, h0 _ (by omega), h2 _ (by omega), h3 _ (by omega), h4 _ (by omega), h5 _ (by omega)⟩
set_option maxHeartbeats 4000000 in
set_option maxRecDepth 100000 in
theorem awake_calls (w : World) : Calls Try.prog 13 #[] w fun e w' => e = .returned (.bool true) ∧ Below w.heap.size w w' := by
  obtain ⟨K, ns, hb, hn1, hn2, hs1, hs2⟩ := awake_facts
  have HB := Aside0.mk hb
  have HN1 := Aside0.mk hn1
  have HN2 := Aside0.mk hn2
  have HS1 := Aside0.mk hs1
  have HS2 := Aside0.mk hs2
  clear hb hn1 hn2 hs1 hs2
  go_enter Try.func13, Try.ntmps13
  go_wp2_with (first | ((with_reducible refine gate_dst (N := 8) rfl ?_); refine Kd.R_lit (w0 := w) Kd.string w.heap.size 9 ?hg (N := 8) ?hd (xs := wordsA) (inner := [.string ⟨#[97, 98]⟩, .string ⟨#[97, 98, 99]⟩, .string ⟨#[98]⟩, .string ⟨#[122, 122]⟩]) (ok := fun _ => True) (okp := fun _ => True) ?hr ?hp (fun _ hk => hk) trivial (Below.refl _ _) (Nat.le_refl _) (by decide) ?_; (case hd => rfl); (case hg => rfl); (case hr => first | (go_simp; done) | (go_simp; rfl)); (case hp => exact (Reps.one (show Kd.M Kd.string _ _ _ _ _ from rfl) (Reps.one (show Kd.M Kd.string _ _ _ _ _ from rfl) (Reps.one (show Kd.M Kd.string _ _ _ _ _ from rfl) (Reps.one (show Kd.M Kd.string _ _ _ _ _ from rfl) (Reps.none _ _)))))); intro v1 w1 ho hb1 _ _; obtain ⟨A1, c1, e1⟩ := Kd.R_slice ho; subst e1; have HO1 := Aside0.mk ho; have HB1 := Aside0.mk hb1; clear ho hb1) | ((with_reducible refine gate_callee (f := 14) rfl ?_); (try (refine gate_guard (by rfl) ?_; dsimp only)); refine goesL_ (some 9) rfl rfl Try.func14 (by kernel_rfl) rfl #[.slice A1 wordsA.length c1] rfl (by (try simp only [List.map_toArray, List.map_cons, List.map_nil]); first | done | rfl) ?_; (with_reducible refine (graph_Build.calls K A1 c1 wordsA ns w1 (Kd.R_reads' HO1.out).2.2 (Kd.R_reads' HO1.out).2.1 HB.out).mono ?_); rintro e w2 ⟨g, rfl, _, hg, hb2⟩; refine ⟨_, rfl, ?_⟩; have HG2 := Aside0.mk hg; have HB2 := Aside0.mk (below_step HB1.out hb2); clear hg hb2 HO1) | ((with_reducible refine gate_callee (f := 15) rfl ?_); (try (refine gate_guard (by rfl) ?_; dsimp only)); refine goesL_ (some 15) rfl rfl Try.func15 (by kernel_rfl) rfl #[.pointer (some ⟨g, 0, none⟩), .string ⟨#[97, 98]⟩, .int .i64 1, .bool true, .agg #[.int .i64 0, .string ⟨#[]⟩], .int .i64 2] rfl (by (try simp only [List.map_toArray, List.map_cons, List.map_nil]); first | done | rfl) ?_; (with_reducible refine (walk_Next.calls K g ns ⟨#[97, 98]⟩ 1 true ⟨0, ⟨#[]⟩⟩ 2 [⟨0, ⟨#[97, 98]⟩⟩, ⟨1, ⟨#[97, 98, 99]⟩⟩] false _ HG2.out HN1.out).mono ?_); rintro e w3 ⟨v3, rfl, ho, hb2⟩; refine ⟨_, rfl, ?_⟩; obtain ⟨A3, c3, e3⟩ := Kd.R_slice ho; subst e3; have HO3 := Aside0.mk ho; have HG3 := Aside0.mk (HG2.out.below hb2); have HB3 := Aside0.mk (below_step HB2.out hb2); clear ho hb2) | ((with_reducible refine gate_callee (f := 15) rfl ?_); (try (refine gate_guard (by rfl) ?_; dsimp only)); refine goesL_ (some 21) rfl rfl Try.func15 (by kernel_rfl) rfl #[.pointer (some ⟨g, 0, none⟩), .string ⟨#[97, 98]⟩, .int .i64 1, .bool false, .agg #[.int .i64 1, .string ⟨#[97, 98, 99]⟩], .int .i64 2] rfl (by (try simp only [List.map_toArray, List.map_cons, List.map_nil]); first | done | rfl) ?_; (with_reducible refine (walk_Next.calls K g ns ⟨#[97, 98]⟩ 1 false ⟨1, ⟨#[97, 98, 99]⟩⟩ 2 [⟨1, ⟨#[98]⟩⟩] true _ HG3.out HN2.out).mono ?_); rintro e w4 ⟨v4, rfl, ho, hb2⟩; refine ⟨_, rfl, ?_⟩; obtain ⟨A4, c4, e4⟩ := Kd.R_slice ho; subst e4; have HO4 := Aside0.mk ho; have HG4 := Aside0.mk (HG3.out.below hb2); have HB4 := Aside0.mk (below_step HB3.out hb2); have HO3' := Aside0.mk (Kd.R_below HO3.out hb2); clear ho hb2) | ((with_reducible refine gate_dst (N := 27) rfl ?_); (try (refine gate_guard (by rfl) ?_; dsimp only)); refine Kd.R_lit (w0 := w4) k24 w4.heap.size 24 ?hg (N := 27) ?hd (xs := ([⟨0, ⟨#[97, 98]⟩⟩, ⟨1, ⟨#[97, 98, 99]⟩⟩] : List S24)) (inner := [.int .i64 0, .string ⟨#[97, 98]⟩, .int .i64 1, .string ⟨#[97, 98, 99]⟩]) (ok := fun _ => True) (okp := fun _ => True) ?hr ?hp (fun _ hk => hk) trivial (Below.refl _ _) (Nat.le_refl _) (by decide) ?_; (case hd => rfl); (case hg => rfl); (case hr => first | (go_simp; done) | (go_simp; rfl)); (case hp => exact (Reps.c2 (show Kd.M k24 _ _ _ _ _ from k24_mkM _ _ _ (⟨0, ⟨#[97, 98]⟩⟩ : S24)) (Reps.c2 (show Kd.M k24 _ _ _ _ _ from k24_mkM _ _ _ (⟨1, ⟨#[97, 98, 99]⟩⟩ : S24)) (Reps.none _ _)))); intro v5 w5 ho hb2 _ _; obtain ⟨A5, c5, e5⟩ := Kd.R_slice ho; subst e5; have HO5 := Aside0.mk ho; have HO35 := Aside0.mk (Kd.R_below HO3'.out hb2); have HO45 := Aside0.mk (Kd.R_below HO4.out hb2); have HB5 := Aside0.mk (below_step HB4.out hb2); clear ho hb2) | ((with_reducible refine gate_callee (f := 17) rfl ?_); (try (refine gate_guard (by rfl) ?_; dsimp only)); refine goesL_ (some 28) rfl rfl Try.func17 (by kernel_rfl) rfl #[.slice A3 ([⟨0, ⟨#[97, 98]⟩⟩, ⟨1, ⟨#[97, 98, 99]⟩⟩] : List S24).length c3, .slice A5 ([⟨0, ⟨#[97, 98]⟩⟩, ⟨1, ⟨#[97, 98, 99]⟩⟩] : List S24).length c5] rfl (by (try simp only [List.map_toArray, List.map_cons, List.map_nil]); first | done | rfl) ?_; (with_reducible refine (inkhornlaw0_SameItems.calls K A3 c3 [⟨0, ⟨#[97, 98]⟩⟩, ⟨1, ⟨#[97, 98, 99]⟩⟩] A5 c5 [⟨0, ⟨#[97, 98]⟩⟩, ⟨1, ⟨#[97, 98, 99]⟩⟩] true _ (Kd.R_reads' HO35.out).2.2 (Kd.R_reads' HO35.out).2.1 (Kd.R_reads' HO5.out).2.2 (Kd.R_reads' HO5.out).2.1 HS1.out).mono ?_); rintro e w6 ⟨rfl, hd⟩; refine ⟨_, rfl, ?_⟩; have hb2 := hd.below; have HB6 := Aside0.mk (below_step HB5.out hb2); have HO46 := Aside0.mk (Kd.R_below HO45.out hb2); clear hd hb2) | ((with_reducible refine gate_dst (N := 36) rfl ?_); (try (refine gate_guard (by rfl) ?_; dsimp only)); refine Kd.R_lit (w0 := w6) k24 w6.heap.size 24 ?hg (N := 36) ?hd (xs := ([⟨1, ⟨#[98]⟩⟩] : List S24)) (inner := [.int .i64 1, .string ⟨#[98]⟩]) (ok := fun _ => True) (okp := fun _ => True) ?hr ?hp (fun _ hk => hk) trivial (Below.refl _ _) (Nat.le_refl _) (by decide) ?_; (case hd => rfl); (case hg => rfl); (case hr => first | (go_simp; done) | (go_simp; rfl)); (case hp => exact (Reps.c2 (show Kd.M k24 _ _ _ _ _ from k24_mkM _ _ _ (⟨1, ⟨#[98]⟩⟩ : S24)) (Reps.none _ _))); intro v7 w7 ho hb2 _ _; obtain ⟨A7, c7, e7⟩ := Kd.R_slice ho; subst e7; have HO7 := Aside0.mk ho; have HO47 := Aside0.mk (Kd.R_below HO46.out hb2); have HB7 := Aside0.mk (below_step HB6.out hb2); clear ho hb2) | ((with_reducible refine gate_callee (f := 17) rfl ?_); (try (refine gate_guard (by rfl) ?_; dsimp only)); refine goesL_ (some 37) rfl rfl Try.func17 (by kernel_rfl) rfl #[.slice A4 ([⟨1, ⟨#[98]⟩⟩] : List S24).length c4, .slice A7 ([⟨1, ⟨#[98]⟩⟩] : List S24).length c7] rfl (by (try simp only [List.map_toArray, List.map_cons, List.map_nil]); first | done | rfl) ?_; (with_reducible refine (inkhornlaw0_SameItems.calls K A4 c4 [⟨1, ⟨#[98]⟩⟩] A7 c7 [⟨1, ⟨#[98]⟩⟩] true _ (Kd.R_reads' HO47.out).2.2 (Kd.R_reads' HO47.out).2.1 (Kd.R_reads' HO7.out).2.2 (Kd.R_reads' HO7.out).2.1 HS2.out).mono ?_); rintro e w8 ⟨rfl, hd⟩; refine ⟨_, rfl, ?_⟩; have hb2 := hd.below; have HB8 := Aside0.mk (below_step HB7.out hb2); clear hd hb2))
  go_ret
  exact ⟨rfl, HB8.out⟩
end Go.Proofs.Ytklidannncajiaa.OW

namespace Go.Proofs.Ytklidannncajiaa.OW
open Go.RowKit Go.Proofs.YtklidannncajiaaW.PrintWords Go.Proofs.YtklidannncajiaaW.PrintLast Go.Proofs.YtklidannncajiaaW.PrintMore Go.Proofs.Ytklidannncajiaa.Am

theorem lessP_iff {a b : S24} : lessP a b = true ↔ (a.f0 < b.f0 ∨ (a.f0 = b.f0 ∧ ltB a.f1 b.f1)) := by unfold lessP; exact decide_eq_true_iff
theorem lessP_trans {a b c : S24} (h : lessP a b = true) (h' : lessP b c = true) : lessP a c = true := by
  rw [lessP_iff] at *
  rcases h with h | ⟨h, h2⟩
  · rcases h' with h' | ⟨h', _⟩ <;> exact .inl (by omega)
  · rcases h' with h' | ⟨h', h3⟩
    · exact .inl (by omega)
    · exact .inr ⟨by omega, h2.trans h3⟩
theorem lessP_irrefl (a : S24) : ¬ lessP a a = true := by
  rw [lessP_iff]
  rintro (h | ⟨_, h⟩)
  · omega
  · exact ltB.irrefl _ h
theorem level_sorted (q : List Int) {l : List ByteArray} (h : l.Pairwise ltB) (d : Nat) : (level q l d).Pairwise (fun a b => lessP a b = true) := by
  unfold level near
  exact (h.filter _).map _ (fun a b hab => lessP_iff.2 (.inr ⟨rfl, hab⟩))
theorem level_f0 {q : List Int} {l : List ByteArray} {d : Nat} {x : S24} (h : x ∈ level q l d) : x.f0 = d := by
  unfold level at h
  obtain ⟨y, _, rfl⟩ := List.mem_map.1 h
  rfl
theorem levels_f0 {q : List Int} {l : List ByteArray} {x : S24} {d n : Nat} (h : x ∈ levels q l d n) : (d : Int) ≤ x.f0 := by
  unfold levels at h
  obtain ⟨e, he, hx⟩ := List.mem_flatMap.1 h
  have := (List.mem_range'_1.1 he).1
  rw [level_f0 hx]
  omega
theorem levels_sorted (q : List Int) {l : List ByteArray} (h : l.Pairwise ltB) : ∀ (n d : Nat), (levels q l d n).Pairwise (fun a b => lessP a b = true)
  | 0, d => by simp [levels]
  | n + 1, d => by
    rw [levels_succ]
    refine List.pairwise_append.2 ⟨level_sorted q h d, levels_sorted q h n (d + 1), fun a ha b hb => lessP_iff.2 (.inl ?_)⟩
    have := level_f0 ha
    have := levels_f0 hb
    omega
theorem keep_le {first : Bool} {af x y : S24} (h : keepP first af x = true) (h' : lessP x y = true) : keepP first af y = true := by
  unfold keepP at *
  rcases Bool.or_eq_true_iff.1 h with h | h
  · exact Bool.or_eq_true_iff.2 (.inl h)
  · exact Bool.or_eq_true_iff.2 (.inr (lessP_trans h h'))
theorem rest_split {L : List S24} (hs : L.Pairwise (fun a b => lessP a b = true)) (first : Bool) (af x : S24) (j : Nat) (hx : (L.filter (keepP first af))[j]? = some x) : L.filter (keepP false x) = (L.filter (keepP first af)).drop (j + 1) := by
  have hj : j < (L.filter (keepP first af)).length := (List.getElem?_eq_some_iff.1 hx).1
  have hxe : (L.filter (keepP first af))[j] = x := (List.getElem?_eq_some_iff.1 hx).2
  have hR : (L.filter (keepP first af)).Pairwise (fun a b => lessP a b = true) := hs.filter _
  have hkx : keepP first af x = true := (List.mem_filter.1 (hxe ▸ List.getElem_mem hj)).2
  have e1 : L.filter (keepP false x) = (L.filter (keepP first af)).filter (keepP false x) := by
    rw [List.filter_filter]
    refine List.filter_congr fun y _ => ?_
    cases h : keepP false x y with
    | false => simp
    | true =>
      have : lessP x y = true := by simpa [keepP] using h
      rw [keep_le hkx this]; rfl
  rw [e1]
  generalize L.filter (keepP first af) = R at *
  rw [List.pairwise_iff_getElem] at hR
  conv => lhs; rw [← List.take_append_drop (j + 1) R]
  rw [List.filter_append]
  have e2 : (R.take (j + 1)).filter (keepP false x) = [] := by
    rw [List.filter_eq_nil_iff]
    intro y hy hk
    have hk : lessP x y = true := by simpa [keepP] using hk
    obtain ⟨i, hi, rfl⟩ := List.getElem_of_mem hy
    rw [List.length_take] at hi
    rw [List.getElem_take] at hk
    rcases Nat.lt_or_ge i j with h | h
    · have := hR i j (by omega) hj h
      rw [hxe] at this
      exact lessP_irrefl _ (lessP_trans this hk)
    · have : i = j := by omega
      subst this
      rw [hxe] at hk
      exact lessP_irrefl _ hk
  have e3 : (R.drop (j + 1)).filter (keepP false x) = R.drop (j + 1) := by
    rw [List.filter_eq_self]
    intro y hy
    obtain ⟨i, hi, rfl⟩ := List.getElem_of_mem hy
    rw [List.length_drop] at hi
    rw [List.getElem_drop]
    have := hR j (j + 1 + i) hj (by omega) (by omega)
    rw [hxe] at this
    simpa [keepP] using this
  rw [e2, e3, List.nil_append]
/-! ### a text that parts in length from all words -/
end Go.Proofs.Ytklidannncajiaa.OW

namespace Go.Proofs.Ytklidannncajiaa.OW
open Go.RowKit Go.Proofs.YtklidannncajiaaW.PrintWords Go.Proofs.YtklidannncajiaaW.PrintLast Go.Proofs.YtklidannncajiaaW.PrintMore Go.Proofs.Ytklidannncajiaa.Am
set_option linter.unusedVariables false
set_option linter.unusedSimpArgs false

/-! ### Put -/
theorem lessP_total {a b : S24} (h : ¬ lessP a b = true) (hne : a ≠ b) : lessP b a = true := by
  rw [lessP_iff] at h ⊢
  by_cases h1 : b.f0 < a.f0
  · exact .inl h1
  · have e : a.f0 = b.f0 := by
      by_cases h2 : a.f0 < b.f0
      · exact absurd (.inl h2) h
      · omega
    refine .inr ⟨e.symm, ltB.total (fun h3 => h (.inr ⟨e, h3⟩)) (fun h3 => hne ?_)⟩
    cases a; cases b
    simp only at e h3
    rw [e, h3]
theorem sorted_eq : ∀ {a b : List S24}, a.Pairwise (fun a b => lessP a b = true) → b.Pairwise (fun a b => lessP a b = true) → (∀ x, x ∈ a ↔ x ∈ b) → a = b
  | [], [], _, _, _ => rfl
  | [], y :: b, _, _, h => absurd ((h y).2 List.mem_cons_self) (by simp)
  | x :: a, [], _, _, h => absurd ((h x).1 List.mem_cons_self) (by simp)
  | x :: a, y :: b, ha, hb, h => by
    obtain ⟨a1, a2⟩ := List.pairwise_cons.1 ha
    obtain ⟨b1, b2⟩ := List.pairwise_cons.1 hb
    have e : x = y := by
      rcases List.mem_cons.1 ((h x).1 List.mem_cons_self) with h1 | h1
      · exact h1
      · rcases List.mem_cons.1 ((h y).2 List.mem_cons_self) with h2 | h2
        · exact h2.symm
        · exact absurd (lessP_trans (a1 y h2) (b1 x h1)) (lessP_irrefl x)
    subst e
    rw [sorted_eq a2 b2 (fun z => ?_)]
    constructor
    · intro hz
      rcases List.mem_cons.1 ((h z).1 (List.mem_cons_of_mem _ hz)) with rfl | h1
      · exact absurd (a1 z hz) (lessP_irrefl z)
      · exact h1
    · intro hz
      rcases List.mem_cons.1 ((h z).2 (List.mem_cons_of_mem _ hz)) with rfl | h1
      · exact absurd (b1 z hz) (lessP_irrefl z)
      · exact h1
theorem mem_levels {q : List Int} {l : List ByteArray} {n : Nat} {x : S24} : x ∈ levels q l 0 n ↔ ∃ w ∈ l, far q (runes w 0) < n ∧ x = ⟨(far q (runes w 0) : Int), w⟩ := by
  unfold levels
  rw [List.mem_flatMap]
  constructor
  · rintro ⟨d, hd, hx⟩
    unfold level near at hx
    obtain ⟨w, hw, rfl⟩ := List.mem_map.1 hx
    obtain ⟨hw1, hw2⟩ := List.mem_filter.1 hw
    have hw2 : far q (runes w 0) = d := by simpa using hw2
    have := (List.mem_range'_1.1 hd).2
    exact ⟨w, hw1, by omega, by rw [hw2]⟩
  · rintro ⟨w, hw, hlt, rfl⟩
    refine ⟨far q (runes w 0), List.mem_range'_1.2 ⟨Nat.zero_le _, by omega⟩, ?_⟩
    unfold level near
    exact List.mem_map.2 ⟨w, List.mem_filter.2 ⟨hw, by simp⟩, rfl⟩
end Go.Proofs.Ytklidannncajiaa.OW
