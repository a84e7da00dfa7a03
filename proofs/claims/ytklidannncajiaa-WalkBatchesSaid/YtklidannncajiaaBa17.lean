/- What the row of the law WalkBatches leans on: contracts of functions and plain laws, each for all inputs that its own theorem names. -/
import Derived.Test.YtklidannncajiaaBa16
import Derived.Deep.CutRange
namespace Go.Proofs.Ytklidannncajiaa.OW
open Go.RowKit Go.Proofs.YtklidannncajiaaW.PrintWords Go.Proofs.YtklidannncajiaaW.PrintLast Go.Proofs.YtklidannncajiaaW.PrintMore Go.Proofs.Ytklidannncajiaa.Am
set_option linter.unusedVariables false
set_option linter.unusedSimpArgs false

/-- The last of those told so far. -/
def afterP (L : List S24) (p : Nat) : S24 := if p = 0 then ⟨0, ⟨#[]⟩⟩ else L.getD (p - 1) z24
theorem next_batchP {ns : List S72} {l : List ByteArray} (hg : GoodW l) (hG : Graph ns l) {q0 : ByteArray} (hq : q0.size ≤ 100) {k : Nat} (ha : isAsked q0) (hk : k ≤ 4) (p n : Nat) (hp : p ≤ (allL q0 k l).length) :
    Ev (fun K => walk_Next.f K ns q0 (k : Int) (decide (p = 0)) (afterP (allL q0 k l) p) (n : Int)) (((allL q0 k l).drop p).take n, decide ((allL q0 k l).length - p ≤ n)) := by
  have h := next_ev hG q0 (by omega) (k : Int) (decide (p = 0)) (afterP (allL q0 k l) p) (n : Int)
  have e : restP q0 (k : Int) l (decide (p = 0)) (afterP (allL q0 k l) p) = (allL q0 k l).drop p := by
    by_cases h0 : p = 0
    · rw [decide_eq_true h0, rest_first ha hk, h0, List.drop_zero]
    · rw [decide_eq_false h0]
      have hs := levels_sorted (runes q0 0) hg.sorted (k + 1) 0
      have hz : (allL q0 k l)[p - 1]? = some (afterP (allL q0 k l) p) := by
        unfold afterP
        rw [if_neg h0, List.getD_eq_getElem?_getD, List.getElem?_eq_getElem (by omega)]
        rfl
      have e1 := rest_split (L := allL q0 k l) hs true ⟨0, ⟨#[]⟩⟩ (afterP (allL q0 k l) p) (p - 1) (by rw [filter_first]; exact hz)
      rw [filter_first, show p - 1 + 1 = p by omega] at e1
      unfold restP allP
      rw [if_pos ⟨ha, by omega, by omega⟩]
      exact e1
  unfold nextP at h
  rw [e, List.length_drop, Int.toNat_natCast] at h
  exact h
theorem take_drop_len (L : List S24) (p n : Nat) : L.take p ++ (L.drop p).take n = L.take (p + ((L.drop p).take n).length) := by
  rw [List.take_add, List.length_take]
  congr 1
  rw [List.length_drop]
  rcases Nat.le_total n (L.length - p) with h | h
  · rw [Nat.min_eq_left h]
  · rw [Nat.min_eq_right h, List.take_of_length_le (by rw [List.length_drop]; omega), List.take_of_length_le (by rw [List.length_drop]; omega)]
theorem allL_le {q0 : ByteArray} {k : Nat} {l : List ByteArray} (hg : GoodW l) : (allL q0 k l).length ≤ l.length := by
  have h : (l.filterMap (nearI (runes q0 0) k)).Perm (allL q0 k l) := by
    have h1 := nearI_nodup (q := runes q0 0) (k := k) hg.sorted
    have h2 : (allL q0 k l).Nodup := (levels_sorted (runes q0 0) hg.sorted (k + 1) 0).imp fun {a b} hab e => by rw [e] at hab; exact lessP_irrefl _ hab
    exact (List.perm_ext_iff_of_nodup h1 h2).2 fun x => mem_nearI
  rw [← h.length_eq]
  exact List.length_filterMap_le _ _
set_option maxHeartbeats 16000000 in
set_option maxRecDepth 100000 in
theorem walkBatches_calls (A : Option Addr) (c : Nat) (l : List ByteArray) (q0 : ByteArray) (q1 q2 : Int) (S : Option Addr) (cs : Nat) (sz : List Int) (w : World) (hr : Kd.C Kd.string w A l.length l) (hc : l.length ≤ c) (hrs : Kd.C (Kd.int .i64) w S sz.length sz) (hcs : sz.length ≤ cs) :
    Calls Try.prog 8 #[.slice A l.length c, .agg #[.string q0, .int .i64 q1, .int .i64 q2], .slice S sz.length cs] w fun e w' => e = .returned (.bool true) ∧ Below w.heap.size w w' := by
  have hb0 := (Below.refl w.heap.size w).alloc (Nat.le_refl _) (.cells #[.string q0, .int .i64 q1, .int .i64 q2] 39)
  have HW := Aside0.mk hb0
  have HQ := Aside0.mk (heap_alloc_new w (.cells #[.string q0, .int .i64 q1, .int .i64 q2] 39))
  have HR := Aside0.mk (Kd.C_below hr hb0)
  have HSZ := Aside0.mk (Kd.C_below hrs hb0)
  have HC := Aside0.mk hc
  have HCS := Aside0.mk hcs
  clear hr hc hrs hcs hb0
  obtain ⟨G, hG⟩ : ∃ G, G = !decide (Small l ∧ q0.size ≤ 100) := ⟨_, rfl⟩
  obtain ⟨KG, hKG⟩ := great_small l q0
  cases G with
  | true =>
    have HG := Aside0.mk (show inkhornlaw11_great.f KG l q0 = some true from (hKG KG (Nat.le_refl _)).trans (congrArg some hG.symm))
    clear hKG hG
    go_enter Try.func8, Try.ntmps8
    go_upto_region 1 with fail
    generalize w.alloc (.cells #[.string q0, .int .i64 q1, .int .i64 q2] 39) = w1 at HW HQ HR HSZ ⊢
    have cq0 : w1.cell? ⟨w.heap.size, 0, none⟩ = some (.string q0) := blk_cell HQ.out 0
    have cq1 : w1.cell? ⟨w.heap.size, 1, none⟩ = some (.int .i64 q1) := blk_cell HQ.out 1
    have cq2 : w1.cell? ⟨w.heap.size, 2, none⟩ = some (.int .i64 q2) := blk_cell HQ.out 2
    go_wp2_with (first | ((with_reducible refine gate_callee (f := 12) rfl ?_); (try (refine gate_guard (by rfl) ?_; dsimp only)); refine goesL_ (some 19) rfl rfl Try.func12 (by kernel_rfl) rfl #[.slice A l.length c, .string q0] rfl (by (try simp only [List.map_toArray, List.map_cons, List.map_nil]); first | done | rfl) ?_; (with_reducible refine (inkhornlaw11_great.calls KG A c l q0 true _ HR.out HC.out HG.out).mono ?_); rintro e w2 ⟨rfl, hd⟩; refine ⟨_, rfl, ?_⟩; have hb := hd.below; have q_HW := Aside0.mk (below_step HW.out hb); clear HW; have HW := q_HW; clear q_HW; have q_HQ := Aside0.mk (blk_below HQ.out hb); clear HQ; have HQ := q_HQ; clear q_HQ; have q_HR := Aside0.mk (Kd.C_below HR.out hb); clear HR; have HR := q_HR; clear q_HR; have q_HSZ := Aside0.mk (Kd.C_below HSZ.out hb); clear HSZ; have HSZ := q_HSZ; clear q_HSZ; clear cq0; have cq0 : w2.cell? ⟨w.heap.size, 0, none⟩ = some (.string q0) := blk_cell HQ.out 0; clear cq1; have cq1 : w2.cell? ⟨w.heap.size, 1, none⟩ = some (.int .i64 q1) := blk_cell HQ.out 1; clear cq2; have cq2 : w2.cell? ⟨w.heap.size, 2, none⟩ = some (.int .i64 q2) := blk_cell HQ.out 2; clear hb hd) | ((with_reducible refine gate_callee (f := 13) rfl ?_); (try (refine gate_guard (by rfl) ?_; dsimp only)); refine goesL_ (some 30) rfl rfl Try.func13 (by kernel_rfl) rfl #[] rfl (by (try simp only [List.map_toArray, List.map_cons, List.map_nil]); first | done | rfl) ?_; (with_reducible refine (awake_calls _).mono ?_); rintro e w3 ⟨rfl, hb⟩; refine ⟨_, rfl, ?_⟩; have q_HW := Aside0.mk (below_step HW.out hb); clear HW; have HW := q_HW; clear q_HW; have q_HQ := Aside0.mk (blk_below HQ.out hb); clear HQ; have HQ := q_HQ; clear q_HQ; have q_HR := Aside0.mk (Kd.C_below HR.out hb); clear HR; have HR := q_HR; clear q_HR; have q_HSZ := Aside0.mk (Kd.C_below HSZ.out hb); clear HSZ; have HSZ := q_HSZ; clear q_HSZ; clear cq0; have cq0 : w3.cell? ⟨w.heap.size, 0, none⟩ = some (.string q0) := blk_cell HQ.out 0; clear cq1; have cq1 : w3.cell? ⟨w.heap.size, 1, none⟩ = some (.int .i64 q1) := blk_cell HQ.out 1; clear cq2; have cq2 : w3.cell? ⟨w.heap.size, 2, none⟩ = some (.int .i64 q2) := blk_cell HQ.out 2; clear hb))
    go_ret
    exact ⟨rfl, HW.out⟩
  | false =>
    obtain ⟨hsm, hqs⟩ : Small l ∧ q0.size ≤ 100 := by simpa using hG.symm
    have HG := Aside0.mk (show inkhornlaw11_great.f KG l q0 = some false from (hKG KG (Nat.le_refl _)).trans (congrArg some hG.symm))
    clear hKG hG
    by_cases hlong : (sz.length : Int) > 200
    · have hlong2 : decide ((sz.length : Int) > 200) = true := decide_eq_true hlong
      clear hsm hqs
      go_enter Try.func8, Try.ntmps8
      go_upto_region 1 with fail
      generalize w.alloc (.cells #[.string q0, .int .i64 q1, .int .i64 q2] 39) = w1 at HW HQ HR HSZ ⊢
      have cq0 : w1.cell? ⟨w.heap.size, 0, none⟩ = some (.string q0) := blk_cell HQ.out 0
      have cq1 : w1.cell? ⟨w.heap.size, 1, none⟩ = some (.int .i64 q1) := blk_cell HQ.out 1
      have cq2 : w1.cell? ⟨w.heap.size, 2, none⟩ = some (.int .i64 q2) := blk_cell HQ.out 2
      go_wp2_with (first | ((with_reducible refine gate_callee (f := 12) rfl ?_); (try (refine gate_guard (by rfl) ?_; dsimp only)); refine goesL_ (some 19) rfl rfl Try.func12 (by kernel_rfl) rfl #[.slice A l.length c, .string q0] rfl (by (try simp only [List.map_toArray, List.map_cons, List.map_nil]); first | done | rfl) ?_; (with_reducible refine (inkhornlaw11_great.calls KG A c l q0 false _ HR.out HC.out HG.out).mono ?_); rintro e w2 ⟨rfl, hd⟩; refine ⟨_, rfl, ?_⟩; have hb := hd.below; have q_HW := Aside0.mk (below_step HW.out hb); clear HW; have HW := q_HW; clear q_HW; have q_HQ := Aside0.mk (blk_below HQ.out hb); clear HQ; have HQ := q_HQ; clear q_HQ; have q_HR := Aside0.mk (Kd.C_below HR.out hb); clear HR; have HR := q_HR; clear q_HR; have q_HSZ := Aside0.mk (Kd.C_below HSZ.out hb); clear HSZ; have HSZ := q_HSZ; clear q_HSZ; clear cq0; have cq0 : w2.cell? ⟨w.heap.size, 0, none⟩ = some (.string q0) := blk_cell HQ.out 0; clear cq1; have cq1 : w2.cell? ⟨w.heap.size, 1, none⟩ = some (.int .i64 q1) := blk_cell HQ.out 1; clear cq2; have cq2 : w2.cell? ⟨w.heap.size, 2, none⟩ = some (.int .i64 q2) := blk_cell HQ.out 2; clear hb hd) | ((with_reducible refine gate_callee (f := 13) rfl ?_); (try (refine gate_guard (by rfl) ?_; dsimp only)); refine goesL_ (some 30) rfl rfl Try.func13 (by kernel_rfl) rfl #[] rfl (by (try simp only [List.map_toArray, List.map_cons, List.map_nil]); first | done | rfl) ?_; (with_reducible refine (awake_calls _).mono ?_); rintro e w3 ⟨rfl, hb⟩; refine ⟨_, rfl, ?_⟩; have q_HW := Aside0.mk (below_step HW.out hb); clear HW; have HW := q_HW; clear q_HW; have q_HQ := Aside0.mk (blk_below HQ.out hb); clear HQ; have HQ := q_HQ; clear q_HQ; have q_HR := Aside0.mk (Kd.C_below HR.out hb); clear HR; have HR := q_HR; clear q_HR; have q_HSZ := Aside0.mk (Kd.C_below HSZ.out hb); clear HSZ; have HSZ := q_HSZ; clear q_HSZ; clear cq0; have cq0 : w3.cell? ⟨w.heap.size, 0, none⟩ = some (.string q0) := blk_cell HQ.out 0; clear cq1; have cq1 : w3.cell? ⟨w.heap.size, 1, none⟩ = some (.int .i64 q1) := blk_cell HQ.out 1; clear cq2; have cq2 : w3.cell? ⟨w.heap.size, 2, none⟩ = some (.int .i64 q2) := blk_cell HQ.out 2; clear hb))
      go_ret
      exact ⟨rfl, HW.out⟩
    have hlong2 : decide ((sz.length : Int) > 200) = false := decide_eq_false hlong
    have hlong3 : ¬ (200 : Int) < (sz.length : Int) := hlong
    obtain ⟨M, hM⟩ := may_eq q0 (by omega) q1 q2
    cases M with
    | false =>
      have HM := Aside0.mk hM
      clear hM hsm hqs
      go_enter Try.func8, Try.ntmps8
      go_upto_region 1 with fail
      generalize w.alloc (.cells #[.string q0, .int .i64 q1, .int .i64 q2] 39) = w1 at HW HQ HR HSZ ⊢
      have cq0 : w1.cell? ⟨w.heap.size, 0, none⟩ = some (.string q0) := blk_cell HQ.out 0
      have cq1 : w1.cell? ⟨w.heap.size, 1, none⟩ = some (.int .i64 q1) := blk_cell HQ.out 1
      have cq2 : w1.cell? ⟨w.heap.size, 2, none⟩ = some (.int .i64 q2) := blk_cell HQ.out 2
      go_wp2_with (first | ((with_reducible refine gate_callee (f := 12) rfl ?_); (try (refine gate_guard (by rfl) ?_; dsimp only)); refine goesL_ (some 19) rfl rfl Try.func12 (by kernel_rfl) rfl #[.slice A l.length c, .string q0] rfl (by (try simp only [List.map_toArray, List.map_cons, List.map_nil]); first | done | rfl) ?_; (with_reducible refine (inkhornlaw11_great.calls KG A c l q0 false _ HR.out HC.out HG.out).mono ?_); rintro e w2 ⟨rfl, hd⟩; refine ⟨_, rfl, ?_⟩; have hb := hd.below; have q_HW := Aside0.mk (below_step HW.out hb); clear HW; have HW := q_HW; clear q_HW; have q_HQ := Aside0.mk (blk_below HQ.out hb); clear HQ; have HQ := q_HQ; clear q_HQ; have q_HR := Aside0.mk (Kd.C_below HR.out hb); clear HR; have HR := q_HR; clear q_HR; have q_HSZ := Aside0.mk (Kd.C_below HSZ.out hb); clear HSZ; have HSZ := q_HSZ; clear q_HSZ; clear cq0; have cq0 : w2.cell? ⟨w.heap.size, 0, none⟩ = some (.string q0) := blk_cell HQ.out 0; clear cq1; have cq1 : w2.cell? ⟨w.heap.size, 1, none⟩ = some (.int .i64 q1) := blk_cell HQ.out 1; clear cq2; have cq2 : w2.cell? ⟨w.heap.size, 2, none⟩ = some (.int .i64 q2) := blk_cell HQ.out 2; clear hb hd) | ((with_reducible refine gate_callee (f := 19) rfl ?_); (try (refine gate_guard (by rfl) ?_; dsimp only)); refine goesL_ (some 27) rfl rfl Try.func19 (by kernel_rfl) rfl #[.agg #[.string q0, .int .i64 q1, .int .i64 q2]] rfl (by (try simp only [List.map_toArray, List.map_cons, List.map_nil]); first | done | rfl) ?_; (with_reducible refine (rank_May.calls q0 q1 q2 false _ HM.out).mono ?_); rintro e w3 ⟨rfl, hb⟩; refine ⟨_, rfl, ?_⟩; have q_HW := Aside0.mk (below_step HW.out hb); clear HW; have HW := q_HW; clear q_HW; have q_HQ := Aside0.mk (blk_below HQ.out hb); clear HQ; have HQ := q_HQ; clear q_HQ; have q_HR := Aside0.mk (Kd.C_below HR.out hb); clear HR; have HR := q_HR; clear q_HR; have q_HSZ := Aside0.mk (Kd.C_below HSZ.out hb); clear HSZ; have HSZ := q_HSZ; clear q_HSZ; clear cq0; have cq0 : w3.cell? ⟨w.heap.size, 0, none⟩ = some (.string q0) := blk_cell HQ.out 0; clear cq1; have cq1 : w3.cell? ⟨w.heap.size, 1, none⟩ = some (.int .i64 q1) := blk_cell HQ.out 1; clear cq2; have cq2 : w3.cell? ⟨w.heap.size, 2, none⟩ = some (.int .i64 q2) := blk_cell HQ.out 2; clear hb) | ((with_reducible refine gate_callee (f := 13) rfl ?_); (try (refine gate_guard (by rfl) ?_; dsimp only)); refine goesL_ (some 30) rfl rfl Try.func13 (by kernel_rfl) rfl #[] rfl (by (try simp only [List.map_toArray, List.map_cons, List.map_nil]); first | done | rfl) ?_; (with_reducible refine (awake_calls _).mono ?_); rintro e w4 ⟨rfl, hb⟩; refine ⟨_, rfl, ?_⟩; have q_HW := Aside0.mk (below_step HW.out hb); clear HW; have HW := q_HW; clear q_HW; have q_HQ := Aside0.mk (blk_below HQ.out hb); clear HQ; have HQ := q_HQ; clear q_HQ; have q_HR := Aside0.mk (Kd.C_below HR.out hb); clear HR; have HR := q_HR; clear q_HR; have q_HSZ := Aside0.mk (Kd.C_below HSZ.out hb); clear HSZ; have HSZ := q_HSZ; clear q_HSZ; clear cq0; have cq0 : w4.cell? ⟨w.heap.size, 0, none⟩ = some (.string q0) := blk_cell HQ.out 0; clear cq1; have cq1 : w4.cell? ⟨w.heap.size, 1, none⟩ = some (.int .i64 q1) := blk_cell HQ.out 1; clear cq2; have cq2 : w4.cell? ⟨w.heap.size, 2, none⟩ = some (.int .i64 q2) := blk_cell HQ.out 2; clear hb))
      go_ret
      exact ⟨rfl, HW.out⟩
    | true =>
      obtain ⟨has, k, rfl, hk4⟩ := may_true (by omega) hM
      have HM := Aside0.mk hM
      clear hM
      obtain ⟨e, ns, ⟨KB, hKB⟩, hgd⟩ := build_ev hsm
      by_cases he : e = 0
      case neg =>
        have HB := Aside0.mk (show graph_Build.f KB l = some (e, ns) from hKB KB (Nat.le_refl _))
        have he2 : (e != 0) = true := by simpa using he
        have HE := Aside0.mk he
        clear he hKB hgd hsm hqs hk4
        go_enter Try.func8, Try.ntmps8
        go_upto_region 1 with fail
        generalize w.alloc (.cells #[.string q0, .int .i64 (k : Int), .int .i64 q2] 39) = w1 at HW HQ HR HSZ ⊢
        have cq0 : w1.cell? ⟨w.heap.size, 0, none⟩ = some (.string q0) := blk_cell HQ.out 0
        have cq1 : w1.cell? ⟨w.heap.size, 1, none⟩ = some (.int .i64 (k : Int)) := blk_cell HQ.out 1
        have cq2 : w1.cell? ⟨w.heap.size, 2, none⟩ = some (.int .i64 q2) := blk_cell HQ.out 2
        go_wp2_with (first | ((with_reducible refine gate_callee (f := 12) rfl ?_); (try (refine gate_guard (by rfl) ?_; dsimp only)); refine goesL_ (some 19) rfl rfl Try.func12 (by kernel_rfl) rfl #[.slice A l.length c, .string q0] rfl (by (try simp only [List.map_toArray, List.map_cons, List.map_nil]); first | done | rfl) ?_; (with_reducible refine (inkhornlaw11_great.calls KG A c l q0 false _ HR.out HC.out HG.out).mono ?_); rintro e w2 ⟨rfl, hd⟩; refine ⟨_, rfl, ?_⟩; have hb := hd.below; have q_HW := Aside0.mk (below_step HW.out hb); clear HW; have HW := q_HW; clear q_HW; have q_HQ := Aside0.mk (blk_below HQ.out hb); clear HQ; have HQ := q_HQ; clear q_HQ; have q_HR := Aside0.mk (Kd.C_below HR.out hb); clear HR; have HR := q_HR; clear q_HR; have q_HSZ := Aside0.mk (Kd.C_below HSZ.out hb); clear HSZ; have HSZ := q_HSZ; clear q_HSZ; clear cq0; have cq0 : w2.cell? ⟨w.heap.size, 0, none⟩ = some (.string q0) := blk_cell HQ.out 0; clear cq1; have cq1 : w2.cell? ⟨w.heap.size, 1, none⟩ = some (.int .i64 (k : Int)) := blk_cell HQ.out 1; clear cq2; have cq2 : w2.cell? ⟨w.heap.size, 2, none⟩ = some (.int .i64 q2) := blk_cell HQ.out 2; clear hb hd) | ((with_reducible refine gate_callee (f := 19) rfl ?_); (try (refine gate_guard (by rfl) ?_; dsimp only)); refine goesL_ (some 27) rfl rfl Try.func19 (by kernel_rfl) rfl #[.agg #[.string q0, .int .i64 (k : Int), .int .i64 q2]] rfl (by (try simp only [List.map_toArray, List.map_cons, List.map_nil]); first | done | rfl) ?_; (with_reducible refine (rank_May.calls q0 (k : Int) q2 true _ HM.out).mono ?_); rintro e w3 ⟨rfl, hb⟩; refine ⟨_, rfl, ?_⟩; have q_HW := Aside0.mk (below_step HW.out hb); clear HW; have HW := q_HW; clear q_HW; have q_HQ := Aside0.mk (blk_below HQ.out hb); clear HQ; have HQ := q_HQ; clear q_HQ; have q_HR := Aside0.mk (Kd.C_below HR.out hb); clear HR; have HR := q_HR; clear q_HR; have q_HSZ := Aside0.mk (Kd.C_below HSZ.out hb); clear HSZ; have HSZ := q_HSZ; clear q_HSZ; clear cq0; have cq0 : w3.cell? ⟨w.heap.size, 0, none⟩ = some (.string q0) := blk_cell HQ.out 0; clear cq1; have cq1 : w3.cell? ⟨w.heap.size, 1, none⟩ = some (.int .i64 (k : Int)) := blk_cell HQ.out 1; clear cq2; have cq2 : w3.cell? ⟨w.heap.size, 2, none⟩ = some (.int .i64 q2) := blk_cell HQ.out 2; clear hb) | ((with_reducible refine gate_callee (f := 14) rfl ?_); (try (refine gate_guard (by rfl) ?_; dsimp only)); refine goesL_ (some 33) rfl rfl Try.func14 (by kernel_rfl) rfl #[.slice A l.length c] rfl (by (try simp only [List.map_toArray, List.map_cons, List.map_nil]); first | done | rfl) ?_; (with_reducible refine (graph_Build.not KB A c l e ns _ HR.out HC.out HB.out HE.out).mono ?_); rintro e w4 ⟨rfl, hb⟩; refine ⟨_, rfl, ?_⟩; have q_HW := Aside0.mk (below_step HW.out hb); clear HW; have HW := q_HW; clear q_HW; have q_HQ := Aside0.mk (blk_below HQ.out hb); clear HQ; have HQ := q_HQ; clear q_HQ; have q_HR := Aside0.mk (Kd.C_below HR.out hb); clear HR; have HR := q_HR; clear q_HR; have q_HSZ := Aside0.mk (Kd.C_below HSZ.out hb); clear HSZ; have HSZ := q_HSZ; clear q_HSZ; clear cq0; have cq0 : w4.cell? ⟨w.heap.size, 0, none⟩ = some (.string q0) := blk_cell HQ.out 0; clear cq1; have cq1 : w4.cell? ⟨w.heap.size, 1, none⟩ = some (.int .i64 (k : Int)) := blk_cell HQ.out 1; clear cq2; have cq2 : w4.cell? ⟨w.heap.size, 2, none⟩ = some (.int .i64 q2) := blk_cell HQ.out 2; clear hb) | ((with_reducible refine gate_callee (f := 13) rfl ?_); (try (refine gate_guard (by rfl) ?_; dsimp only)); refine goesL_ (some 45) rfl rfl Try.func13 (by kernel_rfl) rfl #[] rfl (by (try simp only [List.map_toArray, List.map_cons, List.map_nil]); first | done | rfl) ?_; (with_reducible refine (awake_calls _).mono ?_); rintro e w5 ⟨rfl, hb⟩; refine ⟨_, rfl, ?_⟩; have q_HW := Aside0.mk (below_step HW.out hb); clear HW; have HW := q_HW; clear q_HW; have q_HQ := Aside0.mk (blk_below HQ.out hb); clear HQ; have HQ := q_HQ; clear q_HQ; have q_HR := Aside0.mk (Kd.C_below HR.out hb); clear HR; have HR := q_HR; clear q_HR; have q_HSZ := Aside0.mk (Kd.C_below HSZ.out hb); clear HSZ; have HSZ := q_HSZ; clear q_HSZ; clear cq0; have cq0 : w5.cell? ⟨w.heap.size, 0, none⟩ = some (.string q0) := blk_cell HQ.out 0; clear cq1; have cq1 : w5.cell? ⟨w.heap.size, 1, none⟩ = some (.int .i64 (k : Int)) := blk_cell HQ.out 1; clear cq2; have cq2 : w5.cell? ⟨w.heap.size, 2, none⟩ = some (.int .i64 q2) := blk_cell HQ.out 2; clear hb))
        go_ret
        exact ⟨rfl, HW.out⟩
      subst he
      have HB := Aside0.mk (show graph_Build.f KB l = some (0, ns) from hKB KB (Nat.le_refl _))
      obtain ⟨hgw, hGr⟩ := hgd rfl
      have HGW := Aside0.mk hgw
      have HAS := Aside0.mk has
      have HSM := Aside0.mk hsm.2
      have HQS := Aside0.mk hqs
      obtain ⟨L, hL⟩ : ∃ L, allL q0 k l = L := ⟨_, rfl⟩
      have hlen : L.length ≤ l.length := by rw [← hL]; exact allL_le hgw
      have hll : l.length ≤ 60 := hgw.len
      obtain ⟨KS, hKS⟩ := sameItems_ev L (by omega)
      have HS := Aside0.mk (show inkhornlaw0_SameItems.f KS L L = some true from hKS KS (Nat.le_refl _))
      have HNX := Aside0.mk (show ∀ p n : Nat, p ≤ L.length → ∃ K, walk_Next.f K ns q0 (k : Int) (decide (p = 0)) (afterP L p) (n : Int) = some ((L.drop p).take n, decide (L.length - p ≤ n)) from fun p n hp => by
        obtain ⟨K, hK⟩ := next_batchP hgw hGr hqs has hk4 p n (by rw [hL]; exact hp)
        have h0 := hK K (Nat.le_refl _)
        rw [hL] at h0
        exact ⟨K, h0⟩)
      have HLE := Aside0.mk (show levels (runes q0 0) l 0 (k + 1) = L from hL)
      clear hKB hgd hKS hsm hgw has hGr hL hqs
      go_enter Try.func8, Try.ntmps8
      go_upto_region 1 with fail
      generalize w.alloc (.cells #[.string q0, .int .i64 (k : Int), .int .i64 q2] 39) = w1 at HW HQ HR HSZ ⊢
      have cq0 : w1.cell? ⟨w.heap.size, 0, none⟩ = some (.string q0) := blk_cell HQ.out 0
      have cq1 : w1.cell? ⟨w.heap.size, 1, none⟩ = some (.int .i64 (k : Int)) := blk_cell HQ.out 1
      have cq2 : w1.cell? ⟨w.heap.size, 2, none⟩ = some (.int .i64 q2) := blk_cell HQ.out 2
      go_wp2_with (first | ((with_reducible refine gate_callee (f := 12) rfl ?_); (try (refine gate_guard (by rfl) ?_; dsimp only)); refine goesL_ (some 19) rfl rfl Try.func12 (by kernel_rfl) rfl #[.slice A l.length c, .string q0] rfl (by (try simp only [List.map_toArray, List.map_cons, List.map_nil]); first | done | rfl) ?_; (with_reducible refine (inkhornlaw11_great.calls KG A c l q0 false _ HR.out HC.out HG.out).mono ?_); rintro e w2 ⟨rfl, hd⟩; refine ⟨_, rfl, ?_⟩; have hb := hd.below; have q_HW := Aside0.mk (below_step HW.out hb); clear HW; have HW := q_HW; clear q_HW; have q_HQ := Aside0.mk (blk_below HQ.out hb); clear HQ; have HQ := q_HQ; clear q_HQ; have q_HR := Aside0.mk (Kd.C_below HR.out hb); clear HR; have HR := q_HR; clear q_HR; have q_HSZ := Aside0.mk (Kd.C_below HSZ.out hb); clear HSZ; have HSZ := q_HSZ; clear q_HSZ; clear cq0; have cq0 : w2.cell? ⟨w.heap.size, 0, none⟩ = some (.string q0) := blk_cell HQ.out 0; clear cq1; have cq1 : w2.cell? ⟨w.heap.size, 1, none⟩ = some (.int .i64 (k : Int)) := blk_cell HQ.out 1; clear cq2; have cq2 : w2.cell? ⟨w.heap.size, 2, none⟩ = some (.int .i64 q2) := blk_cell HQ.out 2; clear hb hd) | ((with_reducible refine gate_callee (f := 19) rfl ?_); (try (refine gate_guard (by rfl) ?_; dsimp only)); refine goesL_ (some 27) rfl rfl Try.func19 (by kernel_rfl) rfl #[.agg #[.string q0, .int .i64 (k : Int), .int .i64 q2]] rfl (by (try simp only [List.map_toArray, List.map_cons, List.map_nil]); first | done | rfl) ?_; (with_reducible refine (rank_May.calls q0 (k : Int) q2 true _ HM.out).mono ?_); rintro e w3 ⟨rfl, hb⟩; refine ⟨_, rfl, ?_⟩; have q_HW := Aside0.mk (below_step HW.out hb); clear HW; have HW := q_HW; clear q_HW; have q_HQ := Aside0.mk (blk_below HQ.out hb); clear HQ; have HQ := q_HQ; clear q_HQ; have q_HR := Aside0.mk (Kd.C_below HR.out hb); clear HR; have HR := q_HR; clear q_HR; have q_HSZ := Aside0.mk (Kd.C_below HSZ.out hb); clear HSZ; have HSZ := q_HSZ; clear q_HSZ; clear cq0; have cq0 : w3.cell? ⟨w.heap.size, 0, none⟩ = some (.string q0) := blk_cell HQ.out 0; clear cq1; have cq1 : w3.cell? ⟨w.heap.size, 1, none⟩ = some (.int .i64 (k : Int)) := blk_cell HQ.out 1; clear cq2; have cq2 : w3.cell? ⟨w.heap.size, 2, none⟩ = some (.int .i64 q2) := blk_cell HQ.out 2; clear hb) | ((with_reducible refine gate_callee (f := 14) rfl ?_); (try (refine gate_guard (by rfl) ?_; dsimp only)); refine goesL_ (some 33) rfl rfl Try.func14 (by kernel_rfl) rfl #[.slice A l.length c] rfl (by (try simp only [List.map_toArray, List.map_cons, List.map_nil]); first | done | rfl) ?_; (with_reducible refine (graph_Build.calls KB A c l ns _ HR.out HC.out HB.out).mono ?_); rintro e w4 ⟨g, rfl, _, hgr, hb⟩; refine ⟨_, rfl, ?_⟩; have q_HW := Aside0.mk (below_step HW.out hb); clear HW; have HW := q_HW; clear q_HW; have q_HQ := Aside0.mk (blk_below HQ.out hb); clear HQ; have HQ := q_HQ; clear q_HQ; have q_HR := Aside0.mk (Kd.C_below HR.out hb); clear HR; have HR := q_HR; clear q_HR; have q_HSZ := Aside0.mk (Kd.C_below HSZ.out hb); clear HSZ; have HSZ := q_HSZ; clear q_HSZ; clear cq0; have cq0 : w4.cell? ⟨w.heap.size, 0, none⟩ = some (.string q0) := blk_cell HQ.out 0; clear cq1; have cq1 : w4.cell? ⟨w.heap.size, 1, none⟩ = some (.int .i64 (k : Int)) := blk_cell HQ.out 1; clear cq2; have cq2 : w4.cell? ⟨w.heap.size, 2, none⟩ = some (.int .i64 q2) := blk_cell HQ.out 2; have HGR := Aside0.mk (hgr); clear hgr; clear hb))
      clear cq0 cq1 cq2
      go_loopg [9, 10, 11, 12, 13, 14, 15] (l.length + 1) (fun kq v9 v10 v11 v12 v13 v14 v15 W => ∃ (i p : Nat) (E : Bool), v10 = .bool E ∧ v11 = .int .i64 i ∧ Aside0 (i + kq = l.length + 1 ∧ p ≤ L.length ∧ (E = false → i ≤ p) ∧ (E = true → p = L.length)) ∧ Aside0 (Kd.R k24 24 W w4.heap.size (fun _ => True) v9 (L.take p)) ∧ Aside0 (Below w4.heap.size w4 W))
      case atStart => exact ⟨0, 0, false, rfl, rfl, ⟨by omega, by omega, fun _ => by omega, fun h => by cases h⟩, ⟨Kd.R_nil _ _ _ _ _⟩, ⟨Below.refl _ _⟩⟩
      case round =>
        obtain ⟨i, p, E, rfl, rfl, HI, HO, HBW⟩ := hrel
        obtain ⟨h1, h2, h3, h4⟩ := HI.out
        have hb4 := HBW.out
        have HW1 := Aside0.mk (below_step HW.out hb4)
        have HQ1 := Aside0.mk (blk_below HQ.out hb4)
        have HR1 := Aside0.mk (Kd.C_below HR.out hb4)
        have HSZ1 := Aside0.mk (Kd.C_below HSZ.out hb4)
        have HGR1 := Aside0.mk (HGR.out.below hb4)
        clear hb4
        have cq0 : wr.cell? ⟨w.heap.size, 0, none⟩ = some (.string q0) := blk_cell HQ1.out 0
        have cq1 : wr.cell? ⟨w.heap.size, 1, none⟩ = some (.int .i64 (k : Int)) := blk_cell HQ1.out 1
        have cq2 : wr.cell? ⟨w.heap.size, 2, none⟩ = some (.int .i64 q2) := blk_cell HQ1.out 2
        cases E with
        | true =>
          obtain rfl := h4 rfl
          have HO1 := Aside0.mk (show Kd.R k24 24 wr w4.heap.size (fun _ => True) u9 L by have h0 := HO.out; rwa [List.take_length] at h0)
          clear HO h3 h4
          obtain ⟨A9, c9, e9⟩ := Kd.R_slice HO1.out
          subst e9
          by_cases hle : i ≤ l.length
          · have hle2 : decide ((i : Int) ≤ (l.length : Int)) = true := decide_eq_true (by omega)
            go_wp2_with (first | ((with_reducible refine gate_callee (f := 30) rfl ?_); (try (refine gate_guard (by rfl) ?_; dsimp only)); refine goesL_ (some 116) rfl rfl Try.func30 (by kernel_rfl) rfl #[.slice A l.length c, .string q0, .int .i64 (k : Int)] rfl (by (try simp only [List.map_toArray, List.map_cons, List.map_nil]); first | done | rfl) ?_; (with_reducible refine (rankAll_calls A c l q0 k _ HQS.out HSM.out hk4 HAS.out HGW.out HR1.out HC.out).mono ?_); rintro e w5 ⟨v5, rfl, ho, hb⟩; refine ⟨_, rfl, ?_⟩; rw [HLE.out] at ho; have q_HW1 := Aside0.mk (below_step HW1.out hb); clear HW1; have HW1 := q_HW1; clear q_HW1; have q_HQ1 := Aside0.mk (blk_below HQ1.out hb); clear HQ1; have HQ1 := q_HQ1; clear q_HQ1; have q_HR1 := Aside0.mk (Kd.C_below HR1.out hb); clear HR1; have HR1 := q_HR1; clear q_HR1; have q_HO1 := Aside0.mk (Kd.R_below HO1.out hb); clear HO1; have HO1 := q_HO1; clear q_HO1; clear cq0; have cq0 : w5.cell? ⟨w.heap.size, 0, none⟩ = some (.string q0) := blk_cell HQ1.out 0; clear cq1; have cq1 : w5.cell? ⟨w.heap.size, 1, none⟩ = some (.int .i64 (k : Int)) := blk_cell HQ1.out 1; clear cq2; have cq2 : w5.cell? ⟨w.heap.size, 2, none⟩ = some (.int .i64 q2) := blk_cell HQ1.out 2; have HP := Aside0.mk (ho); obtain ⟨A5, c5, e5⟩ := Kd.R_slice ho; subst e5; clear ho; clear hb) | ((with_reducible refine gate_callee (f := 17) rfl ?_); (try (refine gate_guard (by rfl) ?_; dsimp only)); refine goesL_ (some 117) rfl rfl Try.func17 (by kernel_rfl) rfl #[.slice A9 L.length c9, .slice A5 L.length c5] rfl (by (try simp only [List.map_toArray, List.map_cons, List.map_nil]); first | done | rfl) ?_; (with_reducible refine (same_calls' KS A9 c9 L L.length A5 c5 L L.length rfl rfl true _ (Kd.R_reads' HO1.out).2.2 (Kd.R_reads' HO1.out).2.1 (Kd.R_reads' HP.out).2.2 (Kd.R_reads' HP.out).2.1 HS.out).mono ?_); rintro e w6 ⟨rfl, hd⟩; refine ⟨_, rfl, ?_⟩; have hb := hd.below; have q_HW1 := Aside0.mk (below_step HW1.out hb); clear HW1; have HW1 := q_HW1; clear q_HW1; have q_HQ1 := Aside0.mk (blk_below HQ1.out hb); clear HQ1; have HQ1 := q_HQ1; clear q_HQ1; have q_HR1 := Aside0.mk (Kd.C_below HR1.out hb); clear HR1; have HR1 := q_HR1; clear q_HR1; have q_HO1 := Aside0.mk (Kd.R_below HO1.out hb); clear HO1; have HO1 := q_HO1; clear q_HO1; have q_HP := Aside0.mk (Kd.R_below HP.out hb); clear HP; have HP := q_HP; clear q_HP; clear cq0; have cq0 : w6.cell? ⟨w.heap.size, 0, none⟩ = some (.string q0) := blk_cell HQ1.out 0; clear cq1; have cq1 : w6.cell? ⟨w.heap.size, 1, none⟩ = some (.int .i64 (k : Int)) := blk_cell HQ1.out 1; clear cq2; have cq2 : w6.cell? ⟨w.heap.size, 2, none⟩ = some (.int .i64 q2) := blk_cell HQ1.out 2; clear hb hd) | ((with_reducible refine gate_callee (f := 13) rfl ?_); (try (refine gate_guard (by rfl) ?_; dsimp only)); refine goesL_ (some 120) rfl rfl Try.func13 (by kernel_rfl) rfl #[] rfl (by (try simp only [List.map_toArray, List.map_cons, List.map_nil]); first | done | rfl) ?_; (with_reducible refine (awake_calls _).mono ?_); rintro e w7 ⟨rfl, hb⟩; refine ⟨_, rfl, ?_⟩; have q_HW1 := Aside0.mk (below_step HW1.out hb); clear HW1; have HW1 := q_HW1; clear q_HW1; have q_HQ1 := Aside0.mk (blk_below HQ1.out hb); clear HQ1; have HQ1 := q_HQ1; clear q_HQ1; have q_HR1 := Aside0.mk (Kd.C_below HR1.out hb); clear HR1; have HR1 := q_HR1; clear q_HR1; have q_HO1 := Aside0.mk (Kd.R_below HO1.out hb); clear HO1; have HO1 := q_HO1; clear q_HO1; have q_HP := Aside0.mk (Kd.R_below HP.out hb); clear HP; have HP := q_HP; clear q_HP; clear cq0; have cq0 : w7.cell? ⟨w.heap.size, 0, none⟩ = some (.string q0) := blk_cell HQ1.out 0; clear cq1; have cq1 : w7.cell? ⟨w.heap.size, 1, none⟩ = some (.int .i64 (k : Int)) := blk_cell HQ1.out 1; clear cq2; have cq2 : w7.cell? ⟨w.heap.size, 2, none⟩ = some (.int .i64 q2) := blk_cell HQ1.out 2; clear hb))
            go_ret
            exact ⟨rfl, HW1.out⟩
          · have hle2 : decide ((i : Int) ≤ (l.length : Int)) = false := decide_eq_false (by omega)
            go_wp2_with (first | ((with_reducible refine gate_callee (f := 30) rfl ?_); (try (refine gate_guard (by rfl) ?_; dsimp only)); refine goesL_ (some 116) rfl rfl Try.func30 (by kernel_rfl) rfl #[.slice A l.length c, .string q0, .int .i64 (k : Int)] rfl (by (try simp only [List.map_toArray, List.map_cons, List.map_nil]); first | done | rfl) ?_; (with_reducible refine (rankAll_calls A c l q0 k _ HQS.out HSM.out hk4 HAS.out HGW.out HR1.out HC.out).mono ?_); rintro e w5 ⟨v5, rfl, ho, hb⟩; refine ⟨_, rfl, ?_⟩; rw [HLE.out] at ho; have q_HW1 := Aside0.mk (below_step HW1.out hb); clear HW1; have HW1 := q_HW1; clear q_HW1; have q_HQ1 := Aside0.mk (blk_below HQ1.out hb); clear HQ1; have HQ1 := q_HQ1; clear q_HQ1; have q_HR1 := Aside0.mk (Kd.C_below HR1.out hb); clear HR1; have HR1 := q_HR1; clear q_HR1; have q_HO1 := Aside0.mk (Kd.R_below HO1.out hb); clear HO1; have HO1 := q_HO1; clear q_HO1; clear cq0; have cq0 : w5.cell? ⟨w.heap.size, 0, none⟩ = some (.string q0) := blk_cell HQ1.out 0; clear cq1; have cq1 : w5.cell? ⟨w.heap.size, 1, none⟩ = some (.int .i64 (k : Int)) := blk_cell HQ1.out 1; clear cq2; have cq2 : w5.cell? ⟨w.heap.size, 2, none⟩ = some (.int .i64 q2) := blk_cell HQ1.out 2; have HP := Aside0.mk (ho); obtain ⟨A5, c5, e5⟩ := Kd.R_slice ho; subst e5; clear ho; clear hb) | ((with_reducible refine gate_callee (f := 17) rfl ?_); (try (refine gate_guard (by rfl) ?_; dsimp only)); refine goesL_ (some 117) rfl rfl Try.func17 (by kernel_rfl) rfl #[.slice A9 L.length c9, .slice A5 L.length c5] rfl (by (try simp only [List.map_toArray, List.map_cons, List.map_nil]); first | done | rfl) ?_; (with_reducible refine (same_calls' KS A9 c9 L L.length A5 c5 L L.length rfl rfl true _ (Kd.R_reads' HO1.out).2.2 (Kd.R_reads' HO1.out).2.1 (Kd.R_reads' HP.out).2.2 (Kd.R_reads' HP.out).2.1 HS.out).mono ?_); rintro e w6 ⟨rfl, hd⟩; refine ⟨_, rfl, ?_⟩; have hb := hd.below; have q_HW1 := Aside0.mk (below_step HW1.out hb); clear HW1; have HW1 := q_HW1; clear q_HW1; have q_HQ1 := Aside0.mk (blk_below HQ1.out hb); clear HQ1; have HQ1 := q_HQ1; clear q_HQ1; have q_HR1 := Aside0.mk (Kd.C_below HR1.out hb); clear HR1; have HR1 := q_HR1; clear q_HR1; have q_HO1 := Aside0.mk (Kd.R_below HO1.out hb); clear HO1; have HO1 := q_HO1; clear q_HO1; have q_HP := Aside0.mk (Kd.R_below HP.out hb); clear HP; have HP := q_HP; clear q_HP; clear cq0; have cq0 : w6.cell? ⟨w.heap.size, 0, none⟩ = some (.string q0) := blk_cell HQ1.out 0; clear cq1; have cq1 : w6.cell? ⟨w.heap.size, 1, none⟩ = some (.int .i64 (k : Int)) := blk_cell HQ1.out 1; clear cq2; have cq2 : w6.cell? ⟨w.heap.size, 2, none⟩ = some (.int .i64 q2) := blk_cell HQ1.out 2; clear hb hd) | ((with_reducible refine gate_callee (f := 13) rfl ?_); (try (refine gate_guard (by rfl) ?_; dsimp only)); refine goesL_ (some 120) rfl rfl Try.func13 (by kernel_rfl) rfl #[] rfl (by (try simp only [List.map_toArray, List.map_cons, List.map_nil]); first | done | rfl) ?_; (with_reducible refine (awake_calls _).mono ?_); rintro e w7 ⟨rfl, hb⟩; refine ⟨_, rfl, ?_⟩; have q_HW1 := Aside0.mk (below_step HW1.out hb); clear HW1; have HW1 := q_HW1; clear q_HW1; have q_HQ1 := Aside0.mk (blk_below HQ1.out hb); clear HQ1; have HQ1 := q_HQ1; clear q_HQ1; have q_HR1 := Aside0.mk (Kd.C_below HR1.out hb); clear HR1; have HR1 := q_HR1; clear q_HR1; have q_HO1 := Aside0.mk (Kd.R_below HO1.out hb); clear HO1; have HO1 := q_HO1; clear q_HO1; have q_HP := Aside0.mk (Kd.R_below HP.out hb); clear HP; have HP := q_HP; clear q_HP; clear cq0; have cq0 : w7.cell? ⟨w.heap.size, 0, none⟩ = some (.string q0) := blk_cell HQ1.out 0; clear cq1; have cq1 : w7.cell? ⟨w.heap.size, 1, none⟩ = some (.int .i64 (k : Int)) := blk_cell HQ1.out 1; clear cq2; have cq2 : w7.cell? ⟨w.heap.size, 2, none⟩ = some (.int .i64 q2) := blk_cell HQ1.out 2; clear hb))
            go_ret
            exact ⟨rfl, HW1.out⟩
        | false =>
          have hip : i ≤ p := h3 rfl
          clear h3 h4
          have hle2 : decide ((i : Int) ≤ (l.length : Int)) = true := decide_eq_true (by omega)
          cases gk with
          | zero => omega
          | succ ko =>
            go_upto_if 60 with fail
            go_cut [12] from 60 to 66 (fun v12 w5 => ∃ n : Nat, v12 = .int .i64 n ∧ Aside0 (1 ≤ n ∧ n ≤ 7) ∧ Aside0 (Below wr.heap.size wr w5))
            case first =>
              by_cases hs : i < sz.length
              · have hs2 : decide ((i : Int) < (sz.length : Int)) = true := decide_eq_true (by omega)
                have hh0 : (0 : Int) ≤ (i : Int) := by omega
                have hh1 : (i : Int) < (sz.length : Int) := by omega
                obtain ⟨ad, e101, hx⟩ := Kd.at_int HSZ1.out (i : Int) (by omega) (by omega)
                cases e101
                rw [Int.toNat_natCast] at hx
                generalize rd sz (i : Int) = y at hx
                obtain ⟨r, hlr, hrr⟩ := low_ev y 7 (by omega) (by omega)
                have HLR := Aside0.mk (show inkhornlaw0_Low.f y 7 = some (r : Int) from hlr)
                clear hlr
                go_wp2_with ((with_reducible refine gate_callee (f := 20) rfl ?_); (try (refine gate_guard (by rfl) ?_; dsimp only)); refine goesL_ (some 65) rfl rfl Try.func20 (by kernel_rfl) rfl #[.int .i64 y, .int .i64 7] rfl (by (try simp only [List.map_toArray, List.map_cons, List.map_nil]); first | done | rfl) ?_; (with_reducible refine (inkhornlaw0_Low.calls y 7 (r : Int) _ HLR.out).mono ?_); rintro e w5 ⟨rfl, hd⟩; refine ⟨_, rfl, ?_⟩; have HB5 := Aside0.mk hd.below; clear hd hx)
                go_meet
                exact ⟨1 + r, by first | rfl | go_num | (congr 1; omega), ⟨by omega, by omega⟩, HB5⟩
              · have hs2 : decide ((i : Int) < (sz.length : Int)) = false := decide_eq_false (by omega)
                go_wp2_with fail
                go_meet
                exact ⟨1, rfl, ⟨by omega, by omega⟩, ⟨Below.refl _ _⟩⟩
            case rest =>
              rename World => w5
              obtain ⟨n, rfl, HN, HB5⟩ := hcut
              obtain ⟨hn1, hn7⟩ := HN.out
              clear cq0 cq1 cq2
              have hb5 := HB5.out
              have HW5 := Aside0.mk (below_step HW1.out hb5)
              have HQ5 := Aside0.mk (blk_below HQ1.out hb5)
              have HGR5 := Aside0.mk (HGR1.out.below hb5)
              have HBW5 := Aside0.mk (below_step HBW.out hb5)
              have HO5 := Aside0.mk (Kd.R_below HO.out hb5)
              clear hb5 HW1 HQ1 HR1 HSZ1 HGR1 HBW HO HB5
              obtain ⟨acc, hacc⟩ : ∃ acc, L.take p = acc := ⟨_, rfl⟩
              rw [hacc] at HO5
              have HACC := Aside0.mk hacc
              have HAL := Aside0.mk (show acc.length = p by rw [← hacc, List.length_take]; omega)
              clear hacc
              obtain ⟨A9, c9, e9⟩ := Kd.R_slice HO5.out
              subst e9
              obtain ⟨K, hK⟩ := HNX.out p n h2
              obtain ⟨X, hX⟩ : ∃ X, (L.drop p).take n = X := ⟨_, rfl⟩
              obtain ⟨Is, hIs⟩ : ∃ Is, decide (L.length - p ≤ n) = Is := ⟨_, rfl⟩
              obtain ⟨F, hF⟩ : ∃ F, decide (p = 0) = F := ⟨_, rfl⟩
              obtain ⟨af, haf⟩ : ∃ af, afterP L p = af := ⟨_, rfl⟩
              rw [hX, hIs, hF, haf] at hK
              have HK := Aside0.mk hK
              have HXL := Aside0.mk (show X.length = min n (L.length - p) by rw [← hX, List.length_take, List.length_drop])
              have HXT := Aside0.mk (show acc ++ X = L.take (p + X.length) by rw [← hX, ← HACC.out]; exact take_drop_len L p n)
              have HIS := Aside0.mk hIs
              have HF := Aside0.mk hF
              have HAF := Aside0.mk haf
              clear hK hX hIs hF haf
              go_upto_region 15 with fail
              have hball := (Below.refl w5.heap.size w5).alloc (Nat.le_refl _) (.cells #[.int .i64 0, .string ⟨#[]⟩] 24)
              have hbnew := heap_alloc_new w5 (.cells #[.int .i64 0, .string ⟨#[]⟩] 24)
              have HBA := Aside0.mk hball
              have HBN := Aside0.mk hbnew
              have HO6 := Aside0.mk (Kd.R_below HO5.out hball)
              clear hball hbnew
              obtain ⟨bx, hbx⟩ : ∃ bx, w5.heap.size = bx := ⟨_, rfl⟩
              rw [hbx] at HBN ⊢
              generalize w5.alloc (.cells #[.int .i64 0, .string ⟨#[]⟩] 24) = w6 at HBA HBN HO6 ⊢
              have hbxl : w5.heap.size ≤ bx := Nat.le_of_eq hbx
              have HBX := Aside0.mk hbxl
              clear hbx hbxl
              go_upto_if 69 with fail
              go_cut [] from 69 to 75 (fun w7 => Aside0 (w7.heap[bx]? = some (.cells #[.int .i64 af.f0, .string af.f1] 24 (0, 0))) ∧ Aside0 (Below w5.heap.size w5 w7))
              case first =>
                by_cases hp0 : p = 0
                · have hal : acc.length = 0 := HAL.out.trans hp0
                  have h0a : ¬ (0 : Int) < (acc.length : Int) := by omega
                  have h0b : decide ((acc.length : Int) > 0) = false := decide_eq_false (by omega)
                  have h0c : ¬ 0 < acc.length := by omega
                  have HZ := Aside0.mk (show af = ⟨0, ⟨#[]⟩⟩ by rw [← HAF.out]; unfold afterP; exact if_pos hp0)
                  clear hal
                  go_wp2_with fail
                  go_meet
                  exact ⟨⟨by rw [HZ.out]; exact HBN.out⟩, HBA⟩
                · obtain ⟨m, hm⟩ : ∃ m, p = m + 1 := ⟨p - 1, by omega⟩
                  have hal : acc.length = m + 1 := HAL.out.trans hm
                  have h0a : (0 : Int) < (acc.length : Int) := by omega
                  have h0b : decide ((acc.length : Int) > 0) = true := decide_eq_true (by omega)
                  have h0c : 0 < acc.length := by omega
                  have hm1 : (acc.length : Int) - 1 = (m : Int) := by omega
                  have hm2 : (m : Int) < (acc.length : Int) := by omega
                  have hm3 : (0 : Int) ≤ (m : Int) := by omega
                  have hz : acc[m]? = some af := by
                    rw [← HACC.out, List.getElem?_take, if_pos (by omega), ← HAF.out]
                    unfold afterP
                    rw [if_neg hp0, List.getD_eq_getElem?_getD, show p - 1 = m by omega, List.getElem?_eq_getElem (by omega)]
                    rfl
                  obtain ⟨ga, cga, ea, _, _, cls, hga⟩ := Kd.R_form HO6.out h0c
                  injection ea with ea _ ec
                  subst ea
                  subst ec
                  obtain ⟨cel, hcl, hM, hcc, hfr⟩ := Kd.R_elem HO6.out z24 (m : Int) (by omega) (by omega)
                  rw [Int.toNat_natCast] at hM hcc hfr
                  rw [List.getD_eq_getElem?_getD, hz] at hM
                  simp only [Option.getD_some] at hM
                  obtain rfl := k24_openM hM
                  have hz0 : w6.cell? ⟨ga, m * 2, none⟩ = some (.int .i64 af.f0) := hcc 0 _ rfl
                  have hz1 : w6.cell? ⟨ga, m * 2 + 1, none⟩ = some (.string af.f1) := hcc 1 _ rfl
                  have hy0 : w6.cell? ⟨bx, 0, none⟩ = some (.int .i64 0) := blk_cell HBN.out 0
                  have hy1 : w6.cell? ⟨bx, 1, none⟩ = some (.string ⟨#[]⟩) := blk_cell HBN.out 1
                  have hf0 : w6.frozen? ⟨bx, 0, none⟩ = false := blk_frozen HBN.out 0
                  have hf1 : w6.frozen? ⟨bx, 1, none⟩ = false := blk_frozen HBN.out 1
                  have hu24 := Try.underlying24
                  have hmb : m ≤ 1000000 := by omega
                  have hwi : wrap64 (m : Int) = (m : Int) := wrn m hmb
                  clear hcc hfr hM hcl hga hal hz hm
                  go_wp2_with fail
                  go_meet
                  exact ⟨⟨blk_set (blk_set HBN.out 0 _) 1 _⟩, ⟨below_set (below_set HBA.out HBX.out) HBX.out⟩⟩
              case rest =>
                rename World => w7
                obtain ⟨HBN7, HB7⟩ := hcut
                have hb7 := HB7.out
                have HW7 := Aside0.mk (below_step HW5.out hb7)
                have HQ7 := Aside0.mk (blk_below HQ5.out hb7)
                have HGR7 := Aside0.mk (HGR5.out.below hb7)
                have HBW7 := Aside0.mk (below_step HBW5.out hb7)
                have HO7 := Aside0.mk (Kd.R_below HO5.out hb7)
                clear hb7 HW5 HQ5 HGR5 HBW5 HO5 HO6 HBA HBN HB7
                have cq0 : w7.cell? ⟨w.heap.size, 0, none⟩ = some (.string q0) := blk_cell HQ7.out 0
                have cq1 : w7.cell? ⟨w.heap.size, 1, none⟩ = some (.int .i64 (k : Int)) := blk_cell HQ7.out 1
                have ct0 : w7.cell? ⟨bx, 0, none⟩ = some (.int .i64 af.f0) := blk_cell HBN7.out 0
                have ct1 : w7.cell? ⟨bx, 1, none⟩ = some (.string af.f1) := blk_cell HBN7.out 1
                have hfd : decide ((acc.length : Int) = 0) = F := by rw [← HF.out, ← HAL.out, decide_eq_decide]; omega
                have hfb : ((acc.length : Int) == 0) = F := by rw [← hfd]; rfl
                have hfn : decide (acc.length = 0) = F := by rw [← HF.out, ← HAL.out]
                go_upto_region 18 with ((with_reducible refine gate_callee (f := 15) rfl ?_); (try (refine gate_guard (by rfl) ?_; dsimp only)); refine goesL_ (some 87) rfl rfl Try.func15 (by kernel_rfl) rfl #[.pointer (some ⟨g, 0, none⟩), .string q0, .int .i64 (k : Int), .bool F, .agg #[.int .i64 af.f0, .string af.f1], .int .i64 (n : Int)] rfl (by (try simp only [List.map_toArray, List.map_cons, List.map_nil]); first | done | rfl) ?_; (with_reducible refine (walk_Next.calls K g ns q0 (k : Int) F af (n : Int) X Is _ HGR7.out HK.out).mono ?_); rintro e w8 ⟨v8, rfl, ho, hb⟩; refine ⟨_, rfl, ?_⟩; have q_HBW7 := Aside0.mk (below_step HBW7.out hb); clear HBW7; have HBW7 := q_HBW7; clear q_HBW7; have q_HO7 := Aside0.mk (Kd.R_below HO7.out hb); clear HO7; have HO7 := q_HO7; clear q_HO7; have q_HW7 := Aside0.mk (below_step HW7.out hb); clear HW7; have HW7 := q_HW7; clear q_HW7; have q_HQ7 := Aside0.mk (blk_below HQ7.out hb); clear HQ7; have HQ7 := q_HQ7; clear q_HQ7; have q_HGR7 := Aside0.mk (HGR7.out.below hb); clear HGR7; have HGR7 := q_HGR7; clear q_HGR7; have HX := Aside0.mk (ho); obtain ⟨A8, c8, e8⟩ := Kd.R_slice ho; subst e8; clear ho; clear hb)
                clear cq0 cq1 ct0 ct1 hfd hfb hfn
                have hxl := HXL.out
                have hx1 : ¬ (n : Int) < (X.length : Int) := by rw [hxl]; have := Nat.min_le_left n (L.length - p); omega
                have hx1d : decide ((X.length : Int) > (n : Int)) = false := decide_eq_false hx1
                have hx1n : ¬ n < X.length := by omega
                go_cut [103] from 90 to 102 (fun v103 w9 => v103 = .bool false ∧ Aside0 (Below w8.heap.size w8 w9))
                case first =>
                  by_cases hx2 : X.length < n
                  · have hx2d : decide ((X.length : Int) < (n : Int)) = true := decide_eq_true (by omega)
                    have hisT : Is = true := by
                      rw [← HIS.out]
                      refine decide_eq_true ?_
                      rcases Nat.le_total n (L.length - p) with h | h
                      · rw [Nat.min_eq_left h] at hxl; omega
                      · exact h
                    subst hisT
                    clear hxl
                    go_wp2_with fail
                    go_meet
                    exact ⟨rfl, ⟨Below.refl _ _⟩⟩
                  · have hx2d : decide ((X.length : Int) < (n : Int)) = false := decide_eq_false (by omega)
                    clear hxl
                    go_wp2_with fail
                    go_meet
                    exact ⟨rfl, ⟨Below.refl _ _⟩⟩
                case rest =>
                  rename World => w9
                  obtain ⟨rfl, HB9⟩ := hcut
                  have hb9 := HB9.out
                  have HBW9 := Aside0.mk (below_step HBW7.out hb9)
                  have HO9 := Aside0.mk (Kd.R_below HO7.out hb9)
                  have HX9 := Aside0.mk (Kd.R_below HX.out hb9)
                  have HFIN := Aside0.mk (show p + X.length ≤ L.length ∧ (Is = false → i + 1 ≤ p + X.length) ∧ (Is = true → p + X.length = L.length) from by
                    rw [hxl]
                    refine ⟨?_, fun h => ?_, fun h => ?_⟩
                    · have := Nat.min_le_right n (L.length - p); omega
                    · rw [← HIS.out] at h
                      have := of_decide_eq_false h
                      rw [Nat.min_eq_left (by omega)]; omega
                    · rw [← HIS.out] at h
                      have := of_decide_eq_true h
                      rw [Nat.min_eq_right (by omega)]; omega)
                  have hsz : acc.length + X.length ≤ 1000 := by have h1 := HAL.out; have h2 := HFIN.out.1; omega
                  clear hb9 HBW7 HO7 HX HB9 hxl hx1 hx1d hx1n HW7 HQ7 HGR7
                  go_wp2_with ((with_reducible refine gate_builtin (b := .append) (xs := #[.tmp 104, .tmp 105]) rfl ?_); at_builtin; refine Kd.R_append_rows (w0 := w4) k24 w4.heap.size rfl (.tmp 104) (.tmp 105) 31 24 (.agg #[(.int .i64 0), (.string ⟨#[]⟩)]) 24 rfl Try.underlying31 info24 rfl (by decide) (by decide) (.slice A9 acc.length c9) acc X A8 X.length c8 (fun _ => True) (fun _ => False) rfl rfl HO9.out (show Kd.C k24 w9 A8 X.length X from (Kd.R_reads' HX9.out).2.2) (fun x cs hx => by rw [k24_open hx]; exact k24_mkM _ _ _ x) (fun _ hk => hk.elim) (fun _ _ => trivial) HBW9.out HBW9.out.size (by omega) ?_; intro v11 w11 ho hb hg hat; rw [HXT.out] at ho; have HO11 := Aside0.mk ho; have HB11 := Aside0.mk hb; clear ho hb hg hat HO9 HX9 HBW9)
                  go_roundg ko
                  case measure => omega
                  case rel => exact ⟨i + 1, p + X.length, Is, rfl, by go_num, ⟨by omega, HFIN.out.1, HFIN.out.2.1, HFIN.out.2.2⟩, HO11, HB11⟩
end Go.Proofs.Ytklidannncajiaa.OW
