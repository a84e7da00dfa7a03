/- What the row of the law WalkEnds leans on: contracts of functions and plain laws, each for all inputs that its own theorem names. -/
import Derived.Test.YtklidannncajiaaEn16
namespace Go.Proofs.Ytklidannncajiaa.OW
open Go.RowKit Go.Proofs.YtklidannncajiaaW.PrintWords Go.Proofs.YtklidannncajiaaW.PrintLast Go.Proofs.YtklidannncajiaaW.PrintMore Go.Proofs.Ytklidannncajiaa.Am
attribute [local go_sem] max2_int min2_int max_two min_two
set_option linter.unusedVariables false
set_option linter.unusedSimpArgs false

theorem may_true {q0 : ByteArray} {q1 q2 : Int} (h : q0.size ≤ 1000000) (hm : rank_May.f q0 q1 q2 = some true) : isAsked q0 ∧ ∃ k : Nat, q1 = (k : Int) ∧ k ≤ 4 := by
  unfold rank_May.f at hm
  rw [asked_eq h, Option.bind_some] at hm
  by_cases ha : isAsked q0
  · refine ⟨ha, ?_⟩
    rw [if_pos (decide_eq_true ha)] at hm
    by_cases h1 : q1 ≥ 0
    · rw [if_pos h1] at hm
      by_cases h2 : q1 ≤ 4
      · exact ⟨q1.toNat, by omega, by omega⟩
      · rw [if_neg h2] at hm; cases hm
    · rw [if_neg h1] at hm; cases hm
  · rw [if_neg (by simpa using ha)] at hm; cases hm
/-- All near words, as the machine's functions tell them. -/
def allL (q0 : ByteArray) (k : Nat) (l : List ByteArray) : List S24 := levels (runes q0 0) l 0 (k + 1)
theorem allL_len {q0 : ByteArray} {k : Nat} {l : List ByteArray} (hg : GoodW l) : (allL q0 k l).length ≤ 60 := by
  have h : (l.filterMap (nearI (runes q0 0) k)).Perm (allL q0 k l) := by
    have h1 := nearI_nodup (q := runes q0 0) (k := k) hg.sorted
    have h2 : (allL q0 k l).Nodup := (levels_sorted (runes q0 0) hg.sorted (k + 1) 0).imp fun {a b} hab e => by rw [e] at hab; exact lessP_irrefl _ hab
    exact (List.perm_ext_iff_of_nodup h1 h2).2 fun x => mem_nearI
  rw [← h.length_eq]
  exact Nat.le_trans (List.length_filterMap_le _ _) hg.len
theorem filter_first (af : S24) (L : List S24) : L.filter (keepP true af) = L := List.filter_eq_self.2 (fun x _ => rfl)
theorem rest_first {q0 : ByteArray} {k : Nat} {l : List ByteArray} (ha : isAsked q0) (hk : k ≤ 4) (af : S24) : restP q0 (k : Int) l true af = allL q0 k l := by
  unfold restP allP
  rw [if_pos ⟨ha, by omega, by omega⟩]
  rw [filter_first]
  rfl
theorem next_firstP {ns : List S72} {l : List ByteArray} (hG : Graph ns l) {q0 : ByteArray} (hq : q0.size ≤ 100) {k : Nat} (ha : isAsked q0) (hk : k ≤ 4) (b : Int) : Ev (fun K => walk_Next.f K ns q0 (k : Int) true ⟨0, ⟨#[]⟩⟩ b) ((allL q0 k l).take b.toNat, decide ((allL q0 k l).length ≤ b.toNat)) := by
  have h := next_ev hG q0 (by omega) (k : Int) true ⟨0, ⟨#[]⟩⟩ b
  unfold nextP at h
  rw [rest_first ha hk] at h
  exact h
theorem next_lastP {ns : List S72} {l : List ByteArray} (hg : GoodW l) (hG : Graph ns l) {q0 : ByteArray} (hq : q0.size ≤ 100) {k : Nat} (ha : isAsked q0) (hk : k ≤ 4) (m : Nat) (z : S24) (hm : (allL q0 k l).length = m + 1) (hz : (allL q0 k l)[m]? = some z) : Ev (fun K => walk_Next.f K ns q0 (k : Int) false z 3) ([], true) := by
  have h := next_ev hG q0 (by omega) (k : Int) false z 3
  have hs := levels_sorted (runes q0 0) hg.sorted (k + 1) 0
  have e := rest_split (L := allL q0 k l) hs true ⟨0, ⟨#[]⟩⟩ z m (by rw [filter_first]; exact hz)
  have e2 : restP q0 (k : Int) l false z = [] := by
    unfold restP allP
    rw [if_pos ⟨ha, by omega, by omega⟩]
    refine Eq.trans e ?_
    rw [filter_first, List.drop_eq_nil_of_le (by omega)]
  unfold nextP at h
  rw [e2] at h
  exact h
theorem same_calls' (K : Nat) (A : Option Addr) (c : Nat) (x : List S24) (n : Nat) (B : Option Addr) (cb : Nat) (y : List S24) (m : Nat) (hn : x.length = n) (hm : y.length = m) (r : Bool) (w : World) (hx : Kd.C k24 w A n x) (hc : n ≤ c) (hy : Kd.C k24 w B m y) (hcb : m ≤ cb) (h : inkhornlaw0_SameItems.f K x y = some r) :
    Calls Try.prog 17 #[.slice A n c, .slice B m cb] w fun e w' => e = .returned (.bool r) ∧ Drawn0 w w' := by
  subst hn; subst hm
  exact inkhornlaw0_SameItems.calls K A c x B cb y r w hx hc hy hcb h
theorem take_items31 (A : Option Addr) (n c m : Nat) (hm : m ≤ c) : ∀ W : World, (Instr.slice 31 (.slice A n c) none (some (.int .i64 (m : Int))) none).run Try.prog W = .ok (.slice A m c) W := by
  intro W
  obtain ⟨i, hi, hz⟩ := Option.map_eq_some_iff.1 info24
  simp only [Prod.mk.injEq] at hz
  have hel : Try.prog.elem 31 = 24 := by simp [Program.elem, Try.underlying31]
  have hu : Try.prog.underlying 31 = some (.slice (Try.prog.elem 31)) := by rw [hel]; exact Try.underlying31
  have ha : (A.map fun x => x.add 0) = A := by cases A <;> simp [Addr.add]
  rw [run_slice_h W 31 A n c hu .i64 (m : Int) (by omega) (by omega), hel]
  simp [sizeOf, typeInfo, hi, hz.2.1, sliced, Result.andThen, ha]
set_option maxHeartbeats 8000000 in
set_option maxRecDepth 100000 in
theorem walkEnds_calls (A : Option Addr) (c : Nat) (l : List ByteArray) (q0 : ByteArray) (q1 q2 : Int) (w : World) (hr : Kd.C Kd.string w A l.length l) (hc : l.length ≤ c) :
    Calls Try.prog 9 #[.slice A l.length c, .agg #[.string q0, .int .i64 q1, .int .i64 q2]] w fun e w' => e = .returned (.bool true) ∧ Below w.heap.size w w' := by
  have hb0 := (Below.refl w.heap.size w).alloc (Nat.le_refl _) (.cells #[.string q0, .int .i64 q1, .int .i64 q2] 39)
  have HW := Aside0.mk hb0
  have HQ := Aside0.mk (heap_alloc_new w (.cells #[.string q0, .int .i64 q1, .int .i64 q2] 39))
  have HR := Aside0.mk (Kd.C_below hr hb0)
  have HC := Aside0.mk hc
  clear hr hc hb0
  obtain ⟨G, hG⟩ : ∃ G, G = !decide (Small l ∧ q0.size ≤ 100) := ⟨_, rfl⟩
  obtain ⟨KG, hKG⟩ := great_small l q0
  cases G with
  | true =>
    have HG := Aside0.mk (show inkhornlaw11_great.f KG l q0 = some true from (hKG KG (Nat.le_refl _)).trans (congrArg some hG.symm))
    clear hKG hG
    go_enter Try.func9, Try.ntmps9
    go_upto_region 1 with fail
    generalize w.alloc (.cells #[.string q0, .int .i64 q1, .int .i64 q2] 39) = w1 at HW HQ HR ⊢
    have cq0 : w1.cell? ⟨w.heap.size, 0, none⟩ = some (.string q0) := blk_cell HQ.out 0
    have cq1 : w1.cell? ⟨w.heap.size, 1, none⟩ = some (.int .i64 q1) := blk_cell HQ.out 1
    have cq2 : w1.cell? ⟨w.heap.size, 2, none⟩ = some (.int .i64 q2) := blk_cell HQ.out 2
    go_wp2_with (first | ((with_reducible refine gate_callee (f := 12) rfl ?_); (try (refine gate_guard (by rfl) ?_; dsimp only)); refine goesL_ (some 19) rfl rfl Try.func12 (by kernel_rfl) rfl #[.slice A l.length c, .string q0] rfl (by (try simp only [List.map_toArray, List.map_cons, List.map_nil]); first | done | rfl) ?_; (with_reducible refine (inkhornlaw11_great.calls KG A c l q0 true _ HR.out HC.out HG.out).mono ?_); rintro e w2 ⟨rfl, hd⟩; refine ⟨_, rfl, ?_⟩; have hb := hd.below; have q_HW := Aside0.mk (below_step HW.out hb); clear HW; have HW := q_HW; clear q_HW; have q_HQ := Aside0.mk (blk_below HQ.out hb); clear HQ; have HQ := q_HQ; clear q_HQ; have q_HR := Aside0.mk (Kd.C_below HR.out hb); clear HR; have HR := q_HR; clear q_HR; clear cq0; have cq0 : w2.cell? ⟨w.heap.size, 0, none⟩ = some (.string q0) := blk_cell HQ.out 0; clear cq1; have cq1 : w2.cell? ⟨w.heap.size, 1, none⟩ = some (.int .i64 q1) := blk_cell HQ.out 1; clear cq2; have cq2 : w2.cell? ⟨w.heap.size, 2, none⟩ = some (.int .i64 q2) := blk_cell HQ.out 2; clear hb hd) | ((with_reducible refine gate_callee (f := 13) rfl ?_); (try (refine gate_guard (by rfl) ?_; dsimp only)); refine goesL_ (some 25) rfl rfl Try.func13 (by kernel_rfl) rfl #[] rfl (by (try simp only [List.map_toArray, List.map_cons, List.map_nil]); first | done | rfl) ?_; (with_reducible refine (awake_calls _).mono ?_); rintro e w3 ⟨rfl, hb⟩; refine ⟨_, rfl, ?_⟩; have q_HW := Aside0.mk (below_step HW.out hb); clear HW; have HW := q_HW; clear q_HW; have q_HQ := Aside0.mk (blk_below HQ.out hb); clear HQ; have HQ := q_HQ; clear q_HQ; have q_HR := Aside0.mk (Kd.C_below HR.out hb); clear HR; have HR := q_HR; clear q_HR; clear cq0; have cq0 : w3.cell? ⟨w.heap.size, 0, none⟩ = some (.string q0) := blk_cell HQ.out 0; clear cq1; have cq1 : w3.cell? ⟨w.heap.size, 1, none⟩ = some (.int .i64 q1) := blk_cell HQ.out 1; clear cq2; have cq2 : w3.cell? ⟨w.heap.size, 2, none⟩ = some (.int .i64 q2) := blk_cell HQ.out 2; clear hb))
    go_ret
    exact ⟨rfl, HW.out⟩
  | false =>
    obtain ⟨hsm, hqs⟩ : Small l ∧ q0.size ≤ 100 := by simpa using hG.symm
    have HG := Aside0.mk (show inkhornlaw11_great.f KG l q0 = some false from (hKG KG (Nat.le_refl _)).trans (congrArg some hG.symm))
    clear hKG hG
    obtain ⟨M, hM⟩ := may_eq q0 (by omega) q1 q2
    cases M with
    | false =>
      have HM := Aside0.mk hM
      clear hM hsm hqs
      go_enter Try.func9, Try.ntmps9
      go_upto_region 1 with fail
      generalize w.alloc (.cells #[.string q0, .int .i64 q1, .int .i64 q2] 39) = w1 at HW HQ HR ⊢
      have cq0 : w1.cell? ⟨w.heap.size, 0, none⟩ = some (.string q0) := blk_cell HQ.out 0
      have cq1 : w1.cell? ⟨w.heap.size, 1, none⟩ = some (.int .i64 q1) := blk_cell HQ.out 1
      have cq2 : w1.cell? ⟨w.heap.size, 2, none⟩ = some (.int .i64 q2) := blk_cell HQ.out 2
      go_wp2_with (first | ((with_reducible refine gate_callee (f := 12) rfl ?_); (try (refine gate_guard (by rfl) ?_; dsimp only)); refine goesL_ (some 19) rfl rfl Try.func12 (by kernel_rfl) rfl #[.slice A l.length c, .string q0] rfl (by (try simp only [List.map_toArray, List.map_cons, List.map_nil]); first | done | rfl) ?_; (with_reducible refine (inkhornlaw11_great.calls KG A c l q0 false _ HR.out HC.out HG.out).mono ?_); rintro e w2 ⟨rfl, hd⟩; refine ⟨_, rfl, ?_⟩; have hb := hd.below; have q_HW := Aside0.mk (below_step HW.out hb); clear HW; have HW := q_HW; clear q_HW; have q_HQ := Aside0.mk (blk_below HQ.out hb); clear HQ; have HQ := q_HQ; clear q_HQ; have q_HR := Aside0.mk (Kd.C_below HR.out hb); clear HR; have HR := q_HR; clear q_HR; clear cq0; have cq0 : w2.cell? ⟨w.heap.size, 0, none⟩ = some (.string q0) := blk_cell HQ.out 0; clear cq1; have cq1 : w2.cell? ⟨w.heap.size, 1, none⟩ = some (.int .i64 q1) := blk_cell HQ.out 1; clear cq2; have cq2 : w2.cell? ⟨w.heap.size, 2, none⟩ = some (.int .i64 q2) := blk_cell HQ.out 2; clear hb hd) | ((with_reducible refine gate_callee (f := 19) rfl ?_); (try (refine gate_guard (by rfl) ?_; dsimp only)); refine goesL_ (some 22) rfl rfl Try.func19 (by kernel_rfl) rfl #[.agg #[.string q0, .int .i64 q1, .int .i64 q2]] rfl (by (try simp only [List.map_toArray, List.map_cons, List.map_nil]); first | done | rfl) ?_; (with_reducible refine (rank_May.calls q0 q1 q2 false _ HM.out).mono ?_); rintro e w3 ⟨rfl, hb⟩; refine ⟨_, rfl, ?_⟩; have q_HW := Aside0.mk (below_step HW.out hb); clear HW; have HW := q_HW; clear q_HW; have q_HQ := Aside0.mk (blk_below HQ.out hb); clear HQ; have HQ := q_HQ; clear q_HQ; have q_HR := Aside0.mk (Kd.C_below HR.out hb); clear HR; have HR := q_HR; clear q_HR; clear cq0; have cq0 : w3.cell? ⟨w.heap.size, 0, none⟩ = some (.string q0) := blk_cell HQ.out 0; clear cq1; have cq1 : w3.cell? ⟨w.heap.size, 1, none⟩ = some (.int .i64 q1) := blk_cell HQ.out 1; clear cq2; have cq2 : w3.cell? ⟨w.heap.size, 2, none⟩ = some (.int .i64 q2) := blk_cell HQ.out 2; clear hb) | ((with_reducible refine gate_callee (f := 13) rfl ?_); (try (refine gate_guard (by rfl) ?_; dsimp only)); refine goesL_ (some 25) rfl rfl Try.func13 (by kernel_rfl) rfl #[] rfl (by (try simp only [List.map_toArray, List.map_cons, List.map_nil]); first | done | rfl) ?_; (with_reducible refine (awake_calls _).mono ?_); rintro e w4 ⟨rfl, hb⟩; refine ⟨_, rfl, ?_⟩; have q_HW := Aside0.mk (below_step HW.out hb); clear HW; have HW := q_HW; clear q_HW; have q_HQ := Aside0.mk (blk_below HQ.out hb); clear HQ; have HQ := q_HQ; clear q_HQ; have q_HR := Aside0.mk (Kd.C_below HR.out hb); clear HR; have HR := q_HR; clear q_HR; clear cq0; have cq0 : w4.cell? ⟨w.heap.size, 0, none⟩ = some (.string q0) := blk_cell HQ.out 0; clear cq1; have cq1 : w4.cell? ⟨w.heap.size, 1, none⟩ = some (.int .i64 q1) := blk_cell HQ.out 1; clear cq2; have cq2 : w4.cell? ⟨w.heap.size, 2, none⟩ = some (.int .i64 q2) := blk_cell HQ.out 2; clear hb))
      go_ret
      exact ⟨rfl, HW.out⟩
    | true =>
      obtain ⟨has, k, rfl, hk4⟩ := may_true (by omega) hM
      have HM := Aside0.mk hM
      clear hM
      obtain ⟨e, ns, ⟨KB, hKB⟩, hgd⟩ := build_ev hsm
      by_cases he : e = 0
      case neg =>
        have HB := Aside0.mk (show graph_Build.f KB l = some (e, ns) from hKB KB (Nat.le_refl _))
        have he2 : (e != 0) = true := by simpa using he
        have HE := Aside0.mk he
        clear he hKB hgd hsm hqs hk4
        go_enter Try.func9, Try.ntmps9
        go_upto_region 1 with fail
        generalize w.alloc (.cells #[.string q0, .int .i64 (k : Int), .int .i64 q2] 39) = w1 at HW HQ HR ⊢
        have cq0 : w1.cell? ⟨w.heap.size, 0, none⟩ = some (.string q0) := blk_cell HQ.out 0
        have cq1 : w1.cell? ⟨w.heap.size, 1, none⟩ = some (.int .i64 (k : Int)) := blk_cell HQ.out 1
        have cq2 : w1.cell? ⟨w.heap.size, 2, none⟩ = some (.int .i64 q2) := blk_cell HQ.out 2
        go_wp2_with (first | ((with_reducible refine gate_callee (f := 12) rfl ?_); (try (refine gate_guard (by rfl) ?_; dsimp only)); refine goesL_ (some 19) rfl rfl Try.func12 (by kernel_rfl) rfl #[.slice A l.length c, .string q0] rfl (by (try simp only [List.map_toArray, List.map_cons, List.map_nil]); first | done | rfl) ?_; (with_reducible refine (inkhornlaw11_great.calls KG A c l q0 false _ HR.out HC.out HG.out).mono ?_); rintro e w2 ⟨rfl, hd⟩; refine ⟨_, rfl, ?_⟩; have hb := hd.below; have q_HW := Aside0.mk (below_step HW.out hb); clear HW; have HW := q_HW; clear q_HW; have q_HQ := Aside0.mk (blk_below HQ.out hb); clear HQ; have HQ := q_HQ; clear q_HQ; have q_HR := Aside0.mk (Kd.C_below HR.out hb); clear HR; have HR := q_HR; clear q_HR; clear cq0; have cq0 : w2.cell? ⟨w.heap.size, 0, none⟩ = some (.string q0) := blk_cell HQ.out 0; clear cq1; have cq1 : w2.cell? ⟨w.heap.size, 1, none⟩ = some (.int .i64 (k : Int)) := blk_cell HQ.out 1; clear cq2; have cq2 : w2.cell? ⟨w.heap.size, 2, none⟩ = some (.int .i64 q2) := blk_cell HQ.out 2; clear hb hd) | ((with_reducible refine gate_callee (f := 19) rfl ?_); (try (refine gate_guard (by rfl) ?_; dsimp only)); refine goesL_ (some 22) rfl rfl Try.func19 (by kernel_rfl) rfl #[.agg #[.string q0, .int .i64 (k : Int), .int .i64 q2]] rfl (by (try simp only [List.map_toArray, List.map_cons, List.map_nil]); first | done | rfl) ?_; (with_reducible refine (rank_May.calls q0 (k : Int) q2 true _ HM.out).mono ?_); rintro e w3 ⟨rfl, hb⟩; refine ⟨_, rfl, ?_⟩; have q_HW := Aside0.mk (below_step HW.out hb); clear HW; have HW := q_HW; clear q_HW; have q_HQ := Aside0.mk (blk_below HQ.out hb); clear HQ; have HQ := q_HQ; clear q_HQ; have q_HR := Aside0.mk (Kd.C_below HR.out hb); clear HR; have HR := q_HR; clear q_HR; clear cq0; have cq0 : w3.cell? ⟨w.heap.size, 0, none⟩ = some (.string q0) := blk_cell HQ.out 0; clear cq1; have cq1 : w3.cell? ⟨w.heap.size, 1, none⟩ = some (.int .i64 (k : Int)) := blk_cell HQ.out 1; clear cq2; have cq2 : w3.cell? ⟨w.heap.size, 2, none⟩ = some (.int .i64 q2) := blk_cell HQ.out 2; clear hb) | ((with_reducible refine gate_callee (f := 14) rfl ?_); (try (refine gate_guard (by rfl) ?_; dsimp only)); refine goesL_ (some 28) rfl rfl Try.func14 (by kernel_rfl) rfl #[.slice A l.length c] rfl (by (try simp only [List.map_toArray, List.map_cons, List.map_nil]); first | done | rfl) ?_; (with_reducible refine (graph_Build.not KB A c l e ns _ HR.out HC.out HB.out HE.out).mono ?_); rintro e w4 ⟨rfl, hb⟩; refine ⟨_, rfl, ?_⟩; have q_HW := Aside0.mk (below_step HW.out hb); clear HW; have HW := q_HW; clear q_HW; have q_HQ := Aside0.mk (blk_below HQ.out hb); clear HQ; have HQ := q_HQ; clear q_HQ; have q_HR := Aside0.mk (Kd.C_below HR.out hb); clear HR; have HR := q_HR; clear q_HR; clear cq0; have cq0 : w4.cell? ⟨w.heap.size, 0, none⟩ = some (.string q0) := blk_cell HQ.out 0; clear cq1; have cq1 : w4.cell? ⟨w.heap.size, 1, none⟩ = some (.int .i64 (k : Int)) := blk_cell HQ.out 1; clear cq2; have cq2 : w4.cell? ⟨w.heap.size, 2, none⟩ = some (.int .i64 q2) := blk_cell HQ.out 2; clear hb) | ((with_reducible refine gate_callee (f := 13) rfl ?_); (try (refine gate_guard (by rfl) ?_; dsimp only)); refine goesL_ (some 40) rfl rfl Try.func13 (by kernel_rfl) rfl #[] rfl (by (try simp only [List.map_toArray, List.map_cons, List.map_nil]); first | done | rfl) ?_; (with_reducible refine (awake_calls _).mono ?_); rintro e w5 ⟨rfl, hb⟩; refine ⟨_, rfl, ?_⟩; have q_HW := Aside0.mk (below_step HW.out hb); clear HW; have HW := q_HW; clear q_HW; have q_HQ := Aside0.mk (blk_below HQ.out hb); clear HQ; have HQ := q_HQ; clear q_HQ; have q_HR := Aside0.mk (Kd.C_below HR.out hb); clear HR; have HR := q_HR; clear q_HR; clear cq0; have cq0 : w5.cell? ⟨w.heap.size, 0, none⟩ = some (.string q0) := blk_cell HQ.out 0; clear cq1; have cq1 : w5.cell? ⟨w.heap.size, 1, none⟩ = some (.int .i64 (k : Int)) := blk_cell HQ.out 1; clear cq2; have cq2 : w5.cell? ⟨w.heap.size, 2, none⟩ = some (.int .i64 q2) := blk_cell HQ.out 2; clear hb))
        go_ret
        exact ⟨rfl, HW.out⟩
      subst he
      have HB := Aside0.mk (show graph_Build.f KB l = some (0, ns) from hKB KB (Nat.le_refl _))
      obtain ⟨hgw, hGr⟩ := hgd rfl
      have HGW := Aside0.mk hgw
      have HAS := Aside0.mk has
      have HSM := Aside0.mk hsm.2
      obtain ⟨L, hL⟩ : ∃ L, allL q0 k l = L := ⟨_, rfl⟩
      have hlen : L.length ≤ 60 := by rw [← hL]; exact allL_len hgw
      obtain ⟨KS, hKS⟩ := sameItems_ev L (by omega)
      have HS := Aside0.mk (show inkhornlaw0_SameItems.f KS L L = some true from hKS KS (Nat.le_refl _))
      obtain ⟨K1, hK1⟩ := next_firstP hGr hqs has hk4 ((L.length : Int) + 1)
      have HN1 := Aside0.mk (show walk_Next.f K1 ns q0 (k : Int) true ⟨0, ⟨#[]⟩⟩ ((L.length : Int) + 1) = some (L, true) by
        have h0 := hK1 K1 (Nat.le_refl _); rw [hL, List.take_of_length_le (by omega), decide_eq_true (by omega)] at h0; exact h0)
      have HLE := Aside0.mk (show levels (runes q0 0) l 0 (k + 1) = L from hL)
      clear hKB hgd hKS hK1
      cases hLc : L with
      | nil =>
        subst hLc
        obtain ⟨K2, hK2⟩ := next_firstP hGr hqs has hk4 1
        have HN2 := Aside0.mk (show walk_Next.f K2 ns q0 (k : Int) true ⟨0, ⟨#[]⟩⟩ 1 = some ([], true) by
          have h0 := hK2 K2 (Nat.le_refl _); rw [hL] at h0; exact h0)
        have HN1 := Aside0.mk (show walk_Next.f K1 ns q0 (k : Int) true ⟨0, ⟨#[]⟩⟩ 1 = some ([], true) from HN1.out)
        clear hK2 hsm hgw has hGr hL hlen
        go_enter Try.func9, Try.ntmps9
        go_upto_region 1 with fail
        generalize w.alloc (.cells #[.string q0, .int .i64 (k : Int), .int .i64 q2] 39) = w1 at HW HQ HR ⊢
        have cq0 : w1.cell? ⟨w.heap.size, 0, none⟩ = some (.string q0) := blk_cell HQ.out 0
        have cq1 : w1.cell? ⟨w.heap.size, 1, none⟩ = some (.int .i64 (k : Int)) := blk_cell HQ.out 1
        have cq2 : w1.cell? ⟨w.heap.size, 2, none⟩ = some (.int .i64 q2) := blk_cell HQ.out 2
        go_wp2_with (first | ((with_reducible refine gate_callee (f := 12) rfl ?_); (try (refine gate_guard (by rfl) ?_; dsimp only)); refine goesL_ (some 19) rfl rfl Try.func12 (by kernel_rfl) rfl #[.slice A l.length c, .string q0] rfl (by (try simp only [List.map_toArray, List.map_cons, List.map_nil]); first | done | rfl) ?_; (with_reducible refine (inkhornlaw11_great.calls KG A c l q0 false _ HR.out HC.out HG.out).mono ?_); rintro e w2 ⟨rfl, hd⟩; refine ⟨_, rfl, ?_⟩; have hb := hd.below; have q_HW := Aside0.mk (below_step HW.out hb); clear HW; have HW := q_HW; clear q_HW; have q_HQ := Aside0.mk (blk_below HQ.out hb); clear HQ; have HQ := q_HQ; clear q_HQ; have q_HR := Aside0.mk (Kd.C_below HR.out hb); clear HR; have HR := q_HR; clear q_HR; clear cq0; have cq0 : w2.cell? ⟨w.heap.size, 0, none⟩ = some (.string q0) := blk_cell HQ.out 0; clear cq1; have cq1 : w2.cell? ⟨w.heap.size, 1, none⟩ = some (.int .i64 (k : Int)) := blk_cell HQ.out 1; clear cq2; have cq2 : w2.cell? ⟨w.heap.size, 2, none⟩ = some (.int .i64 q2) := blk_cell HQ.out 2; clear hb hd) | ((with_reducible refine gate_callee (f := 19) rfl ?_); (try (refine gate_guard (by rfl) ?_; dsimp only)); refine goesL_ (some 22) rfl rfl Try.func19 (by kernel_rfl) rfl #[.agg #[.string q0, .int .i64 (k : Int), .int .i64 q2]] rfl (by (try simp only [List.map_toArray, List.map_cons, List.map_nil]); first | done | rfl) ?_; (with_reducible refine (rank_May.calls q0 (k : Int) q2 true _ HM.out).mono ?_); rintro e w3 ⟨rfl, hb⟩; refine ⟨_, rfl, ?_⟩; have q_HW := Aside0.mk (below_step HW.out hb); clear HW; have HW := q_HW; clear q_HW; have q_HQ := Aside0.mk (blk_below HQ.out hb); clear HQ; have HQ := q_HQ; clear q_HQ; have q_HR := Aside0.mk (Kd.C_below HR.out hb); clear HR; have HR := q_HR; clear q_HR; clear cq0; have cq0 : w3.cell? ⟨w.heap.size, 0, none⟩ = some (.string q0) := blk_cell HQ.out 0; clear cq1; have cq1 : w3.cell? ⟨w.heap.size, 1, none⟩ = some (.int .i64 (k : Int)) := blk_cell HQ.out 1; clear cq2; have cq2 : w3.cell? ⟨w.heap.size, 2, none⟩ = some (.int .i64 q2) := blk_cell HQ.out 2; clear hb) | ((with_reducible refine gate_callee (f := 14) rfl ?_); (try (refine gate_guard (by rfl) ?_; dsimp only)); refine goesL_ (some 28) rfl rfl Try.func14 (by kernel_rfl) rfl #[.slice A l.length c] rfl (by (try simp only [List.map_toArray, List.map_cons, List.map_nil]); first | done | rfl) ?_; (with_reducible refine (graph_Build.calls KB A c l ns _ HR.out HC.out HB.out).mono ?_); rintro e w4 ⟨g, rfl, _, hgr, hb⟩; refine ⟨_, rfl, ?_⟩; have q_HW := Aside0.mk (below_step HW.out hb); clear HW; have HW := q_HW; clear q_HW; have q_HQ := Aside0.mk (blk_below HQ.out hb); clear HQ; have HQ := q_HQ; clear q_HQ; have q_HR := Aside0.mk (Kd.C_below HR.out hb); clear HR; have HR := q_HR; clear q_HR; clear cq0; have cq0 : w4.cell? ⟨w.heap.size, 0, none⟩ = some (.string q0) := blk_cell HQ.out 0; clear cq1; have cq1 : w4.cell? ⟨w.heap.size, 1, none⟩ = some (.int .i64 (k : Int)) := blk_cell HQ.out 1; clear cq2; have cq2 : w4.cell? ⟨w.heap.size, 2, none⟩ = some (.int .i64 q2) := blk_cell HQ.out 2; have HGR := Aside0.mk (hgr); clear hgr; clear hb) | ((with_reducible refine gate_callee (f := 30) rfl ?_); (try (refine gate_guard (by rfl) ?_; dsimp only)); refine goesL_ (some 47) rfl rfl Try.func30 (by kernel_rfl) rfl #[.slice A l.length c, .string q0, .int .i64 (k : Int)] rfl (by (try simp only [List.map_toArray, List.map_cons, List.map_nil]); first | done | rfl) ?_; (with_reducible refine (rankAll_calls A c l q0 k _ hqs HSM.out hk4 HAS.out HGW.out HR.out HC.out).mono ?_); rintro e w5 ⟨v5, rfl, ho, hb⟩; refine ⟨_, rfl, ?_⟩; rw [HLE.out] at ho; have q_HW := Aside0.mk (below_step HW.out hb); clear HW; have HW := q_HW; clear q_HW; have q_HQ := Aside0.mk (blk_below HQ.out hb); clear HQ; have HQ := q_HQ; clear q_HQ; have q_HGR := Aside0.mk (HGR.out.below hb); clear HGR; have HGR := q_HGR; clear q_HGR; clear cq0; have cq0 : w5.cell? ⟨w.heap.size, 0, none⟩ = some (.string q0) := blk_cell HQ.out 0; clear cq1; have cq1 : w5.cell? ⟨w.heap.size, 1, none⟩ = some (.int .i64 (k : Int)) := blk_cell HQ.out 1; clear cq2; have cq2 : w5.cell? ⟨w.heap.size, 2, none⟩ = some (.int .i64 q2) := blk_cell HQ.out 2; have HO := Aside0.mk (ho); clear HR; obtain ⟨A5, c5, e5⟩ := Kd.R_slice ho; subst e5; have HOC := Aside0.mk (show Kd.C k24 w5 A5 0 ([] : List S24) from (Kd.R_reads' ho).2.2); clear ho; clear hb) | ((with_reducible refine gate_callee (f := 15) rfl ?_); (try (refine gate_guard (by rfl) ?_; dsimp only)); refine goesL_ (some 58) rfl rfl Try.func15 (by kernel_rfl) rfl #[.pointer (some ⟨g, 0, none⟩), .string q0, .int .i64 (k : Int), .bool true, .agg #[.int .i64 0, .string ⟨#[]⟩], .int .i64 1] rfl (by (try simp only [List.map_toArray, List.map_cons, List.map_nil]); first | done | rfl) ?_; (with_reducible refine (walk_Next.calls K1 g ns q0 (k : Int) true ⟨0, ⟨#[]⟩⟩ 1 [] true _ HGR.out HN1.out).mono ?_); rintro e w6 ⟨v6, rfl, ho, hb⟩; refine ⟨_, rfl, ?_⟩; have q_HW := Aside0.mk (below_step HW.out hb); clear HW; have HW := q_HW; clear q_HW; have q_HQ := Aside0.mk (blk_below HQ.out hb); clear HQ; have HQ := q_HQ; clear q_HQ; have q_HGR := Aside0.mk (HGR.out.below hb); clear HGR; have HGR := q_HGR; clear q_HGR; have q_HO := Aside0.mk (Kd.R_below HO.out hb); clear HO; have HO := q_HO; clear q_HO; have q_HOC := Aside0.mk (Kd.C_below HOC.out hb); clear HOC; have HOC := q_HOC; clear q_HOC; clear cq0; have cq0 : w6.cell? ⟨w.heap.size, 0, none⟩ = some (.string q0) := blk_cell HQ.out 0; clear cq1; have cq1 : w6.cell? ⟨w.heap.size, 1, none⟩ = some (.int .i64 (k : Int)) := blk_cell HQ.out 1; clear cq2; have cq2 : w6.cell? ⟨w.heap.size, 2, none⟩ = some (.int .i64 q2) := blk_cell HQ.out 2; have HX := Aside0.mk (ho); obtain ⟨A6, c6, e6⟩ := Kd.R_slice ho; subst e6; have HXC := Aside0.mk (show Kd.C k24 w6 A6 0 ([] : List S24) from (Kd.R_reads' ho).2.2); clear ho; clear hb) | ((with_reducible refine gate_callee (f := 15) rfl ?_); (try (refine gate_guard (by rfl) ?_; dsimp only)); refine goesL_ (some 71) rfl rfl Try.func15 (by kernel_rfl) rfl #[.pointer (some ⟨g, 0, none⟩), .string q0, .int .i64 (k : Int), .bool true, .agg #[.int .i64 0, .string ⟨#[]⟩], .int .i64 1] rfl (by (try simp only [List.map_toArray, List.map_cons, List.map_nil]); first | done | rfl) ?_; (with_reducible refine (walk_Next.calls K2 g ns q0 (k : Int) true ⟨0, ⟨#[]⟩⟩ 1 [] true _ HGR.out HN2.out).mono ?_); rintro e w7 ⟨v7, rfl, ho, hb⟩; refine ⟨_, rfl, ?_⟩; have q_HW := Aside0.mk (below_step HW.out hb); clear HW; have HW := q_HW; clear q_HW; have q_HQ := Aside0.mk (blk_below HQ.out hb); clear HQ; have HQ := q_HQ; clear q_HQ; have q_HGR := Aside0.mk (HGR.out.below hb); clear HGR; have HGR := q_HGR; clear q_HGR; have q_HO := Aside0.mk (Kd.R_below HO.out hb); clear HO; have HO := q_HO; clear q_HO; have q_HOC := Aside0.mk (Kd.C_below HOC.out hb); clear HOC; have HOC := q_HOC; clear q_HOC; have q_HX := Aside0.mk (Kd.R_below HX.out hb); clear HX; have HX := q_HX; clear q_HX; have q_HXC := Aside0.mk (Kd.C_below HXC.out hb); clear HXC; have HXC := q_HXC; clear q_HXC; clear cq0; have cq0 : w7.cell? ⟨w.heap.size, 0, none⟩ = some (.string q0) := blk_cell HQ.out 0; clear cq1; have cq1 : w7.cell? ⟨w.heap.size, 1, none⟩ = some (.int .i64 (k : Int)) := blk_cell HQ.out 1; clear cq2; have cq2 : w7.cell? ⟨w.heap.size, 2, none⟩ = some (.int .i64 q2) := blk_cell HQ.out 2; have HY := Aside0.mk (ho); obtain ⟨A7, c7, e7⟩ := Kd.R_slice ho; subst e7; have HYC := Aside0.mk (show Kd.C k24 w7 A7 0 ([] : List S24) from (Kd.R_reads' ho).2.2); clear ho; clear hb) | ((with_reducible refine gate_callee (f := 17) rfl ?_); (try (refine gate_guard (by rfl) ?_; dsimp only)); refine goesL_ (some 83) rfl rfl Try.func17 (by kernel_rfl) rfl #[.slice A6 0 c6, .slice A5 0 c5] rfl (by (try simp only [List.map_toArray, List.map_cons, List.map_nil]); first | done | rfl) ?_; (with_reducible refine (same_calls' KS A6 c6 [] 0 A5 c5 [] 0 rfl rfl true _ HXC.out (Nat.zero_le _) HOC.out (Nat.zero_le _) HS.out).mono ?_); rintro e w8 ⟨rfl, hd⟩; refine ⟨_, rfl, ?_⟩; have hb := hd.below; have q_HW := Aside0.mk (below_step HW.out hb); clear HW; have HW := q_HW; clear q_HW; have q_HQ := Aside0.mk (blk_below HQ.out hb); clear HQ; have HQ := q_HQ; clear q_HQ; have q_HGR := Aside0.mk (HGR.out.below hb); clear HGR; have HGR := q_HGR; clear q_HGR; have q_HO := Aside0.mk (Kd.R_below HO.out hb); clear HO; have HO := q_HO; clear q_HO; have q_HOC := Aside0.mk (Kd.C_below HOC.out hb); clear HOC; have HOC := q_HOC; clear q_HOC; have q_HX := Aside0.mk (Kd.R_below HX.out hb); clear HX; have HX := q_HX; clear q_HX; have q_HXC := Aside0.mk (Kd.C_below HXC.out hb); clear HXC; have HXC := q_HXC; clear q_HXC; have q_HY := Aside0.mk (Kd.R_below HY.out hb); clear HY; have HY := q_HY; clear q_HY; have q_HYC := Aside0.mk (Kd.C_below HYC.out hb); clear HYC; have HYC := q_HYC; clear q_HYC; clear cq0; have cq0 : w8.cell? ⟨w.heap.size, 0, none⟩ = some (.string q0) := blk_cell HQ.out 0; clear cq1; have cq1 : w8.cell? ⟨w.heap.size, 1, none⟩ = some (.int .i64 (k : Int)) := blk_cell HQ.out 1; clear cq2; have cq2 : w8.cell? ⟨w.heap.size, 2, none⟩ = some (.int .i64 q2) := blk_cell HQ.out 2; clear hb hd) | ((with_reducible refine gate_callee (f := 17) rfl ?_); (try (refine gate_guard (by rfl) ?_; dsimp only)); refine goesL_ (some 89) rfl rfl Try.func17 (by kernel_rfl) rfl #[.slice A7 0 c7, .slice A5 0 c5] rfl (by (try simp only [List.map_toArray, List.map_cons, List.map_nil]); first | done | rfl) ?_; (with_reducible refine (same_calls' KS A7 c7 [] 0 A5 c5 [] 0 rfl rfl true _ HYC.out (Nat.zero_le _) HOC.out (Nat.zero_le _) HS.out).mono ?_); rintro e w9 ⟨rfl, hd⟩; refine ⟨_, rfl, ?_⟩; have hb := hd.below; have q_HW := Aside0.mk (below_step HW.out hb); clear HW; have HW := q_HW; clear q_HW; have q_HQ := Aside0.mk (blk_below HQ.out hb); clear HQ; have HQ := q_HQ; clear q_HQ; have q_HGR := Aside0.mk (HGR.out.below hb); clear HGR; have HGR := q_HGR; clear q_HGR; have q_HO := Aside0.mk (Kd.R_below HO.out hb); clear HO; have HO := q_HO; clear q_HO; have q_HOC := Aside0.mk (Kd.C_below HOC.out hb); clear HOC; have HOC := q_HOC; clear q_HOC; have q_HX := Aside0.mk (Kd.R_below HX.out hb); clear HX; have HX := q_HX; clear q_HX; have q_HXC := Aside0.mk (Kd.C_below HXC.out hb); clear HXC; have HXC := q_HXC; clear q_HXC; have q_HY := Aside0.mk (Kd.R_below HY.out hb); clear HY; have HY := q_HY; clear q_HY; have q_HYC := Aside0.mk (Kd.C_below HYC.out hb); clear HYC; have HYC := q_HYC; clear q_HYC; clear cq0; have cq0 : w9.cell? ⟨w.heap.size, 0, none⟩ = some (.string q0) := blk_cell HQ.out 0; clear cq1; have cq1 : w9.cell? ⟨w.heap.size, 1, none⟩ = some (.int .i64 (k : Int)) := blk_cell HQ.out 1; clear cq2; have cq2 : w9.cell? ⟨w.heap.size, 2, none⟩ = some (.int .i64 q2) := blk_cell HQ.out 2; clear hb hd) | ((with_reducible refine gate_callee (f := 13) rfl ?_); (try (refine gate_guard (by rfl) ?_; dsimp only)); refine goesL_ (some 95) rfl rfl Try.func13 (by kernel_rfl) rfl #[] rfl (by (try simp only [List.map_toArray, List.map_cons, List.map_nil]); first | done | rfl) ?_; (with_reducible refine (awake_calls _).mono ?_); rintro e w10 ⟨rfl, hb⟩; refine ⟨_, rfl, ?_⟩; have q_HW := Aside0.mk (below_step HW.out hb); clear HW; have HW := q_HW; clear q_HW; have q_HQ := Aside0.mk (blk_below HQ.out hb); clear HQ; have HQ := q_HQ; clear q_HQ; have q_HGR := Aside0.mk (HGR.out.below hb); clear HGR; have HGR := q_HGR; clear q_HGR; have q_HO := Aside0.mk (Kd.R_below HO.out hb); clear HO; have HO := q_HO; clear q_HO; have q_HOC := Aside0.mk (Kd.C_below HOC.out hb); clear HOC; have HOC := q_HOC; clear q_HOC; have q_HX := Aside0.mk (Kd.R_below HX.out hb); clear HX; have HX := q_HX; clear q_HX; have q_HXC := Aside0.mk (Kd.C_below HXC.out hb); clear HXC; have HXC := q_HXC; clear q_HXC; have q_HY := Aside0.mk (Kd.R_below HY.out hb); clear HY; have HY := q_HY; clear q_HY; have q_HYC := Aside0.mk (Kd.C_below HYC.out hb); clear HYC; have HYC := q_HYC; clear q_HYC; clear cq0; have cq0 : w10.cell? ⟨w.heap.size, 0, none⟩ = some (.string q0) := blk_cell HQ.out 0; clear cq1; have cq1 : w10.cell? ⟨w.heap.size, 1, none⟩ = some (.int .i64 (k : Int)) := blk_cell HQ.out 1; clear cq2; have cq2 : w10.cell? ⟨w.heap.size, 2, none⟩ = some (.int .i64 q2) := blk_cell HQ.out 2; clear hb))
        go_ret
        exact ⟨rfl, HW.out⟩
      | cons y ys =>
        obtain ⟨m, hm⟩ : ∃ m, L.length = m + 1 := ⟨ys.length, by rw [hLc]; rfl⟩
        clear hLc
        obtain ⟨z, hz⟩ : ∃ z, L[m]? = some z := ⟨L[m], List.getElem?_eq_getElem (by omega)⟩
        obtain ⟨K2, hK2⟩ := next_firstP hGr hqs has hk4 (L.length : Int)
        have HN2 := Aside0.mk (show walk_Next.f K2 ns q0 (k : Int) true ⟨0, ⟨#[]⟩⟩ (L.length : Int) = some (L, true) by
          have h0 := hK2 K2 (Nat.le_refl _); rw [hL, List.take_of_length_le (by omega), decide_eq_true (by omega)] at h0; exact h0)
        obtain ⟨K3, hK3⟩ := next_lastP hgw hGr hqs has hk4 m z (by rw [hL]; exact hm) (by rw [hL]; exact hz)
        have HN3 := Aside0.mk (show walk_Next.f K3 ns q0 (k : Int) false z 3 = some ([], true) from hK3 K3 (Nat.le_refl _))
        obtain ⟨K4, hK4⟩ := next_firstP hGr hqs has hk4 (m : Int)
        obtain ⟨U, hU⟩ : ∃ U, L.take m = U := ⟨_, rfl⟩
        have HN4 := Aside0.mk (show walk_Next.f K4 ns q0 (k : Int) true ⟨0, ⟨#[]⟩⟩ (m : Int) = some (U, false) by
          have h0 := hK4 K4 (Nat.le_refl _); rw [hL, Int.toNat_natCast, hU, decide_eq_false (by omega)] at h0; exact h0)
        have HUL := Aside0.mk (show U.length = m by rw [← hU, List.length_take]; omega)
        obtain ⟨K5, hK5⟩ := sameItems_ev U (by rw [HUL.out]; omega)
        have HS2 := Aside0.mk (show inkhornlaw0_SameItems.f K5 U U = some true from hK5 K5 (Nat.le_refl _))
        have HZ := Aside0.mk hz
        have HU := Aside0.mk hU
        have hm1 : (L.length : Int) - 1 = (m : Int) := by omega
        have hmx : ¬ (L.length : Int) < 1 := by omega
        have hmx2 : (1 : Int) ≤ (L.length : Int) := by omega
        have hl0 : ((L.length : Int) == 0) = false := by rw [beq_eq_false_iff_ne]; omega
        have hmx3 : (if (L.length : Int) < 1 then (1 : Int) else (L.length : Int)) = (L.length : Int) := if_neg hmx
        have hl1 : decide ((L.length : Int) = 0) = false := decide_eq_false (by omega)
        have HM1 := Aside0.mk hm
        clear hK2 hK3 hK4 hK5 hsm hgw has hGr hL hz hU hm
        go_enter Try.func9, Try.ntmps9
        go_upto_region 1 with fail
        generalize w.alloc (.cells #[.string q0, .int .i64 (k : Int), .int .i64 q2] 39) = w1 at HW HQ HR ⊢
        have cq0 : w1.cell? ⟨w.heap.size, 0, none⟩ = some (.string q0) := blk_cell HQ.out 0
        have cq1 : w1.cell? ⟨w.heap.size, 1, none⟩ = some (.int .i64 (k : Int)) := blk_cell HQ.out 1
        have cq2 : w1.cell? ⟨w.heap.size, 2, none⟩ = some (.int .i64 q2) := blk_cell HQ.out 2
        go_upto_region 13 with (first | ((with_reducible refine gate_callee (f := 12) rfl ?_); (try (refine gate_guard (by rfl) ?_; dsimp only)); refine goesL_ (some 19) rfl rfl Try.func12 (by kernel_rfl) rfl #[.slice A l.length c, .string q0] rfl (by (try simp only [List.map_toArray, List.map_cons, List.map_nil]); first | done | rfl) ?_; (with_reducible refine (inkhornlaw11_great.calls KG A c l q0 false _ HR.out HC.out HG.out).mono ?_); rintro e w2 ⟨rfl, hd⟩; refine ⟨_, rfl, ?_⟩; have hb := hd.below; have q_HW := Aside0.mk (below_step HW.out hb); clear HW; have HW := q_HW; clear q_HW; have q_HQ := Aside0.mk (blk_below HQ.out hb); clear HQ; have HQ := q_HQ; clear q_HQ; have q_HR := Aside0.mk (Kd.C_below HR.out hb); clear HR; have HR := q_HR; clear q_HR; clear cq0; have cq0 : w2.cell? ⟨w.heap.size, 0, none⟩ = some (.string q0) := blk_cell HQ.out 0; clear cq1; have cq1 : w2.cell? ⟨w.heap.size, 1, none⟩ = some (.int .i64 (k : Int)) := blk_cell HQ.out 1; clear cq2; have cq2 : w2.cell? ⟨w.heap.size, 2, none⟩ = some (.int .i64 q2) := blk_cell HQ.out 2; clear hb hd) | ((with_reducible refine gate_callee (f := 19) rfl ?_); (try (refine gate_guard (by rfl) ?_; dsimp only)); refine goesL_ (some 22) rfl rfl Try.func19 (by kernel_rfl) rfl #[.agg #[.string q0, .int .i64 (k : Int), .int .i64 q2]] rfl (by (try simp only [List.map_toArray, List.map_cons, List.map_nil]); first | done | rfl) ?_; (with_reducible refine (rank_May.calls q0 (k : Int) q2 true _ HM.out).mono ?_); rintro e w3 ⟨rfl, hb⟩; refine ⟨_, rfl, ?_⟩; have q_HW := Aside0.mk (below_step HW.out hb); clear HW; have HW := q_HW; clear q_HW; have q_HQ := Aside0.mk (blk_below HQ.out hb); clear HQ; have HQ := q_HQ; clear q_HQ; have q_HR := Aside0.mk (Kd.C_below HR.out hb); clear HR; have HR := q_HR; clear q_HR; clear cq0; have cq0 : w3.cell? ⟨w.heap.size, 0, none⟩ = some (.string q0) := blk_cell HQ.out 0; clear cq1; have cq1 : w3.cell? ⟨w.heap.size, 1, none⟩ = some (.int .i64 (k : Int)) := blk_cell HQ.out 1; clear cq2; have cq2 : w3.cell? ⟨w.heap.size, 2, none⟩ = some (.int .i64 q2) := blk_cell HQ.out 2; clear hb) | ((with_reducible refine gate_callee (f := 14) rfl ?_); (try (refine gate_guard (by rfl) ?_; dsimp only)); refine goesL_ (some 28) rfl rfl Try.func14 (by kernel_rfl) rfl #[.slice A l.length c] rfl (by (try simp only [List.map_toArray, List.map_cons, List.map_nil]); first | done | rfl) ?_; (with_reducible refine (graph_Build.calls KB A c l ns _ HR.out HC.out HB.out).mono ?_); rintro e w4 ⟨g, rfl, _, hgr, hb⟩; refine ⟨_, rfl, ?_⟩; have q_HW := Aside0.mk (below_step HW.out hb); clear HW; have HW := q_HW; clear q_HW; have q_HQ := Aside0.mk (blk_below HQ.out hb); clear HQ; have HQ := q_HQ; clear q_HQ; have q_HR := Aside0.mk (Kd.C_below HR.out hb); clear HR; have HR := q_HR; clear q_HR; clear cq0; have cq0 : w4.cell? ⟨w.heap.size, 0, none⟩ = some (.string q0) := blk_cell HQ.out 0; clear cq1; have cq1 : w4.cell? ⟨w.heap.size, 1, none⟩ = some (.int .i64 (k : Int)) := blk_cell HQ.out 1; clear cq2; have cq2 : w4.cell? ⟨w.heap.size, 2, none⟩ = some (.int .i64 q2) := blk_cell HQ.out 2; have HGR := Aside0.mk (hgr); clear hgr; clear hb) | ((with_reducible refine gate_callee (f := 30) rfl ?_); (try (refine gate_guard (by rfl) ?_; dsimp only)); refine goesL_ (some 47) rfl rfl Try.func30 (by kernel_rfl) rfl #[.slice A l.length c, .string q0, .int .i64 (k : Int)] rfl (by (try simp only [List.map_toArray, List.map_cons, List.map_nil]); first | done | rfl) ?_; (with_reducible refine (rankAll_calls A c l q0 k _ hqs HSM.out hk4 HAS.out HGW.out HR.out HC.out).mono ?_); rintro e w5 ⟨v5, rfl, ho, hb⟩; refine ⟨_, rfl, ?_⟩; rw [HLE.out] at ho; have q_HW := Aside0.mk (below_step HW.out hb); clear HW; have HW := q_HW; clear q_HW; have q_HQ := Aside0.mk (blk_below HQ.out hb); clear HQ; have HQ := q_HQ; clear q_HQ; have q_HGR := Aside0.mk (HGR.out.below hb); clear HGR; have HGR := q_HGR; clear q_HGR; clear cq0; have cq0 : w5.cell? ⟨w.heap.size, 0, none⟩ = some (.string q0) := blk_cell HQ.out 0; clear cq1; have cq1 : w5.cell? ⟨w.heap.size, 1, none⟩ = some (.int .i64 (k : Int)) := blk_cell HQ.out 1; clear cq2; have cq2 : w5.cell? ⟨w.heap.size, 2, none⟩ = some (.int .i64 q2) := blk_cell HQ.out 2; have HO := Aside0.mk (ho); clear HR; obtain ⟨A5, c5, e5⟩ := Kd.R_slice ho; subst e5; clear ho; clear hb) | ((with_reducible refine gate_callee (f := 15) rfl ?_); (try (refine gate_guard (by rfl) ?_; dsimp only)); refine goesL_ (some 58) rfl rfl Try.func15 (by kernel_rfl) rfl #[.pointer (some ⟨g, 0, none⟩), .string q0, .int .i64 (k : Int), .bool true, .agg #[.int .i64 0, .string ⟨#[]⟩], .int .i64 ((L.length : Int) + 1)] rfl (by (try simp only [List.map_toArray, List.map_cons, List.map_nil]); first | done | rfl) ?_; (with_reducible refine (walk_Next.calls K1 g ns q0 (k : Int) true ⟨0, ⟨#[]⟩⟩ ((L.length : Int) + 1) L true _ HGR.out HN1.out).mono ?_); rintro e w6 ⟨v6, rfl, ho, hb⟩; refine ⟨_, rfl, ?_⟩; have q_HW := Aside0.mk (below_step HW.out hb); clear HW; have HW := q_HW; clear q_HW; have q_HQ := Aside0.mk (blk_below HQ.out hb); clear HQ; have HQ := q_HQ; clear q_HQ; have q_HGR := Aside0.mk (HGR.out.below hb); clear HGR; have HGR := q_HGR; clear q_HGR; have q_HO := Aside0.mk (Kd.R_below HO.out hb); clear HO; have HO := q_HO; clear q_HO; clear cq0; have cq0 : w6.cell? ⟨w.heap.size, 0, none⟩ = some (.string q0) := blk_cell HQ.out 0; clear cq1; have cq1 : w6.cell? ⟨w.heap.size, 1, none⟩ = some (.int .i64 (k : Int)) := blk_cell HQ.out 1; clear cq2; have cq2 : w6.cell? ⟨w.heap.size, 2, none⟩ = some (.int .i64 q2) := blk_cell HQ.out 2; have HX := Aside0.mk (ho); obtain ⟨A6, c6, e6⟩ := Kd.R_slice ho; subst e6; clear ho; clear hb) | ((with_reducible refine gate_callee (f := 15) rfl ?_); (try (refine gate_guard (by rfl) ?_; dsimp only)); refine goesL_ (some 71) rfl rfl Try.func15 (by kernel_rfl) rfl #[.pointer (some ⟨g, 0, none⟩), .string q0, .int .i64 (k : Int), .bool true, .agg #[.int .i64 0, .string ⟨#[]⟩], .int .i64 (L.length : Int)] rfl (by (try simp only [List.map_toArray, List.map_cons, List.map_nil]); first | done | rfl) ?_; (with_reducible refine (walk_Next.calls K2 g ns q0 (k : Int) true ⟨0, ⟨#[]⟩⟩ (L.length : Int) L true _ HGR.out HN2.out).mono ?_); rintro e w7 ⟨v7, rfl, ho, hb⟩; refine ⟨_, rfl, ?_⟩; have q_HW := Aside0.mk (below_step HW.out hb); clear HW; have HW := q_HW; clear q_HW; have q_HQ := Aside0.mk (blk_below HQ.out hb); clear HQ; have HQ := q_HQ; clear q_HQ; have q_HGR := Aside0.mk (HGR.out.below hb); clear HGR; have HGR := q_HGR; clear q_HGR; have q_HO := Aside0.mk (Kd.R_below HO.out hb); clear HO; have HO := q_HO; clear q_HO; have q_HX := Aside0.mk (Kd.R_below HX.out hb); clear HX; have HX := q_HX; clear q_HX; clear cq0; have cq0 : w7.cell? ⟨w.heap.size, 0, none⟩ = some (.string q0) := blk_cell HQ.out 0; clear cq1; have cq1 : w7.cell? ⟨w.heap.size, 1, none⟩ = some (.int .i64 (k : Int)) := blk_cell HQ.out 1; clear cq2; have cq2 : w7.cell? ⟨w.heap.size, 2, none⟩ = some (.int .i64 q2) := blk_cell HQ.out 2; have HY := Aside0.mk (ho); obtain ⟨A7, c7, e7⟩ := Kd.R_slice ho; subst e7; clear ho; clear hb) | ((with_reducible refine gate_callee (f := 17) rfl ?_); (try (refine gate_guard (by rfl) ?_; dsimp only)); refine goesL_ (some 83) rfl rfl Try.func17 (by kernel_rfl) rfl #[.slice A6 L.length c6, .slice A5 L.length c5] rfl (by (try simp only [List.map_toArray, List.map_cons, List.map_nil]); first | done | rfl) ?_; (with_reducible refine (same_calls' KS A6 c6 L L.length A5 c5 L L.length rfl rfl true _ (Kd.R_reads' HX.out).2.2 (Kd.R_reads' HX.out).2.1 (Kd.R_reads' HO.out).2.2 (Kd.R_reads' HO.out).2.1 HS.out).mono ?_); rintro e w8 ⟨rfl, hd⟩; refine ⟨_, rfl, ?_⟩; have hb := hd.below; have q_HW := Aside0.mk (below_step HW.out hb); clear HW; have HW := q_HW; clear q_HW; have q_HQ := Aside0.mk (blk_below HQ.out hb); clear HQ; have HQ := q_HQ; clear q_HQ; have q_HGR := Aside0.mk (HGR.out.below hb); clear HGR; have HGR := q_HGR; clear q_HGR; have q_HO := Aside0.mk (Kd.R_below HO.out hb); clear HO; have HO := q_HO; clear q_HO; have q_HX := Aside0.mk (Kd.R_below HX.out hb); clear HX; have HX := q_HX; clear q_HX; have q_HY := Aside0.mk (Kd.R_below HY.out hb); clear HY; have HY := q_HY; clear q_HY; clear cq0; have cq0 : w8.cell? ⟨w.heap.size, 0, none⟩ = some (.string q0) := blk_cell HQ.out 0; clear cq1; have cq1 : w8.cell? ⟨w.heap.size, 1, none⟩ = some (.int .i64 (k : Int)) := blk_cell HQ.out 1; clear cq2; have cq2 : w8.cell? ⟨w.heap.size, 2, none⟩ = some (.int .i64 q2) := blk_cell HQ.out 2; clear hb hd) | ((with_reducible refine gate_callee (f := 17) rfl ?_); (try (refine gate_guard (by rfl) ?_; dsimp only)); refine goesL_ (some 89) rfl rfl Try.func17 (by kernel_rfl) rfl #[.slice A7 L.length c7, .slice A5 L.length c5] rfl (by (try simp only [List.map_toArray, List.map_cons, List.map_nil]); first | done | rfl) ?_; (with_reducible refine (same_calls' KS A7 c7 L L.length A5 c5 L L.length rfl rfl true _ (Kd.R_reads' HY.out).2.2 (Kd.R_reads' HY.out).2.1 (Kd.R_reads' HO.out).2.2 (Kd.R_reads' HO.out).2.1 HS.out).mono ?_); rintro e w9 ⟨rfl, hd⟩; refine ⟨_, rfl, ?_⟩; have hb := hd.below; have q_HW := Aside0.mk (below_step HW.out hb); clear HW; have HW := q_HW; clear q_HW; have q_HQ := Aside0.mk (blk_below HQ.out hb); clear HQ; have HQ := q_HQ; clear q_HQ; have q_HGR := Aside0.mk (HGR.out.below hb); clear HGR; have HGR := q_HGR; clear q_HGR; have q_HO := Aside0.mk (Kd.R_below HO.out hb); clear HO; have HO := q_HO; clear q_HO; have q_HX := Aside0.mk (Kd.R_below HX.out hb); clear HX; have HX := q_HX; clear q_HX; have q_HY := Aside0.mk (Kd.R_below HY.out hb); clear HY; have HY := q_HY; clear q_HY; clear cq0; have cq0 : w9.cell? ⟨w.heap.size, 0, none⟩ = some (.string q0) := blk_cell HQ.out 0; clear cq1; have cq1 : w9.cell? ⟨w.heap.size, 1, none⟩ = some (.int .i64 (k : Int)) := blk_cell HQ.out 1; clear cq2; have cq2 : w9.cell? ⟨w.heap.size, 2, none⟩ = some (.int .i64 q2) := blk_cell HQ.out 2; clear hb hd))
        clear hmx3
        obtain ⟨ga, cga, ea, _, _, cls, hga⟩ := Kd.R_form HO.out (by rw [HM1.out]; omega)
        injection ea with ea _ ec
        subst ea
        subst ec
        obtain ⟨cel, hcl, hM, hcc, hfr⟩ := Kd.R_elem HO.out z24 (m : Int) (by omega) (by omega)
        rw [Int.toNat_natCast] at hM hcc hfr
        rw [List.getD_eq_getElem?_getD, HZ.out] at hM
        simp only [Option.getD_some] at hM
        obtain ⟨zd, zw⟩ := z
        obtain rfl := k24_openM hM
        have hz0 : w9.cell? ⟨ga, m * 2, none⟩ = some (.int .i64 zd) := hcc 0 _ rfl
        have hz1 : w9.cell? ⟨ga, m * 2 + 1, none⟩ = some (.string zw) := hcc 1 _ rfl
        have hq0 : w9.cell? ⟨w.heap.size, 0, none⟩ = some (.string q0) := cq0
        have hq1 : w9.cell? ⟨w.heap.size, 1, none⟩ = some (.int .i64 (k : Int)) := cq1
        have hri : (m : Int) < (L.length : Int) := by omega
        have hri0 : (0 : Int) ≤ (m : Int) := by omega
        have hc5 : m ≤ c5 := by have h1 := (Kd.R_reads' HO.out).2.1; omega
        have HRUN := take_items31 (some ⟨ga, 0, none⟩) L.length c5 m hc5
        have hmb : m ≤ 1000000 := by omega
        have hwi : wrap64 (m : Int) = (m : Int) := wrn m hmb
        clear hcc hfr hM hcl hga
        refine start_ (n := 17) (S := fun w' => w'.cell? ⟨w.heap.size, 0, none⟩ = some (.string q0) ∧ w'.cell? ⟨w.heap.size, 1, none⟩ = some (.int .i64 (k : Int)) ∧ w'.cell? ⟨ga, m * 2, none⟩ = some (.int .i64 zd) ∧ w'.cell? ⟨ga, m * 2 + 1, none⟩ = some (.string zw)) (ds := []) #[false, false, false, false, false, false, false, false, false, false, false, false, false, false, false, false, false] (by kernel_rfl) rfl rfl ⟨hq0, hq1, hz0, hz1⟩ (fun hHeld => ?_)
        have D1 := Aside0.mk (Kd.R_drew HO.out)
        have D3 := Aside0.mk (HGR.out.below ((Below.refl _ _).drew))
        have D4 := Aside0.mk (below_drew1 HW.out)
        have D5 := Aside0.mk (show (w9.drew).heap[w.heap.size]? = _ from HQ.out)
        clear HO HGR HW HQ HX HY hq0 hq1 hz0 hz1 cq0 cq1 cq2
        generalize w9.drew = w10 at D1 D3 D4 D5 hHeld ⊢
        refine pure_ (i := 0) (N := (some 97)) (v := ?_) (a' := ?_) #[true, false, false, false, false, false, false, false, false, false, false, false, false, false, false, false, false] rfl rfl (by kernel_rfl) (fun _ _ _ h => h) (Or.inl ⟨by rfl, ?_⟩) ?_ ?_
        rotate_left
        · intro w'
          go_simp
          with_reducible rfl
        rotate_left
        · simp only [Act.put, List.setIfInBounds_toArray, List.set_cons_zero, List.set_cons_succ, i64_w, i32_w]
          rfl
        refine pure_ (i := 1) (N := (some 98)) (v := ?_) (a' := ?_) #[true, true, false, false, false, false, false, false, false, false, false, false, false, false, false, false, false] rfl rfl (by kernel_rfl) (fun _ _ _ h => h) (Or.inl ⟨by rfl, ?_⟩) ?_ ?_
        rotate_left
        · intro w'
          go_simp
          with_reducible rfl
        rotate_left
        · simp only [Act.put, List.setIfInBounds_toArray, List.set_cons_zero, List.set_cons_succ, i64_w, i32_w]
          rfl
        refine pure_ (i := 3) (N := (some 100)) (v := ?_) (a' := ?_) #[true, true, false, true, false, false, false, false, false, false, false, false, false, false, false, false, false] rfl rfl (by kernel_rfl) (fun _ _ _ h => h) (Or.inl ⟨by rfl, ?_⟩) ?_ ?_
        rotate_left
        · intro w'
          go_simp
          with_reducible rfl
        rotate_left
        · simp only [Act.put, List.setIfInBounds_toArray, List.set_cons_zero, List.set_cons_succ, i64_w, i32_w]
          rfl
        refine pure_ (i := 5) (N := (some 102)) (v := ?_) (a' := ?_) #[true, true, false, true, false, true, false, false, false, false, false, false, false, false, false, false, false] rfl rfl (by kernel_rfl) (fun _ _ _ h => h) (Or.inl ⟨by rfl, ?_⟩) ?_ ?_
        rotate_left
        · intro w'
          go_simp
          with_reducible rfl
        rotate_left
        · simp only [Act.put, List.setIfInBounds_toArray, List.set_cons_zero, List.set_cons_succ, i64_w, i32_w]
          rfl
        refine pure_ (i := 6) (N := (some 103)) (v := ?_) (a' := ?_) #[true, true, false, true, false, true, true, false, false, false, false, false, false, false, false, false, false] rfl rfl (by kernel_rfl) (fun _ _ _ h => h) (Or.inl ⟨by rfl, ?_⟩) ?_ ?_
        rotate_left
        · intro w'
          go_simp
          with_reducible rfl
        rotate_left
        · simp only [Act.put, List.setIfInBounds_toArray, List.set_cons_zero, List.set_cons_succ, i64_w, i32_w]
          rfl
        refine pure_ (i := 7) (N := (some 104)) (v := ?_) (a' := ?_) #[true, true, false, true, false, true, true, true, false, false, false, false, false, false, false, false, false] rfl rfl (by kernel_rfl) (fun _ _ _ h => h) (Or.inl ⟨by rfl, ?_⟩) ?_ ?_
        rotate_left
        · intro w'
          go_simp
          with_reducible rfl
        rotate_left
        · simp only [Act.put, List.setIfInBounds_toArray, List.set_cons_zero, List.set_cons_succ, i64_w, i32_w]
          rfl
        refine pure_ (i := 8) (N := (some 105)) (v := ?_) (a' := ?_) #[true, true, false, true, false, true, true, true, true, false, false, false, false, false, false, false, false] rfl rfl (by kernel_rfl) (fun _ _ _ h => h) (Or.inl ⟨by rfl, ?_⟩) ?_ ?_
        rotate_left
        · intro w'
          go_simp
          with_reducible rfl
        rotate_left
        · simp only [Act.put, List.setIfInBounds_toArray, List.set_cons_zero, List.set_cons_succ, i64_w, i32_w]
          rfl
        refine pure_ (i := 9) (N := (some 106)) (v := ?_) (a' := ?_) #[true, true, false, true, false, true, true, true, true, true, false, false, false, false, false, false, false] rfl rfl (by kernel_rfl) (fun _ _ _ h => h) (Or.inl ⟨by rfl, ?_⟩) ?_ ?_
        rotate_left
        · intro w'
          go_simp
          with_reducible rfl
        rotate_left
        · simp only [Act.put, List.setIfInBounds_toArray, List.set_cons_zero, List.set_cons_succ, i64_w, i32_w]
          rfl
        refine take_ (i := 2) (N := (some 99)) (v := ?_) (a' := ?_) #[true, true, true, true, false, true, true, true, true, true, false, false, false, false, false, false, false] rfl rfl (by kernel_rfl) (fun _ _ _ h => h) (Or.inl ⟨by rfl, ?_⟩) hHeld ?_ ?_
        rotate_left
        · rintro w' ⟨s0, s1, s2, s3⟩
          go_simp
          with_reducible rfl
        rotate_left
        · simp only [Act.put, List.setIfInBounds_toArray, List.set_cons_zero, List.set_cons_succ, i64_w, i32_w]
          rfl
        refine take_ (i := 4) (N := (some 101)) (v := ?_) (a' := ?_) #[true, true, true, true, true, true, true, true, true, true, false, false, false, false, false, false, false] rfl rfl (by kernel_rfl) (fun _ _ _ h => h) (Or.inl ⟨by rfl, ?_⟩) hHeld ?_ ?_
        rotate_left
        · rintro w' ⟨s0, s1, s2, s3⟩
          go_simp
          with_reducible rfl
        rotate_left
        · simp only [Act.put, List.setIfInBounds_toArray, List.set_cons_zero, List.set_cons_succ, i64_w, i32_w]
          rfl
        refine take_ (i := 10) (N := (some 107)) (v := ?_) (a' := ?_) #[true, true, true, true, true, true, true, true, true, true, true, false, false, false, false, false, false] rfl rfl (by kernel_rfl) (fun _ _ _ h => h) (Or.inl ⟨by rfl, ?_⟩) hHeld ?_ ?_
        rotate_left
        · rintro w' ⟨s0, s1, s2, s3⟩
          go_simp
          with_reducible rfl
        rotate_left
        · simp only [Act.put, List.setIfInBounds_toArray, List.set_cons_zero, List.set_cons_succ, i64_w, i32_w]
          rfl
        refine one_ (i := 11) (N := (some 108)) #[true, true, true, true, true, true, true, true, true, true, true, true, false, false, false, false, false] rfl rfl (by kernel_rfl) (by decide) (fun Kq hK => ?_)
        refine goes_ Try.func15 (by kernel_rfl) rfl #[.pointer (some ⟨g, 0, none⟩), .string q0, .int .i64 (k : Int), .bool false, .agg #[.int .i64 zd, .string zw], .int .i64 3] (by rfl) rfl rfl (by (try simp only [List.map_toArray, List.map_cons, List.map_nil]); first | done | rfl) ?_
        with_reducible refine (walk_Next.calls K3 g ns q0 (k : Int) false ⟨zd, zw⟩ 3 [] true _ D3.out HN3.out).mono ?_
        rintro e w11 ⟨v11, rfl, ho, hb⟩
        refine ⟨_, rfl, ?_⟩
        obtain ⟨A11, c11, e11⟩ := Kd.R_slice ho
        subst e11
        have HO := Aside0.mk (Kd.R_below D1.out hb)
        have HGR := Aside0.mk (D3.out.below hb)
        have HW := Aside0.mk (below_step D4.out hb)
        have HQ := Aside0.mk (blk_below D5.out hb)
        have HZR := Aside0.mk ho
        refine hK.out _ _ ⟨pw_cell_below hb hHeld.1, pw_cell_below hb hHeld.2.1, pw_cell_below hb hHeld.2.2.1, pw_cell_below hb hHeld.2.2.2⟩ (fun hHeld => ?_)
        clear hb ho D1 D3 D4 D5
        clear hK Kq
        refine norm_ (a' := ?_) ?_ ?_
        rotate_left
        · show Act.put _ (some 108) _ = _
          simp only [Act.put, List.setIfInBounds_toArray, List.set_cons_zero, List.set_cons_succ, i64_w, i32_w]
          rfl
        refine pure_ (i := 12) (N := (some 96)) (v := ?_) (a' := ?_) #[true, true, true, true, true, true, true, true, true, true, true, true, true, false, false, false, false] rfl rfl (by kernel_rfl) (fun _ _ _ h => h) (Or.inl ⟨by rfl, ?_⟩) ?_ ?_
        rotate_left
        · intro w'
          go_simp
          with_reducible rfl
        rotate_left
        · simp only [Act.put, List.setIfInBounds_toArray, List.set_cons_zero, List.set_cons_succ, i64_w, i32_w]
          rfl
        refine pure_ (i := 13) (N := (some 109)) (v := ?_) (a' := ?_) #[true, true, true, true, true, true, true, true, true, true, true, true, true, true, false, false, false] rfl rfl (by kernel_rfl) (fun _ _ _ h => h) (Or.inl ⟨by rfl, ?_⟩) ?_ ?_
        rotate_left
        · intro w'
          go_simp
          with_reducible rfl
        rotate_left
        · simp only [Act.put, List.setIfInBounds_toArray, List.set_cons_zero, List.set_cons_succ, i64_w, i32_w]
          rfl
        refine pure_ (i := 14) (N := (some 110)) (v := ?_) (a' := ?_) #[true, true, true, true, true, true, true, true, true, true, true, true, true, true, true, false, false] rfl rfl (by kernel_rfl) (fun _ _ _ h => h) (Or.inl ⟨by rfl, ?_⟩) ?_ ?_
        rotate_left
        · intro w'
          go_simp
          with_reducible rfl
        rotate_left
        · simp only [Act.put, List.setIfInBounds_toArray, List.set_cons_zero, List.set_cons_succ, i64_w, i32_w]
          rfl
        refine pure_ (i := 15) (N := (some 12)) (v := ?_) (a' := ?_) #[true, true, true, true, true, true, true, true, true, true, true, true, true, true, true, true, false] rfl rfl (by kernel_rfl) (fun _ _ _ h => h) (Or.inl ⟨by rfl, ?_⟩) ?_ ?_
        rotate_left
        · intro w'
          go_simp
          with_reducible rfl
        rotate_left
        · simp only [Act.put, List.setIfInBounds_toArray, List.set_cons_zero, List.set_cons_succ, i64_w, i32_w]
          rfl
        refine pure_ (i := 16) (N := (some 13)) (v := ?_) (a' := ?_) #[true, true, true, true, true, true, true, true, true, true, true, true, true, true, true, true, true] rfl rfl (by kernel_rfl) (fun _ _ _ h => h) (Or.inl ⟨by rfl, ?_⟩) ?_ ?_
        rotate_left
        · intro w'
          go_simp
          with_reducible rfl
        rotate_left
        · simp only [Act.put, List.setIfInBounds_toArray, List.set_cons_zero, List.set_cons_succ, i64_w, i32_w]
          rfl
        refine done_ (by kernel_rfl) ?_
        clear hHeld hwi
        have hml : m ≤ L.length := by rw [HM1.out]; exact Nat.le_succ m
        have hmc5 : m ≤ c5 := hc5
        have cq0 : w11.cell? ⟨w.heap.size, 0, none⟩ = some (.string q0) := blk_cell HQ.out 0
        have cq1 : w11.cell? ⟨w.heap.size, 1, none⟩ = some (.int .i64 (k : Int)) := blk_cell HQ.out 1
        have cq2 : w11.cell? ⟨w.heap.size, 2, none⟩ = some (.int .i64 q2) := blk_cell HQ.out 2
        go_wp2_with (first | ((with_reducible refine gate_callee (f := 15) rfl ?_); (try (refine gate_guard (by rfl) ?_; dsimp only)); refine goesL_ (some 121) rfl rfl Try.func15 (by kernel_rfl) rfl #[.pointer (some ⟨g, 0, none⟩), .string q0, .int .i64 (k : Int), .bool true, .agg #[.int .i64 0, .string ⟨#[]⟩], .int .i64 (m : Int)] rfl (by (try simp only [List.map_toArray, List.map_cons, List.map_nil]); first | done | rfl) ?_; (with_reducible refine (walk_Next.calls K4 g ns q0 (k : Int) true ⟨0, ⟨#[]⟩⟩ (m : Int) U false _ HGR.out HN4.out).mono ?_); rintro e w12 ⟨v12, rfl, ho, hb⟩; refine ⟨_, rfl, ?_⟩; have q_HW := Aside0.mk (below_step HW.out hb); clear HW; have HW := q_HW; clear q_HW; have q_HQ := Aside0.mk (blk_below HQ.out hb); clear HQ; have HQ := q_HQ; clear q_HQ; have q_HO := Aside0.mk (Kd.R_below HO.out hb); clear HO; have HO := q_HO; clear q_HO; have q_HGR := Aside0.mk (HGR.out.below hb); clear HGR; have HGR := q_HGR; clear q_HGR; clear cq0; have cq0 : w12.cell? ⟨w.heap.size, 0, none⟩ = some (.string q0) := blk_cell HQ.out 0; clear cq1; have cq1 : w12.cell? ⟨w.heap.size, 1, none⟩ = some (.int .i64 (k : Int)) := blk_cell HQ.out 1; clear cq2; have cq2 : w12.cell? ⟨w.heap.size, 2, none⟩ = some (.int .i64 q2) := blk_cell HQ.out 2; have HUR := Aside0.mk (ho); obtain ⟨A12, c12, e12⟩ := Kd.R_slice ho; subst e12; clear ho; have HTK := Aside0.mk (show Kd.C k24 w12 (some ⟨ga, 0, none⟩) m U by have h0 := Kd.C_take (m := m) (Kd.R_reads' HO.out).2.2 hml; rw [HU.out, HUL.out] at h0; exact h0); have HTC := Aside0.mk hmc5; clear hb) | ((with_reducible refine gate_callee (f := 17) rfl ?_); (try (refine gate_guard (by rfl) ?_; dsimp only)); refine goesL_ (some 137) rfl rfl Try.func17 (by kernel_rfl) rfl #[.slice A12 U.length c12, .slice (some ⟨ga, 0, none⟩) m c5] rfl (by (try simp only [List.map_toArray, List.map_cons, List.map_nil]); first | done | rfl) ?_; (with_reducible refine (same_calls' K5 A12 c12 U U.length (some ⟨ga, 0, none⟩) c5 U m rfl HUL.out true _ (Kd.R_reads' HUR.out).2.2 (Kd.R_reads' HUR.out).2.1 HTK.out HTC.out HS2.out).mono ?_); rintro e w13 ⟨rfl, hd⟩; refine ⟨_, rfl, ?_⟩; have hb := hd.below; have q_HW := Aside0.mk (below_step HW.out hb); clear HW; have HW := q_HW; clear q_HW; have q_HQ := Aside0.mk (blk_below HQ.out hb); clear HQ; have HQ := q_HQ; clear q_HQ; have q_HO := Aside0.mk (Kd.R_below HO.out hb); clear HO; have HO := q_HO; clear q_HO; have q_HGR := Aside0.mk (HGR.out.below hb); clear HGR; have HGR := q_HGR; clear q_HGR; have q_HUR := Aside0.mk (Kd.R_below HUR.out hb); clear HUR; have HUR := q_HUR; clear q_HUR; clear cq0; have cq0 : w13.cell? ⟨w.heap.size, 0, none⟩ = some (.string q0) := blk_cell HQ.out 0; clear cq1; have cq1 : w13.cell? ⟨w.heap.size, 1, none⟩ = some (.int .i64 (k : Int)) := blk_cell HQ.out 1; clear cq2; have cq2 : w13.cell? ⟨w.heap.size, 2, none⟩ = some (.int .i64 q2) := blk_cell HQ.out 2; clear hb hd) | ((with_reducible refine gate_callee (f := 13) rfl ?_); (try (refine gate_guard (by rfl) ?_; dsimp only)); refine goesL_ (some 144) rfl rfl Try.func13 (by kernel_rfl) rfl #[] rfl (by (try simp only [List.map_toArray, List.map_cons, List.map_nil]); first | done | rfl) ?_; (with_reducible refine (awake_calls _).mono ?_); rintro e w14 ⟨rfl, hb⟩; refine ⟨_, rfl, ?_⟩; have q_HW := Aside0.mk (below_step HW.out hb); clear HW; have HW := q_HW; clear q_HW; have q_HQ := Aside0.mk (blk_below HQ.out hb); clear HQ; have HQ := q_HQ; clear q_HQ; have q_HO := Aside0.mk (Kd.R_below HO.out hb); clear HO; have HO := q_HO; clear q_HO; have q_HGR := Aside0.mk (HGR.out.below hb); clear HGR; have HGR := q_HGR; clear q_HGR; have q_HUR := Aside0.mk (Kd.R_below HUR.out hb); clear HUR; have HUR := q_HUR; clear q_HUR; clear cq0; have cq0 : w14.cell? ⟨w.heap.size, 0, none⟩ = some (.string q0) := blk_cell HQ.out 0; clear cq1; have cq1 : w14.cell? ⟨w.heap.size, 1, none⟩ = some (.int .i64 (k : Int)) := blk_cell HQ.out 1; clear cq2; have cq2 : w14.cell? ⟨w.heap.size, 2, none⟩ = some (.int .i64 q2) := blk_cell HQ.out 2; clear hb))
        go_ret
        exact ⟨rfl, HW.out⟩

end Go.Proofs.Ytklidannncajiaa.OW
