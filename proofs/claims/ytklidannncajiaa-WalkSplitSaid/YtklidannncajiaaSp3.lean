/- What the row of the law WalkSplit leans on: contracts of functions and plain laws, each for all inputs that its own theorem names. -/
import Derived.Test.YtklidannncajiaaSp0
import Derived.Test.YtklidannncajiaaSp1
import Derived.Test.YtklidannncajiaaSp2
import Derived.Outline
namespace Go.Proofs.Ytklidannncajiaa.OW
open Go.RowKit Go.Proofs.YtklidannncajiaaW.PrintWords Go.Proofs.YtklidannncajiaaW.PrintLast Go.Proofs.YtklidannncajiaaW.PrintMore Go.Proofs.Ytklidannncajiaa.Am
set_option linter.unusedVariables false
set_option linter.unusedSimpArgs false

theorem low_ev (a : Int) (n : Nat) (h0 : 0 < n) (hn : n < 1000) : ∃ r : Nat, inkhornlaw0_Low.f a (n : Int) = some (r : Int) ∧ r < n := by
  have e1 : IntKind.u64.wrap (n : Int) = n := by show (n : Int) % 18446744073709551616 = n; omega
  have e2 : 0 ≤ IntKind.u64.wrap a := by show 0 ≤ a % 18446744073709551616; omega
  unfold inkhornlaw0_Low.f
  rw [e1, if_neg (by omega), Int.tmod_eq_emod_of_nonneg e2]
  have h2 := Int.emod_nonneg (IntKind.u64.wrap a) (b := (n : Int)) (by omega)
  have h3 := Int.emod_lt_of_pos (IntKind.u64.wrap a) (b := (n : Int)) (by omega)
  exact ⟨(IntKind.u64.wrap a % (n : Int)).toNat, by rw [wr64 _ (by omega) (by omega), Int.toNat_of_nonneg h2], by omega⟩
theorem may_eq (q0 : ByteArray) (h : q0.size ≤ 1000000) (q1 q2 : Int) : ∃ b, rank_May.f q0 q1 q2 = some b := by
  unfold rank_May.f
  rw [asked_eq h, Option.bind_some]
  repeat' split
  all_goals exact ⟨_, rfl⟩
/-- What the law's walk must know of two batches. -/
def SplitK (K : Nat) (ns : List S72) (q0 : ByteArray) (q1 : Int) (first : Bool) (af : S24) (rm rn : Nat) (x both : List S24) (p r : Bool) : Prop :=
  walk_Next.f K ns q0 q1 first af (1 + (rm : Int)) = some (x, p) ∧ walk_Next.f K ns q0 q1 first af (1 + (rm : Int) + (1 + (rn : Int))) = some (both, r) ∧ both.length ≤ 1000 ∧ inkhornlaw0_SameItems.f K both both = some true ∧
    (p = true → r = true ∧ x = both) ∧ (p = false → x.length = rm + 1 ∧ ∃ z y, x[rm]? = some z ∧ walk_Next.f K ns q0 q1 false z (1 + (rn : Int)) = some (y, r) ∧ x ++ y = both)
theorem split_facts {l : List ByteArray} (hl : Small l) (q0 : ByteArray) (hq : q0.size ≤ 100) (q1 : Int) (first : Bool) (af : S24) (rm rn : Nat) (hm : rm < 6) (hn : rn < 6) :
    ∃ K e ns, graph_Build.f K l = some (e, ns) ∧ (e = 0 → ∃ x both p r, SplitK K ns q0 q1 first af rm rn x both p r) := by
  obtain ⟨e, ns, ⟨K0, h0⟩, hg⟩ := build_ev hl
  by_cases he : e = 0
  case neg => exact ⟨K0, e, ns, h0 _ (Nat.le_refl _), fun h => absurd h he⟩
  obtain ⟨hw, hG⟩ := hg he
  have e1 : (1 + (rm : Int)) = ((rm + 1 : Nat) : Int) := by omega
  have e2 : (1 + (rn : Int)) = ((rn + 1 : Nat) : Int) := by omega
  have hx := next_ev hG q0 (by omega) q1 first af ((rm + 1 : Nat) : Int)
  have hb := next_ev hG q0 (by omega) q1 first af (((rm + 1 : Nat) : Int) + ((rn + 1 : Nat) : Int))
  have hbl : (nextP q0 q1 l first af (((rm + 1 : Nat) : Int) + ((rn + 1 : Nat) : Int))).1.length ≤ 1000 := by
    unfold nextP
    dsimp only
    rw [List.length_take]
    omega
  have hs := sameItems_ev _ (Nat.le_trans hbl (by omega))
  cases hp : (nextP q0 q1 l first af ((rm + 1 : Nat) : Int)).2 with
  | true =>
    have h := split_all q0 q1 l first af (rm + 1) (rn + 1) hp
    rw [h] at hs hb hbl
    rw [show nextP q0 q1 l first af ((rm + 1 : Nat) : Int) = ((nextP q0 q1 l first af ((rm + 1 : Nat) : Int)).1, true) from Prod.ext rfl hp] at hx
    obtain ⟨K1, h1⟩ := hx
    obtain ⟨K2, h2⟩ := hb
    obtain ⟨K3, h3⟩ := hs
    refine ⟨max K0 (max K1 (max K2 K3)), e, ns, h0 _ (by omega), fun _ => ⟨(nextP q0 q1 l first af ((rm + 1 : Nat) : Int)).1, (nextP q0 q1 l first af ((rm + 1 : Nat) : Int)).1, true, true, ?_⟩⟩
    unfold SplitK
    rw [e1, e2]
    exact ⟨h1 _ (by omega), h2 _ (by omega), hbl, h3 _ (by omega), fun _ => ⟨rfl, rfl⟩, fun h => by cases h⟩
  | false =>
    obtain ⟨hlen, h⟩ := split_more q0 q1 hw.sorted first af (rm + 1) (rn + 1) (by omega) hp
    obtain ⟨hz1, hz2⟩ := h _ (List.getElem?_eq_getElem (by omega))
    rw [show nextP q0 q1 l first af ((rm + 1 : Nat) : Int) = ((nextP q0 q1 l first af ((rm + 1 : Nat) : Int)).1, false) from Prod.ext rfl hp] at hx
    have hy := next_ev hG q0 (by omega) q1 false ((nextP q0 q1 l first af ((rm + 1 : Nat) : Int)).1[rm + 1 - 1]'(by omega)) ((rn + 1 : Nat) : Int)
    obtain ⟨K1, h1⟩ := hx
    obtain ⟨K2, h2⟩ := hb
    obtain ⟨K3, h3⟩ := hs
    obtain ⟨K4, h4⟩ := hy
    refine ⟨max K0 (max K1 (max K2 (max K3 K4))), e, ns, h0 _ (by omega), fun _ => ⟨(nextP q0 q1 l first af ((rm + 1 : Nat) : Int)).1, (nextP q0 q1 l first af (((rm + 1 : Nat) : Int) + ((rn + 1 : Nat) : Int))).1, false, (nextP q0 q1 l first af (((rm + 1 : Nat) : Int) + ((rn + 1 : Nat) : Int))).2, ?_⟩⟩
    unfold SplitK
    rw [e1, e2]
    refine ⟨h1 _ (by omega), h2 _ (by omega), hbl, h3 _ (by omega), fun h => (by cases h), fun _ => ⟨hlen, _, _, List.getElem?_eq_getElem (by omega), ?_, hz1⟩⟩
    rw [← hz2]
    exact h4 _ (by omega)
set_option maxHeartbeats 8000000 in
set_option maxRecDepth 100000 in
theorem walkSplit_calls (A : Option Addr) (c : Nat) (l : List ByteArray) (q0 : ByteArray) (q1 q2 : Int) (first : Bool) (a0 : Int) (a1 : ByteArray) (m n : Int) (w : World) (hr : Kd.C Kd.string w A l.length l) (hc : l.length ≤ c) :
    Calls Try.prog 4 #[.slice A l.length c, .agg #[.string q0, .int .i64 q1, .int .i64 q2], .bool first, .agg #[.int .i64 a0, .string a1], .int .i64 m, .int .i64 n] w fun e w' => e = .returned (.bool true) ∧ Below w.heap.size w w' := by
  have hb0 := (Below.refl w.heap.size w).alloc (Nat.le_refl _) (.cells #[.string q0, .int .i64 q1, .int .i64 q2] 39)
  have hb1 := hb0.alloc (by simp) (.cells #[.int .i64 a0, .string a1] 24)
  have h0 := blk_alloc (heap_alloc_new w (.cells #[.string q0, .int .i64 q1, .int .i64 q2] 39)) (.cells #[.int .i64 a0, .string a1] 24)
  have h1 := heap_alloc_new (w.alloc (.cells #[.string q0, .int .i64 q1, .int .i64 q2] 39)) (.cells #[.int .i64 a0, .string a1] 24)
  rw [show (w.alloc (.cells #[.string q0, .int .i64 q1, .int .i64 q2] 39)).heap.size = w.heap.size + 1 by simp] at h1
  have HW := Aside0.mk hb1
  have HQ := Aside0.mk h0
  have HA := Aside0.mk h1
  have HR := Aside0.mk (Kd.C_below hr hb1)
  have HC := Aside0.mk hc
  clear hr hc hb0 hb1 h0 h1
  obtain ⟨G, hG⟩ : ∃ G, G = !decide (Small l ∧ q0.size ≤ 100) := ⟨_, rfl⟩
  obtain ⟨rm, hlm, hrm⟩ := low_ev m 6 (by omega) (by omega)
  obtain ⟨rn, hln, hrn⟩ := low_ev n 6 (by omega) (by omega)
  have HLM := Aside0.mk (show inkhornlaw0_Low.f m 6 = some (rm : Int) from hlm)
  have HLN := Aside0.mk (show inkhornlaw0_Low.f n 6 = some (rn : Int) from hln)
  clear hlm hln
  go_enter Try.func4, Try.ntmps4
  go_upto_region 1 with fail
  generalize (w.alloc (.cells #[.string q0, .int .i64 q1, .int .i64 q2] 39)).alloc (.cells #[.int .i64 a0, .string a1] 24) = w1 at HW HQ HA HR ⊢
  have cq0 : w1.cell? ⟨w.heap.size, 0, none⟩ = some (.string q0) := blk_cell HQ.out 0
  have cq1 : w1.cell? ⟨w.heap.size, 1, none⟩ = some (.int .i64 q1) := blk_cell HQ.out 1
  have cq2 : w1.cell? ⟨w.heap.size, 2, none⟩ = some (.int .i64 q2) := blk_cell HQ.out 2
  have ca0 : w1.cell? ⟨w.heap.size + 1, 0, none⟩ = some (.int .i64 a0) := blk_cell HA.out 0
  have ca1 : w1.cell? ⟨w.heap.size + 1, 1, none⟩ = some (.string a1) := blk_cell HA.out 1
  cases G with
  | true =>
    obtain ⟨K, hK⟩ := great_small l q0
    have HG := Aside0.mk (show inkhornlaw11_great.f K l q0 = some true from (hK K (Nat.le_refl _)).trans (congrArg some hG.symm))
    clear hK hG
    go_wp2_with (first | ((with_reducible refine gate_callee (f := 12) rfl ?_); (try (refine gate_guard (by rfl) ?_; dsimp only)); refine goesL_ (some 24) rfl rfl Try.func12 (by kernel_rfl) rfl #[.slice A l.length c, .string q0] rfl (by (try simp only [List.map_toArray, List.map_cons, List.map_nil]); first | done | rfl) ?_; (with_reducible refine (inkhornlaw11_great.calls K A c l q0 true _ HR.out HC.out HG.out).mono ?_); rintro e w2 ⟨rfl, hd⟩; refine ⟨_, rfl, ?_⟩; have hb := hd.below; have q_HW := Aside0.mk (below_step HW.out hb); clear HW; have HW := q_HW; clear q_HW; have q_HQ := Aside0.mk (blk_below HQ.out hb); clear HQ; have HQ := q_HQ; clear q_HQ; have q_HA := Aside0.mk (blk_below HA.out hb); clear HA; have HA := q_HA; clear q_HA; have q_HR := Aside0.mk (Kd.C_below HR.out hb); clear HR; have HR := q_HR; clear q_HR; clear cq0; have cq0 : w2.cell? ⟨w.heap.size, 0, none⟩ = some (.string q0) := blk_cell HQ.out 0; clear cq1; have cq1 : w2.cell? ⟨w.heap.size, 1, none⟩ = some (.int .i64 q1) := blk_cell HQ.out 1; clear cq2; have cq2 : w2.cell? ⟨w.heap.size, 2, none⟩ = some (.int .i64 q2) := blk_cell HQ.out 2; clear ca0; have ca0 : w2.cell? ⟨w.heap.size + 1, 0, none⟩ = some (.int .i64 a0) := blk_cell HA.out 0; clear ca1; have ca1 : w2.cell? ⟨w.heap.size + 1, 1, none⟩ = some (.string a1) := blk_cell HA.out 1; clear hb hd) | ((with_reducible refine gate_callee (f := 13) rfl ?_); (try (refine gate_guard (by rfl) ?_; dsimp only)); refine goesL_ (some 36) rfl rfl Try.func13 (by kernel_rfl) rfl #[] rfl (by (try simp only [List.map_toArray, List.map_cons, List.map_nil]); first | done | rfl) ?_; (with_reducible refine (awake_calls _).mono ?_); rintro e w3 ⟨rfl, hb⟩; refine ⟨_, rfl, ?_⟩; have q_HW := Aside0.mk (below_step HW.out hb); clear HW; have HW := q_HW; clear q_HW; have q_HQ := Aside0.mk (blk_below HQ.out hb); clear HQ; have HQ := q_HQ; clear q_HQ; have q_HA := Aside0.mk (blk_below HA.out hb); clear HA; have HA := q_HA; clear q_HA; have q_HR := Aside0.mk (Kd.C_below HR.out hb); clear HR; have HR := q_HR; clear q_HR; clear cq0; have cq0 : w3.cell? ⟨w.heap.size, 0, none⟩ = some (.string q0) := blk_cell HQ.out 0; clear cq1; have cq1 : w3.cell? ⟨w.heap.size, 1, none⟩ = some (.int .i64 q1) := blk_cell HQ.out 1; clear cq2; have cq2 : w3.cell? ⟨w.heap.size, 2, none⟩ = some (.int .i64 q2) := blk_cell HQ.out 2; clear ca0; have ca0 : w3.cell? ⟨w.heap.size + 1, 0, none⟩ = some (.int .i64 a0) := blk_cell HA.out 0; clear ca1; have ca1 : w3.cell? ⟨w.heap.size + 1, 1, none⟩ = some (.string a1) := blk_cell HA.out 1; clear hb))
    go_ret
    exact ⟨rfl, HW.out⟩
  | false =>
    obtain ⟨hsm, hqs⟩ : Small l ∧ q0.size ≤ 100 := by simpa using hG.symm
    obtain ⟨KG, hKG⟩ := great_small l q0
    obtain ⟨M, hM⟩ := may_eq q0 (by omega) q1 q2
    have HM := Aside0.mk hM
    clear hM
    cases M with
    | false =>
      have HG := Aside0.mk (show inkhornlaw11_great.f KG l q0 = some false from (hKG KG (Nat.le_refl _)).trans (congrArg some hG.symm))
      clear hKG hG hsm hqs
      go_wp2_with (first | ((with_reducible refine gate_callee (f := 12) rfl ?_); (try (refine gate_guard (by rfl) ?_; dsimp only)); refine goesL_ (some 24) rfl rfl Try.func12 (by kernel_rfl) rfl #[.slice A l.length c, .string q0] rfl (by (try simp only [List.map_toArray, List.map_cons, List.map_nil]); first | done | rfl) ?_; (with_reducible refine (inkhornlaw11_great.calls KG A c l q0 false _ HR.out HC.out HG.out).mono ?_); rintro e w2 ⟨rfl, hd⟩; refine ⟨_, rfl, ?_⟩; have hb := hd.below; have q_HW := Aside0.mk (below_step HW.out hb); clear HW; have HW := q_HW; clear q_HW; have q_HQ := Aside0.mk (blk_below HQ.out hb); clear HQ; have HQ := q_HQ; clear q_HQ; have q_HA := Aside0.mk (blk_below HA.out hb); clear HA; have HA := q_HA; clear q_HA; have q_HR := Aside0.mk (Kd.C_below HR.out hb); clear HR; have HR := q_HR; clear q_HR; clear cq0; have cq0 : w2.cell? ⟨w.heap.size, 0, none⟩ = some (.string q0) := blk_cell HQ.out 0; clear cq1; have cq1 : w2.cell? ⟨w.heap.size, 1, none⟩ = some (.int .i64 q1) := blk_cell HQ.out 1; clear cq2; have cq2 : w2.cell? ⟨w.heap.size, 2, none⟩ = some (.int .i64 q2) := blk_cell HQ.out 2; clear ca0; have ca0 : w2.cell? ⟨w.heap.size + 1, 0, none⟩ = some (.int .i64 a0) := blk_cell HA.out 0; clear ca1; have ca1 : w2.cell? ⟨w.heap.size + 1, 1, none⟩ = some (.string a1) := blk_cell HA.out 1; clear hb hd) | ((with_reducible refine gate_callee (f := 19) rfl ?_); (try (refine gate_guard (by rfl) ?_; dsimp only)); refine goesL_ (some 27) rfl rfl Try.func19 (by kernel_rfl) rfl #[.agg #[.string q0, .int .i64 q1, .int .i64 q2]] rfl (by (try simp only [List.map_toArray, List.map_cons, List.map_nil]); first | done | rfl) ?_; (with_reducible refine (rank_May.calls q0 q1 q2 false _ HM.out).mono ?_); rintro e w3 ⟨rfl, hb⟩; refine ⟨_, rfl, ?_⟩; have q_HW := Aside0.mk (below_step HW.out hb); clear HW; have HW := q_HW; clear q_HW; have q_HQ := Aside0.mk (blk_below HQ.out hb); clear HQ; have HQ := q_HQ; clear q_HQ; have q_HA := Aside0.mk (blk_below HA.out hb); clear HA; have HA := q_HA; clear q_HA; have q_HR := Aside0.mk (Kd.C_below HR.out hb); clear HR; have HR := q_HR; clear q_HR; clear cq0; have cq0 : w3.cell? ⟨w.heap.size, 0, none⟩ = some (.string q0) := blk_cell HQ.out 0; clear cq1; have cq1 : w3.cell? ⟨w.heap.size, 1, none⟩ = some (.int .i64 q1) := blk_cell HQ.out 1; clear cq2; have cq2 : w3.cell? ⟨w.heap.size, 2, none⟩ = some (.int .i64 q2) := blk_cell HQ.out 2; clear ca0; have ca0 : w3.cell? ⟨w.heap.size + 1, 0, none⟩ = some (.int .i64 a0) := blk_cell HA.out 0; clear ca1; have ca1 : w3.cell? ⟨w.heap.size + 1, 1, none⟩ = some (.string a1) := blk_cell HA.out 1; clear hb) | ((with_reducible refine gate_callee (f := 13) rfl ?_); (try (refine gate_guard (by rfl) ?_; dsimp only)); refine goesL_ (some 36) rfl rfl Try.func13 (by kernel_rfl) rfl #[] rfl (by (try simp only [List.map_toArray, List.map_cons, List.map_nil]); first | done | rfl) ?_; (with_reducible refine (awake_calls _).mono ?_); rintro e w4 ⟨rfl, hb⟩; refine ⟨_, rfl, ?_⟩; have q_HW := Aside0.mk (below_step HW.out hb); clear HW; have HW := q_HW; clear q_HW; have q_HQ := Aside0.mk (blk_below HQ.out hb); clear HQ; have HQ := q_HQ; clear q_HQ; have q_HA := Aside0.mk (blk_below HA.out hb); clear HA; have HA := q_HA; clear q_HA; have q_HR := Aside0.mk (Kd.C_below HR.out hb); clear HR; have HR := q_HR; clear q_HR; clear cq0; have cq0 : w4.cell? ⟨w.heap.size, 0, none⟩ = some (.string q0) := blk_cell HQ.out 0; clear cq1; have cq1 : w4.cell? ⟨w.heap.size, 1, none⟩ = some (.int .i64 q1) := blk_cell HQ.out 1; clear cq2; have cq2 : w4.cell? ⟨w.heap.size, 2, none⟩ = some (.int .i64 q2) := blk_cell HQ.out 2; clear ca0; have ca0 : w4.cell? ⟨w.heap.size + 1, 0, none⟩ = some (.int .i64 a0) := blk_cell HA.out 0; clear ca1; have ca1 : w4.cell? ⟨w.heap.size + 1, 1, none⟩ = some (.string a1) := blk_cell HA.out 1; clear hb))
      go_ret
      exact ⟨rfl, HW.out⟩
    | true =>
      have HG := Aside0.mk (show inkhornlaw11_great.f KG l q0 = some false from (hKG KG (Nat.le_refl _)).trans (congrArg some hG.symm))
      clear hKG hG
      by_cases ha : 100 < (a1.size : Int)
      · have ha2 : decide (100 < (a1.size : Int)) = true := decide_eq_true ha
        clear ha hsm hqs
        go_wp2_with (first | ((with_reducible refine gate_callee (f := 12) rfl ?_); (try (refine gate_guard (by rfl) ?_; dsimp only)); refine goesL_ (some 24) rfl rfl Try.func12 (by kernel_rfl) rfl #[.slice A l.length c, .string q0] rfl (by (try simp only [List.map_toArray, List.map_cons, List.map_nil]); first | done | rfl) ?_; (with_reducible refine (inkhornlaw11_great.calls KG A c l q0 false _ HR.out HC.out HG.out).mono ?_); rintro e w2 ⟨rfl, hd⟩; refine ⟨_, rfl, ?_⟩; have hb := hd.below; have q_HW := Aside0.mk (below_step HW.out hb); clear HW; have HW := q_HW; clear q_HW; have q_HQ := Aside0.mk (blk_below HQ.out hb); clear HQ; have HQ := q_HQ; clear q_HQ; have q_HA := Aside0.mk (blk_below HA.out hb); clear HA; have HA := q_HA; clear q_HA; have q_HR := Aside0.mk (Kd.C_below HR.out hb); clear HR; have HR := q_HR; clear q_HR; clear cq0; have cq0 : w2.cell? ⟨w.heap.size, 0, none⟩ = some (.string q0) := blk_cell HQ.out 0; clear cq1; have cq1 : w2.cell? ⟨w.heap.size, 1, none⟩ = some (.int .i64 q1) := blk_cell HQ.out 1; clear cq2; have cq2 : w2.cell? ⟨w.heap.size, 2, none⟩ = some (.int .i64 q2) := blk_cell HQ.out 2; clear ca0; have ca0 : w2.cell? ⟨w.heap.size + 1, 0, none⟩ = some (.int .i64 a0) := blk_cell HA.out 0; clear ca1; have ca1 : w2.cell? ⟨w.heap.size + 1, 1, none⟩ = some (.string a1) := blk_cell HA.out 1; clear hb hd) | ((with_reducible refine gate_callee (f := 19) rfl ?_); (try (refine gate_guard (by rfl) ?_; dsimp only)); refine goesL_ (some 27) rfl rfl Try.func19 (by kernel_rfl) rfl #[.agg #[.string q0, .int .i64 q1, .int .i64 q2]] rfl (by (try simp only [List.map_toArray, List.map_cons, List.map_nil]); first | done | rfl) ?_; (with_reducible refine (rank_May.calls q0 q1 q2 true _ HM.out).mono ?_); rintro e w3 ⟨rfl, hb⟩; refine ⟨_, rfl, ?_⟩; have q_HW := Aside0.mk (below_step HW.out hb); clear HW; have HW := q_HW; clear q_HW; have q_HQ := Aside0.mk (blk_below HQ.out hb); clear HQ; have HQ := q_HQ; clear q_HQ; have q_HA := Aside0.mk (blk_below HA.out hb); clear HA; have HA := q_HA; clear q_HA; have q_HR := Aside0.mk (Kd.C_below HR.out hb); clear HR; have HR := q_HR; clear q_HR; clear cq0; have cq0 : w3.cell? ⟨w.heap.size, 0, none⟩ = some (.string q0) := blk_cell HQ.out 0; clear cq1; have cq1 : w3.cell? ⟨w.heap.size, 1, none⟩ = some (.int .i64 q1) := blk_cell HQ.out 1; clear cq2; have cq2 : w3.cell? ⟨w.heap.size, 2, none⟩ = some (.int .i64 q2) := blk_cell HQ.out 2; clear ca0; have ca0 : w3.cell? ⟨w.heap.size + 1, 0, none⟩ = some (.int .i64 a0) := blk_cell HA.out 0; clear ca1; have ca1 : w3.cell? ⟨w.heap.size + 1, 1, none⟩ = some (.string a1) := blk_cell HA.out 1; clear hb) | ((with_reducible refine gate_callee (f := 13) rfl ?_); (try (refine gate_guard (by rfl) ?_; dsimp only)); refine goesL_ (some 36) rfl rfl Try.func13 (by kernel_rfl) rfl #[] rfl (by (try simp only [List.map_toArray, List.map_cons, List.map_nil]); first | done | rfl) ?_; (with_reducible refine (awake_calls _).mono ?_); rintro e w4 ⟨rfl, hb⟩; refine ⟨_, rfl, ?_⟩; have q_HW := Aside0.mk (below_step HW.out hb); clear HW; have HW := q_HW; clear q_HW; have q_HQ := Aside0.mk (blk_below HQ.out hb); clear HQ; have HQ := q_HQ; clear q_HQ; have q_HA := Aside0.mk (blk_below HA.out hb); clear HA; have HA := q_HA; clear q_HA; have q_HR := Aside0.mk (Kd.C_below HR.out hb); clear HR; have HR := q_HR; clear q_HR; clear cq0; have cq0 : w4.cell? ⟨w.heap.size, 0, none⟩ = some (.string q0) := blk_cell HQ.out 0; clear cq1; have cq1 : w4.cell? ⟨w.heap.size, 1, none⟩ = some (.int .i64 q1) := blk_cell HQ.out 1; clear cq2; have cq2 : w4.cell? ⟨w.heap.size, 2, none⟩ = some (.int .i64 q2) := blk_cell HQ.out 2; clear ca0; have ca0 : w4.cell? ⟨w.heap.size + 1, 0, none⟩ = some (.int .i64 a0) := blk_cell HA.out 0; clear ca1; have ca1 : w4.cell? ⟨w.heap.size + 1, 1, none⟩ = some (.string a1) := blk_cell HA.out 1; clear hb))
        go_ret
        exact ⟨rfl, HW.out⟩
      · have ha2 : decide (100 < (a1.size : Int)) = false := decide_eq_false ha
        clear ha
        obtain ⟨K, e, ns, hB, hN⟩ := split_facts hsm q0 hqs q1 first ⟨a0, a1⟩ rm rn hrm hrn
        have HB := Aside0.mk hB
        clear hB hsm hqs
        by_cases he : e = 0
        case neg =>
          have he2 : (e != 0) = true := by simpa using he
          have HE := Aside0.mk he
          clear he hN
          go_wp2_with (first | ((with_reducible refine gate_callee (f := 12) rfl ?_); (try (refine gate_guard (by rfl) ?_; dsimp only)); refine goesL_ (some 24) rfl rfl Try.func12 (by kernel_rfl) rfl #[.slice A l.length c, .string q0] rfl (by (try simp only [List.map_toArray, List.map_cons, List.map_nil]); first | done | rfl) ?_; (with_reducible refine (inkhornlaw11_great.calls KG A c l q0 false _ HR.out HC.out HG.out).mono ?_); rintro e w2 ⟨rfl, hd⟩; refine ⟨_, rfl, ?_⟩; have hb := hd.below; have q_HW := Aside0.mk (below_step HW.out hb); clear HW; have HW := q_HW; clear q_HW; have q_HQ := Aside0.mk (blk_below HQ.out hb); clear HQ; have HQ := q_HQ; clear q_HQ; have q_HA := Aside0.mk (blk_below HA.out hb); clear HA; have HA := q_HA; clear q_HA; have q_HR := Aside0.mk (Kd.C_below HR.out hb); clear HR; have HR := q_HR; clear q_HR; clear cq0; have cq0 : w2.cell? ⟨w.heap.size, 0, none⟩ = some (.string q0) := blk_cell HQ.out 0; clear cq1; have cq1 : w2.cell? ⟨w.heap.size, 1, none⟩ = some (.int .i64 q1) := blk_cell HQ.out 1; clear cq2; have cq2 : w2.cell? ⟨w.heap.size, 2, none⟩ = some (.int .i64 q2) := blk_cell HQ.out 2; clear ca0; have ca0 : w2.cell? ⟨w.heap.size + 1, 0, none⟩ = some (.int .i64 a0) := blk_cell HA.out 0; clear ca1; have ca1 : w2.cell? ⟨w.heap.size + 1, 1, none⟩ = some (.string a1) := blk_cell HA.out 1; clear hb hd) | ((with_reducible refine gate_callee (f := 19) rfl ?_); (try (refine gate_guard (by rfl) ?_; dsimp only)); refine goesL_ (some 27) rfl rfl Try.func19 (by kernel_rfl) rfl #[.agg #[.string q0, .int .i64 q1, .int .i64 q2]] rfl (by (try simp only [List.map_toArray, List.map_cons, List.map_nil]); first | done | rfl) ?_; (with_reducible refine (rank_May.calls q0 q1 q2 true _ HM.out).mono ?_); rintro e w3 ⟨rfl, hb⟩; refine ⟨_, rfl, ?_⟩; have q_HW := Aside0.mk (below_step HW.out hb); clear HW; have HW := q_HW; clear q_HW; have q_HQ := Aside0.mk (blk_below HQ.out hb); clear HQ; have HQ := q_HQ; clear q_HQ; have q_HA := Aside0.mk (blk_below HA.out hb); clear HA; have HA := q_HA; clear q_HA; have q_HR := Aside0.mk (Kd.C_below HR.out hb); clear HR; have HR := q_HR; clear q_HR; clear cq0; have cq0 : w3.cell? ⟨w.heap.size, 0, none⟩ = some (.string q0) := blk_cell HQ.out 0; clear cq1; have cq1 : w3.cell? ⟨w.heap.size, 1, none⟩ = some (.int .i64 q1) := blk_cell HQ.out 1; clear cq2; have cq2 : w3.cell? ⟨w.heap.size, 2, none⟩ = some (.int .i64 q2) := blk_cell HQ.out 2; clear ca0; have ca0 : w3.cell? ⟨w.heap.size + 1, 0, none⟩ = some (.int .i64 a0) := blk_cell HA.out 0; clear ca1; have ca1 : w3.cell? ⟨w.heap.size + 1, 1, none⟩ = some (.string a1) := blk_cell HA.out 1; clear hb) | ((with_reducible refine gate_callee (f := 14) rfl ?_); (try (refine gate_guard (by rfl) ?_; dsimp only)); refine goesL_ (some 39) rfl rfl Try.func14 (by kernel_rfl) rfl #[.slice A l.length c] rfl (by (try simp only [List.map_toArray, List.map_cons, List.map_nil]); first | done | rfl) ?_; (with_reducible refine (graph_Build.not K A c l e ns _ HR.out HC.out HB.out HE.out).mono ?_); rintro e w4 ⟨rfl, hb⟩; refine ⟨_, rfl, ?_⟩; have q_HW := Aside0.mk (below_step HW.out hb); clear HW; have HW := q_HW; clear q_HW; have q_HQ := Aside0.mk (blk_below HQ.out hb); clear HQ; have HQ := q_HQ; clear q_HQ; have q_HA := Aside0.mk (blk_below HA.out hb); clear HA; have HA := q_HA; clear q_HA; have q_HR := Aside0.mk (Kd.C_below HR.out hb); clear HR; have HR := q_HR; clear q_HR; clear cq0; have cq0 : w4.cell? ⟨w.heap.size, 0, none⟩ = some (.string q0) := blk_cell HQ.out 0; clear cq1; have cq1 : w4.cell? ⟨w.heap.size, 1, none⟩ = some (.int .i64 q1) := blk_cell HQ.out 1; clear cq2; have cq2 : w4.cell? ⟨w.heap.size, 2, none⟩ = some (.int .i64 q2) := blk_cell HQ.out 2; clear ca0; have ca0 : w4.cell? ⟨w.heap.size + 1, 0, none⟩ = some (.int .i64 a0) := blk_cell HA.out 0; clear ca1; have ca1 : w4.cell? ⟨w.heap.size + 1, 1, none⟩ = some (.string a1) := blk_cell HA.out 1; clear hb) | ((with_reducible refine gate_callee (f := 13) rfl ?_); (try (refine gate_guard (by rfl) ?_; dsimp only)); refine goesL_ (some 51) rfl rfl Try.func13 (by kernel_rfl) rfl #[] rfl (by (try simp only [List.map_toArray, List.map_cons, List.map_nil]); first | done | rfl) ?_; (with_reducible refine (awake_calls _).mono ?_); rintro e w5 ⟨rfl, hb⟩; refine ⟨_, rfl, ?_⟩; have q_HW := Aside0.mk (below_step HW.out hb); clear HW; have HW := q_HW; clear q_HW; have q_HQ := Aside0.mk (blk_below HQ.out hb); clear HQ; have HQ := q_HQ; clear q_HQ; have q_HA := Aside0.mk (blk_below HA.out hb); clear HA; have HA := q_HA; clear q_HA; have q_HR := Aside0.mk (Kd.C_below HR.out hb); clear HR; have HR := q_HR; clear q_HR; clear cq0; have cq0 : w5.cell? ⟨w.heap.size, 0, none⟩ = some (.string q0) := blk_cell HQ.out 0; clear cq1; have cq1 : w5.cell? ⟨w.heap.size, 1, none⟩ = some (.int .i64 q1) := blk_cell HQ.out 1; clear cq2; have cq2 : w5.cell? ⟨w.heap.size, 2, none⟩ = some (.int .i64 q2) := blk_cell HQ.out 2; clear ca0; have ca0 : w5.cell? ⟨w.heap.size + 1, 0, none⟩ = some (.int .i64 a0) := blk_cell HA.out 0; clear ca1; have ca1 : w5.cell? ⟨w.heap.size + 1, 1, none⟩ = some (.string a1) := blk_cell HA.out 1; clear hb))
          go_ret
          exact ⟨rfl, HW.out⟩
        subst he
        obtain ⟨x, both, p, r, hx, hbo, hbl, hs, hp1, hp2⟩ := hN rfl
        have HX := Aside0.mk hx
        have HBO := Aside0.mk hbo
        have HBL := Aside0.mk hbl
        have HS := Aside0.mk hs
        clear hN hx hbo hbl hs
        cases p with
        | true =>
          obtain ⟨rfl, rfl⟩ := hp1 rfl
          clear hp1 hp2
          go_wp2_with (first | ((with_reducible refine gate_callee (f := 12) rfl ?_); (try (refine gate_guard (by rfl) ?_; dsimp only)); refine goesL_ (some 24) rfl rfl Try.func12 (by kernel_rfl) rfl #[.slice A l.length c, .string q0] rfl (by (try simp only [List.map_toArray, List.map_cons, List.map_nil]); first | done | rfl) ?_; (with_reducible refine (inkhornlaw11_great.calls KG A c l q0 false _ HR.out HC.out HG.out).mono ?_); rintro e w2 ⟨rfl, hd⟩; refine ⟨_, rfl, ?_⟩; have hb := hd.below; have q_HW := Aside0.mk (below_step HW.out hb); clear HW; have HW := q_HW; clear q_HW; have q_HQ := Aside0.mk (blk_below HQ.out hb); clear HQ; have HQ := q_HQ; clear q_HQ; have q_HA := Aside0.mk (blk_below HA.out hb); clear HA; have HA := q_HA; clear q_HA; have q_HR := Aside0.mk (Kd.C_below HR.out hb); clear HR; have HR := q_HR; clear q_HR; clear cq0; have cq0 : w2.cell? ⟨w.heap.size, 0, none⟩ = some (.string q0) := blk_cell HQ.out 0; clear cq1; have cq1 : w2.cell? ⟨w.heap.size, 1, none⟩ = some (.int .i64 q1) := blk_cell HQ.out 1; clear cq2; have cq2 : w2.cell? ⟨w.heap.size, 2, none⟩ = some (.int .i64 q2) := blk_cell HQ.out 2; clear ca0; have ca0 : w2.cell? ⟨w.heap.size + 1, 0, none⟩ = some (.int .i64 a0) := blk_cell HA.out 0; clear ca1; have ca1 : w2.cell? ⟨w.heap.size + 1, 1, none⟩ = some (.string a1) := blk_cell HA.out 1; clear hb hd) | ((with_reducible refine gate_callee (f := 19) rfl ?_); (try (refine gate_guard (by rfl) ?_; dsimp only)); refine goesL_ (some 27) rfl rfl Try.func19 (by kernel_rfl) rfl #[.agg #[.string q0, .int .i64 q1, .int .i64 q2]] rfl (by (try simp only [List.map_toArray, List.map_cons, List.map_nil]); first | done | rfl) ?_; (with_reducible refine (rank_May.calls q0 q1 q2 true _ HM.out).mono ?_); rintro e w3 ⟨rfl, hb⟩; refine ⟨_, rfl, ?_⟩; have q_HW := Aside0.mk (below_step HW.out hb); clear HW; have HW := q_HW; clear q_HW; have q_HQ := Aside0.mk (blk_below HQ.out hb); clear HQ; have HQ := q_HQ; clear q_HQ; have q_HA := Aside0.mk (blk_below HA.out hb); clear HA; have HA := q_HA; clear q_HA; have q_HR := Aside0.mk (Kd.C_below HR.out hb); clear HR; have HR := q_HR; clear q_HR; clear cq0; have cq0 : w3.cell? ⟨w.heap.size, 0, none⟩ = some (.string q0) := blk_cell HQ.out 0; clear cq1; have cq1 : w3.cell? ⟨w.heap.size, 1, none⟩ = some (.int .i64 q1) := blk_cell HQ.out 1; clear cq2; have cq2 : w3.cell? ⟨w.heap.size, 2, none⟩ = some (.int .i64 q2) := blk_cell HQ.out 2; clear ca0; have ca0 : w3.cell? ⟨w.heap.size + 1, 0, none⟩ = some (.int .i64 a0) := blk_cell HA.out 0; clear ca1; have ca1 : w3.cell? ⟨w.heap.size + 1, 1, none⟩ = some (.string a1) := blk_cell HA.out 1; clear hb) | ((with_reducible refine gate_callee (f := 14) rfl ?_); (try (refine gate_guard (by rfl) ?_; dsimp only)); refine goesL_ (some 39) rfl rfl Try.func14 (by kernel_rfl) rfl #[.slice A l.length c] rfl (by (try simp only [List.map_toArray, List.map_cons, List.map_nil]); first | done | rfl) ?_; (with_reducible refine (graph_Build.calls K A c l ns _ HR.out HC.out HB.out).mono ?_); rintro e w4 ⟨g, rfl, _, hgr, hb⟩; refine ⟨_, rfl, ?_⟩; have q_HW := Aside0.mk (below_step HW.out hb); clear HW; have HW := q_HW; clear q_HW; have q_HQ := Aside0.mk (blk_below HQ.out hb); clear HQ; have HQ := q_HQ; clear q_HQ; have q_HA := Aside0.mk (blk_below HA.out hb); clear HA; have HA := q_HA; clear q_HA; clear cq0; have cq0 : w4.cell? ⟨w.heap.size, 0, none⟩ = some (.string q0) := blk_cell HQ.out 0; clear cq1; have cq1 : w4.cell? ⟨w.heap.size, 1, none⟩ = some (.int .i64 q1) := blk_cell HQ.out 1; clear cq2; have cq2 : w4.cell? ⟨w.heap.size, 2, none⟩ = some (.int .i64 q2) := blk_cell HQ.out 2; clear ca0; have ca0 : w4.cell? ⟨w.heap.size + 1, 0, none⟩ = some (.int .i64 a0) := blk_cell HA.out 0; clear ca1; have ca1 : w4.cell? ⟨w.heap.size + 1, 1, none⟩ = some (.string a1) := blk_cell HA.out 1; have HGR := Aside0.mk (hgr); clear HR; clear hgr; clear hb) | ((with_reducible refine gate_callee (f := 20) rfl ?_); (try (refine gate_guard (by rfl) ?_; dsimp only)); refine goesL_ (some 54) rfl rfl Try.func20 (by kernel_rfl) rfl #[.int .i64 m, .int .i64 6] rfl (by (try simp only [List.map_toArray, List.map_cons, List.map_nil]); first | done | rfl) ?_; (with_reducible refine (inkhornlaw0_Low.calls m 6 (rm : Int) _ HLM.out).mono ?_); rintro e w5 ⟨rfl, hd⟩; refine ⟨_, rfl, ?_⟩; have hb := hd.below; have q_HW := Aside0.mk (below_step HW.out hb); clear HW; have HW := q_HW; clear q_HW; have q_HQ := Aside0.mk (blk_below HQ.out hb); clear HQ; have HQ := q_HQ; clear q_HQ; have q_HA := Aside0.mk (blk_below HA.out hb); clear HA; have HA := q_HA; clear q_HA; have q_HGR := Aside0.mk (HGR.out.below hb); clear HGR; have HGR := q_HGR; clear q_HGR; clear cq0; have cq0 : w5.cell? ⟨w.heap.size, 0, none⟩ = some (.string q0) := blk_cell HQ.out 0; clear cq1; have cq1 : w5.cell? ⟨w.heap.size, 1, none⟩ = some (.int .i64 q1) := blk_cell HQ.out 1; clear cq2; have cq2 : w5.cell? ⟨w.heap.size, 2, none⟩ = some (.int .i64 q2) := blk_cell HQ.out 2; clear ca0; have ca0 : w5.cell? ⟨w.heap.size + 1, 0, none⟩ = some (.int .i64 a0) := blk_cell HA.out 0; clear ca1; have ca1 : w5.cell? ⟨w.heap.size + 1, 1, none⟩ = some (.string a1) := blk_cell HA.out 1; clear hb hd) | ((with_reducible refine gate_callee (f := 20) rfl ?_); (try (refine gate_guard (by rfl) ?_; dsimp only)); refine goesL_ (some 57) rfl rfl Try.func20 (by kernel_rfl) rfl #[.int .i64 n, .int .i64 6] rfl (by (try simp only [List.map_toArray, List.map_cons, List.map_nil]); first | done | rfl) ?_; (with_reducible refine (inkhornlaw0_Low.calls n 6 (rn : Int) _ HLN.out).mono ?_); rintro e w6 ⟨rfl, hd⟩; refine ⟨_, rfl, ?_⟩; have hb := hd.below; have q_HW := Aside0.mk (below_step HW.out hb); clear HW; have HW := q_HW; clear q_HW; have q_HQ := Aside0.mk (blk_below HQ.out hb); clear HQ; have HQ := q_HQ; clear q_HQ; have q_HA := Aside0.mk (blk_below HA.out hb); clear HA; have HA := q_HA; clear q_HA; have q_HGR := Aside0.mk (HGR.out.below hb); clear HGR; have HGR := q_HGR; clear q_HGR; clear cq0; have cq0 : w6.cell? ⟨w.heap.size, 0, none⟩ = some (.string q0) := blk_cell HQ.out 0; clear cq1; have cq1 : w6.cell? ⟨w.heap.size, 1, none⟩ = some (.int .i64 q1) := blk_cell HQ.out 1; clear cq2; have cq2 : w6.cell? ⟨w.heap.size, 2, none⟩ = some (.int .i64 q2) := blk_cell HQ.out 2; clear ca0; have ca0 : w6.cell? ⟨w.heap.size + 1, 0, none⟩ = some (.int .i64 a0) := blk_cell HA.out 0; clear ca1; have ca1 : w6.cell? ⟨w.heap.size + 1, 1, none⟩ = some (.string a1) := blk_cell HA.out 1; clear hb hd) | ((with_reducible refine gate_callee (f := 15) rfl ?_); (try (refine gate_guard (by rfl) ?_; dsimp only)); refine goesL_ (some 68) rfl rfl Try.func15 (by kernel_rfl) rfl #[.pointer (some ⟨g, 0, none⟩), .string q0, .int .i64 q1, .bool first, .agg #[.int .i64 a0, .string a1], .int .i64 (1 + (rm : Int))] rfl (by (try simp only [List.map_toArray, List.map_cons, List.map_nil]); first | done | rfl) ?_; (with_reducible refine (walk_Next.calls K g ns q0 q1 first ⟨a0, a1⟩ (1 + (rm : Int)) x true _ HGR.out HX.out).mono ?_); rintro e w7 ⟨v7, rfl, ho, hb⟩; refine ⟨_, rfl, ?_⟩; have HWB := Aside0.mk HW.out.size; have q_HW := Aside0.mk (below_step HW.out hb); clear HW; have HW := q_HW; clear q_HW; have q_HQ := Aside0.mk (blk_below HQ.out hb); clear HQ; have HQ := q_HQ; clear q_HQ; have q_HA := Aside0.mk (blk_below HA.out hb); clear HA; have HA := q_HA; clear q_HA; have q_HGR := Aside0.mk (HGR.out.below hb); clear HGR; have HGR := q_HGR; clear q_HGR; clear cq0; have cq0 : w7.cell? ⟨w.heap.size, 0, none⟩ = some (.string q0) := blk_cell HQ.out 0; clear cq1; have cq1 : w7.cell? ⟨w.heap.size, 1, none⟩ = some (.int .i64 q1) := blk_cell HQ.out 1; clear cq2; have cq2 : w7.cell? ⟨w.heap.size, 2, none⟩ = some (.int .i64 q2) := blk_cell HQ.out 2; clear ca0; have ca0 : w7.cell? ⟨w.heap.size + 1, 0, none⟩ = some (.int .i64 a0) := blk_cell HA.out 0; clear ca1; have ca1 : w7.cell? ⟨w.heap.size + 1, 1, none⟩ = some (.string a1) := blk_cell HA.out 1; have HO := Aside0.mk (ho); have HZ6 := Aside0.mk (hb); obtain ⟨A7, c7, e7⟩ := Kd.R_slice ho; subst e7; clear ho; clear hb) | ((with_reducible refine gate_callee (f := 15) rfl ?_); (try (refine gate_guard (by rfl) ?_; dsimp only)); refine goesL_ (some 82) rfl rfl Try.func15 (by kernel_rfl) rfl #[.pointer (some ⟨g, 0, none⟩), .string q0, .int .i64 q1, .bool first, .agg #[.int .i64 a0, .string a1], .int .i64 (1 + (rm : Int) + (1 + (rn : Int)))] rfl (by (try simp only [List.map_toArray, List.map_cons, List.map_nil]); first | done | rfl) ?_; (with_reducible refine (walk_Next.calls K g ns q0 q1 first ⟨a0, a1⟩ (1 + (rm : Int) + (1 + (rn : Int))) x true _ HGR.out HBO.out).mono ?_); rintro e w8 ⟨v8, rfl, ho, hb⟩; refine ⟨_, rfl, ?_⟩; replace ho := Kd.R_newR ho HO.out; have q_HW := Aside0.mk (below_step HW.out hb); clear HW; have HW := q_HW; clear q_HW; have q_HQ := Aside0.mk (blk_below HQ.out hb); clear HQ; have HQ := q_HQ; clear q_HQ; have q_HA := Aside0.mk (blk_below HA.out hb); clear HA; have HA := q_HA; clear q_HA; have q_HGR := Aside0.mk (HGR.out.below hb); clear HGR; have HGR := q_HGR; clear q_HGR; have q_HO := Aside0.mk (Kd.R_below HO.out hb); clear HO; have HO := q_HO; clear q_HO; have q_HZ6 := Aside0.mk (below_step HZ6.out hb); clear HZ6; have HZ6 := q_HZ6; clear q_HZ6; clear cq0; have cq0 : w8.cell? ⟨w.heap.size, 0, none⟩ = some (.string q0) := blk_cell HQ.out 0; clear cq1; have cq1 : w8.cell? ⟨w.heap.size, 1, none⟩ = some (.int .i64 q1) := blk_cell HQ.out 1; clear cq2; have cq2 : w8.cell? ⟨w.heap.size, 2, none⟩ = some (.int .i64 q2) := blk_cell HQ.out 2; clear ca0; have ca0 : w8.cell? ⟨w.heap.size + 1, 0, none⟩ = some (.int .i64 a0) := blk_cell HA.out 0; clear ca1; have ca1 : w8.cell? ⟨w.heap.size + 1, 1, none⟩ = some (.string a1) := blk_cell HA.out 1; have HP := Aside0.mk (ho); obtain ⟨A8, c8, e8⟩ := Kd.R_slice ho; subst e8; clear ho; clear hb) | ((with_reducible refine gate_callee (f := 17) rfl ?_); (try (refine gate_guard (by rfl) ?_; dsimp only)); refine goesL_ (some 90) rfl rfl Try.func17 (by kernel_rfl) rfl #[.slice A7 x.length c7, .slice A8 x.length c8] rfl (by (try simp only [List.map_toArray, List.map_cons, List.map_nil]); first | done | rfl) ?_; (with_reducible refine (inkhornlaw0_SameItems.calls K A7 c7 x A8 c8 x true _ (Kd.R_reads' HO.out).2.2 (Kd.R_reads' HO.out).2.1 (Kd.R_reads' HP.out).2.2 (Kd.R_reads' HP.out).2.1 HS.out).mono ?_); rintro e w9 ⟨rfl, hd⟩; refine ⟨_, rfl, ?_⟩; have hb := hd.below; have q_HW := Aside0.mk (below_step HW.out hb); clear HW; have HW := q_HW; clear q_HW; have q_HQ := Aside0.mk (blk_below HQ.out hb); clear HQ; have HQ := q_HQ; clear q_HQ; have q_HA := Aside0.mk (blk_below HA.out hb); clear HA; have HA := q_HA; clear q_HA; have q_HGR := Aside0.mk (HGR.out.below hb); clear HGR; have HGR := q_HGR; clear q_HGR; have q_HO := Aside0.mk (Kd.R_below HO.out hb); clear HO; have HO := q_HO; clear q_HO; have q_HZ6 := Aside0.mk (below_step HZ6.out hb); clear HZ6; have HZ6 := q_HZ6; clear q_HZ6; have q_HP := Aside0.mk (Kd.R_below HP.out hb); clear HP; have HP := q_HP; clear q_HP; clear cq0; have cq0 : w9.cell? ⟨w.heap.size, 0, none⟩ = some (.string q0) := blk_cell HQ.out 0; clear cq1; have cq1 : w9.cell? ⟨w.heap.size, 1, none⟩ = some (.int .i64 q1) := blk_cell HQ.out 1; clear cq2; have cq2 : w9.cell? ⟨w.heap.size, 2, none⟩ = some (.int .i64 q2) := blk_cell HQ.out 2; clear ca0; have ca0 : w9.cell? ⟨w.heap.size + 1, 0, none⟩ = some (.int .i64 a0) := blk_cell HA.out 0; clear ca1; have ca1 : w9.cell? ⟨w.heap.size + 1, 1, none⟩ = some (.string a1) := blk_cell HA.out 1; clear hb hd) | ((with_reducible refine gate_callee (f := 13) rfl ?_); (try (refine gate_guard (by rfl) ?_; dsimp only)); refine goesL_ (some 93) rfl rfl Try.func13 (by kernel_rfl) rfl #[] rfl (by (try simp only [List.map_toArray, List.map_cons, List.map_nil]); first | done | rfl) ?_; (with_reducible refine (awake_calls _).mono ?_); rintro e w10 ⟨rfl, hb⟩; refine ⟨_, rfl, ?_⟩; have q_HW := Aside0.mk (below_step HW.out hb); clear HW; have HW := q_HW; clear q_HW; have q_HQ := Aside0.mk (blk_below HQ.out hb); clear HQ; have HQ := q_HQ; clear q_HQ; have q_HA := Aside0.mk (blk_below HA.out hb); clear HA; have HA := q_HA; clear q_HA; have q_HGR := Aside0.mk (HGR.out.below hb); clear HGR; have HGR := q_HGR; clear q_HGR; have q_HO := Aside0.mk (Kd.R_below HO.out hb); clear HO; have HO := q_HO; clear q_HO; have q_HZ6 := Aside0.mk (below_step HZ6.out hb); clear HZ6; have HZ6 := q_HZ6; clear q_HZ6; have q_HP := Aside0.mk (Kd.R_below HP.out hb); clear HP; have HP := q_HP; clear q_HP; clear cq0; have cq0 : w10.cell? ⟨w.heap.size, 0, none⟩ = some (.string q0) := blk_cell HQ.out 0; clear cq1; have cq1 : w10.cell? ⟨w.heap.size, 1, none⟩ = some (.int .i64 q1) := blk_cell HQ.out 1; clear cq2; have cq2 : w10.cell? ⟨w.heap.size, 2, none⟩ = some (.int .i64 q2) := blk_cell HQ.out 2; clear ca0; have ca0 : w10.cell? ⟨w.heap.size + 1, 0, none⟩ = some (.int .i64 a0) := blk_cell HA.out 0; clear ca1; have ca1 : w10.cell? ⟨w.heap.size + 1, 1, none⟩ = some (.string a1) := blk_cell HA.out 1; clear hb))
          go_ret
          exact ⟨rfl, HW.out⟩
        | false =>
          obtain ⟨hxl, z, y, hz, hy, hxy⟩ := hp2 rfl
          have HXL := Aside0.mk hxl
          have HZ := Aside0.mk hz
          have HY := Aside0.mk hy
          have HXY := Aside0.mk hxy
          have hxn : ((x.length : Int) == 1 + (rm : Int)) = true := by simp; omega
          clear hp1 hp2 hxl hz hy hxy
          go_upto_region 13 with (first | ((with_reducible refine gate_callee (f := 12) rfl ?_); (try (refine gate_guard (by rfl) ?_; dsimp only)); refine goesL_ (some 24) rfl rfl Try.func12 (by kernel_rfl) rfl #[.slice A l.length c, .string q0] rfl (by (try simp only [List.map_toArray, List.map_cons, List.map_nil]); first | done | rfl) ?_; (with_reducible refine (inkhornlaw11_great.calls KG A c l q0 false _ HR.out HC.out HG.out).mono ?_); rintro e w2 ⟨rfl, hd⟩; refine ⟨_, rfl, ?_⟩; have hb := hd.below; have q_HW := Aside0.mk (below_step HW.out hb); clear HW; have HW := q_HW; clear q_HW; have q_HQ := Aside0.mk (blk_below HQ.out hb); clear HQ; have HQ := q_HQ; clear q_HQ; have q_HA := Aside0.mk (blk_below HA.out hb); clear HA; have HA := q_HA; clear q_HA; have q_HR := Aside0.mk (Kd.C_below HR.out hb); clear HR; have HR := q_HR; clear q_HR; clear cq0; have cq0 : w2.cell? ⟨w.heap.size, 0, none⟩ = some (.string q0) := blk_cell HQ.out 0; clear cq1; have cq1 : w2.cell? ⟨w.heap.size, 1, none⟩ = some (.int .i64 q1) := blk_cell HQ.out 1; clear cq2; have cq2 : w2.cell? ⟨w.heap.size, 2, none⟩ = some (.int .i64 q2) := blk_cell HQ.out 2; clear ca0; have ca0 : w2.cell? ⟨w.heap.size + 1, 0, none⟩ = some (.int .i64 a0) := blk_cell HA.out 0; clear ca1; have ca1 : w2.cell? ⟨w.heap.size + 1, 1, none⟩ = some (.string a1) := blk_cell HA.out 1; clear hb hd) | ((with_reducible refine gate_callee (f := 19) rfl ?_); (try (refine gate_guard (by rfl) ?_; dsimp only)); refine goesL_ (some 27) rfl rfl Try.func19 (by kernel_rfl) rfl #[.agg #[.string q0, .int .i64 q1, .int .i64 q2]] rfl (by (try simp only [List.map_toArray, List.map_cons, List.map_nil]); first | done | rfl) ?_; (with_reducible refine (rank_May.calls q0 q1 q2 true _ HM.out).mono ?_); rintro e w3 ⟨rfl, hb⟩; refine ⟨_, rfl, ?_⟩; have q_HW := Aside0.mk (below_step HW.out hb); clear HW; have HW := q_HW; clear q_HW; have q_HQ := Aside0.mk (blk_below HQ.out hb); clear HQ; have HQ := q_HQ; clear q_HQ; have q_HA := Aside0.mk (blk_below HA.out hb); clear HA; have HA := q_HA; clear q_HA; have q_HR := Aside0.mk (Kd.C_below HR.out hb); clear HR; have HR := q_HR; clear q_HR; clear cq0; have cq0 : w3.cell? ⟨w.heap.size, 0, none⟩ = some (.string q0) := blk_cell HQ.out 0; clear cq1; have cq1 : w3.cell? ⟨w.heap.size, 1, none⟩ = some (.int .i64 q1) := blk_cell HQ.out 1; clear cq2; have cq2 : w3.cell? ⟨w.heap.size, 2, none⟩ = some (.int .i64 q2) := blk_cell HQ.out 2; clear ca0; have ca0 : w3.cell? ⟨w.heap.size + 1, 0, none⟩ = some (.int .i64 a0) := blk_cell HA.out 0; clear ca1; have ca1 : w3.cell? ⟨w.heap.size + 1, 1, none⟩ = some (.string a1) := blk_cell HA.out 1; clear hb) | ((with_reducible refine gate_callee (f := 14) rfl ?_); (try (refine gate_guard (by rfl) ?_; dsimp only)); refine goesL_ (some 39) rfl rfl Try.func14 (by kernel_rfl) rfl #[.slice A l.length c] rfl (by (try simp only [List.map_toArray, List.map_cons, List.map_nil]); first | done | rfl) ?_; (with_reducible refine (graph_Build.calls K A c l ns _ HR.out HC.out HB.out).mono ?_); rintro e w4 ⟨g, rfl, _, hgr, hb⟩; refine ⟨_, rfl, ?_⟩; have q_HW := Aside0.mk (below_step HW.out hb); clear HW; have HW := q_HW; clear q_HW; have q_HQ := Aside0.mk (blk_below HQ.out hb); clear HQ; have HQ := q_HQ; clear q_HQ; have q_HA := Aside0.mk (blk_below HA.out hb); clear HA; have HA := q_HA; clear q_HA; clear cq0; have cq0 : w4.cell? ⟨w.heap.size, 0, none⟩ = some (.string q0) := blk_cell HQ.out 0; clear cq1; have cq1 : w4.cell? ⟨w.heap.size, 1, none⟩ = some (.int .i64 q1) := blk_cell HQ.out 1; clear cq2; have cq2 : w4.cell? ⟨w.heap.size, 2, none⟩ = some (.int .i64 q2) := blk_cell HQ.out 2; clear ca0; have ca0 : w4.cell? ⟨w.heap.size + 1, 0, none⟩ = some (.int .i64 a0) := blk_cell HA.out 0; clear ca1; have ca1 : w4.cell? ⟨w.heap.size + 1, 1, none⟩ = some (.string a1) := blk_cell HA.out 1; have HGR := Aside0.mk (hgr); clear HR; clear hgr; clear hb) | ((with_reducible refine gate_callee (f := 20) rfl ?_); (try (refine gate_guard (by rfl) ?_; dsimp only)); refine goesL_ (some 54) rfl rfl Try.func20 (by kernel_rfl) rfl #[.int .i64 m, .int .i64 6] rfl (by (try simp only [List.map_toArray, List.map_cons, List.map_nil]); first | done | rfl) ?_; (with_reducible refine (inkhornlaw0_Low.calls m 6 (rm : Int) _ HLM.out).mono ?_); rintro e w5 ⟨rfl, hd⟩; refine ⟨_, rfl, ?_⟩; have hb := hd.below; have q_HW := Aside0.mk (below_step HW.out hb); clear HW; have HW := q_HW; clear q_HW; have q_HQ := Aside0.mk (blk_below HQ.out hb); clear HQ; have HQ := q_HQ; clear q_HQ; have q_HA := Aside0.mk (blk_below HA.out hb); clear HA; have HA := q_HA; clear q_HA; have q_HGR := Aside0.mk (HGR.out.below hb); clear HGR; have HGR := q_HGR; clear q_HGR; clear cq0; have cq0 : w5.cell? ⟨w.heap.size, 0, none⟩ = some (.string q0) := blk_cell HQ.out 0; clear cq1; have cq1 : w5.cell? ⟨w.heap.size, 1, none⟩ = some (.int .i64 q1) := blk_cell HQ.out 1; clear cq2; have cq2 : w5.cell? ⟨w.heap.size, 2, none⟩ = some (.int .i64 q2) := blk_cell HQ.out 2; clear ca0; have ca0 : w5.cell? ⟨w.heap.size + 1, 0, none⟩ = some (.int .i64 a0) := blk_cell HA.out 0; clear ca1; have ca1 : w5.cell? ⟨w.heap.size + 1, 1, none⟩ = some (.string a1) := blk_cell HA.out 1; clear hb hd) | ((with_reducible refine gate_callee (f := 20) rfl ?_); (try (refine gate_guard (by rfl) ?_; dsimp only)); refine goesL_ (some 57) rfl rfl Try.func20 (by kernel_rfl) rfl #[.int .i64 n, .int .i64 6] rfl (by (try simp only [List.map_toArray, List.map_cons, List.map_nil]); first | done | rfl) ?_; (with_reducible refine (inkhornlaw0_Low.calls n 6 (rn : Int) _ HLN.out).mono ?_); rintro e w6 ⟨rfl, hd⟩; refine ⟨_, rfl, ?_⟩; have hb := hd.below; have q_HW := Aside0.mk (below_step HW.out hb); clear HW; have HW := q_HW; clear q_HW; have q_HQ := Aside0.mk (blk_below HQ.out hb); clear HQ; have HQ := q_HQ; clear q_HQ; have q_HA := Aside0.mk (blk_below HA.out hb); clear HA; have HA := q_HA; clear q_HA; have q_HGR := Aside0.mk (HGR.out.below hb); clear HGR; have HGR := q_HGR; clear q_HGR; clear cq0; have cq0 : w6.cell? ⟨w.heap.size, 0, none⟩ = some (.string q0) := blk_cell HQ.out 0; clear cq1; have cq1 : w6.cell? ⟨w.heap.size, 1, none⟩ = some (.int .i64 q1) := blk_cell HQ.out 1; clear cq2; have cq2 : w6.cell? ⟨w.heap.size, 2, none⟩ = some (.int .i64 q2) := blk_cell HQ.out 2; clear ca0; have ca0 : w6.cell? ⟨w.heap.size + 1, 0, none⟩ = some (.int .i64 a0) := blk_cell HA.out 0; clear ca1; have ca1 : w6.cell? ⟨w.heap.size + 1, 1, none⟩ = some (.string a1) := blk_cell HA.out 1; clear hb hd) | ((with_reducible refine gate_callee (f := 15) rfl ?_); (try (refine gate_guard (by rfl) ?_; dsimp only)); refine goesL_ (some 68) rfl rfl Try.func15 (by kernel_rfl) rfl #[.pointer (some ⟨g, 0, none⟩), .string q0, .int .i64 q1, .bool first, .agg #[.int .i64 a0, .string a1], .int .i64 (1 + (rm : Int))] rfl (by (try simp only [List.map_toArray, List.map_cons, List.map_nil]); first | done | rfl) ?_; (with_reducible refine (walk_Next.calls K g ns q0 q1 first ⟨a0, a1⟩ (1 + (rm : Int)) x false _ HGR.out HX.out).mono ?_); rintro e w7 ⟨v7, rfl, ho, hb⟩; refine ⟨_, rfl, ?_⟩; have HWB := Aside0.mk HW.out.size; have q_HW := Aside0.mk (below_step HW.out hb); clear HW; have HW := q_HW; clear q_HW; have q_HQ := Aside0.mk (blk_below HQ.out hb); clear HQ; have HQ := q_HQ; clear q_HQ; have q_HA := Aside0.mk (blk_below HA.out hb); clear HA; have HA := q_HA; clear q_HA; have q_HGR := Aside0.mk (HGR.out.below hb); clear HGR; have HGR := q_HGR; clear q_HGR; clear cq0; have cq0 : w7.cell? ⟨w.heap.size, 0, none⟩ = some (.string q0) := blk_cell HQ.out 0; clear cq1; have cq1 : w7.cell? ⟨w.heap.size, 1, none⟩ = some (.int .i64 q1) := blk_cell HQ.out 1; clear cq2; have cq2 : w7.cell? ⟨w.heap.size, 2, none⟩ = some (.int .i64 q2) := blk_cell HQ.out 2; clear ca0; have ca0 : w7.cell? ⟨w.heap.size + 1, 0, none⟩ = some (.int .i64 a0) := blk_cell HA.out 0; clear ca1; have ca1 : w7.cell? ⟨w.heap.size + 1, 1, none⟩ = some (.string a1) := blk_cell HA.out 1; have HO := Aside0.mk (ho); have HZ6 := Aside0.mk (hb); obtain ⟨A7, c7, e7⟩ := Kd.R_slice ho; subst e7; clear ho; clear hb) | ((with_reducible refine gate_callee (f := 15) rfl ?_); (try (refine gate_guard (by rfl) ?_; dsimp only)); refine goesL_ (some 82) rfl rfl Try.func15 (by kernel_rfl) rfl #[.pointer (some ⟨g, 0, none⟩), .string q0, .int .i64 q1, .bool first, .agg #[.int .i64 a0, .string a1], .int .i64 (1 + (rm : Int) + (1 + (rn : Int)))] rfl (by (try simp only [List.map_toArray, List.map_cons, List.map_nil]); first | done | rfl) ?_; (with_reducible refine (walk_Next.calls K g ns q0 q1 first ⟨a0, a1⟩ (1 + (rm : Int) + (1 + (rn : Int))) both r _ HGR.out HBO.out).mono ?_); rintro e w8 ⟨v8, rfl, ho, hb⟩; refine ⟨_, rfl, ?_⟩; replace ho := Kd.R_newR ho HO.out; have q_HW := Aside0.mk (below_step HW.out hb); clear HW; have HW := q_HW; clear q_HW; have q_HQ := Aside0.mk (blk_below HQ.out hb); clear HQ; have HQ := q_HQ; clear q_HQ; have q_HA := Aside0.mk (blk_below HA.out hb); clear HA; have HA := q_HA; clear q_HA; have q_HGR := Aside0.mk (HGR.out.below hb); clear HGR; have HGR := q_HGR; clear q_HGR; have q_HO := Aside0.mk (Kd.R_below HO.out hb); clear HO; have HO := q_HO; clear q_HO; have q_HZ6 := Aside0.mk (below_step HZ6.out hb); clear HZ6; have HZ6 := q_HZ6; clear q_HZ6; clear cq0; have cq0 : w8.cell? ⟨w.heap.size, 0, none⟩ = some (.string q0) := blk_cell HQ.out 0; clear cq1; have cq1 : w8.cell? ⟨w.heap.size, 1, none⟩ = some (.int .i64 q1) := blk_cell HQ.out 1; clear cq2; have cq2 : w8.cell? ⟨w.heap.size, 2, none⟩ = some (.int .i64 q2) := blk_cell HQ.out 2; clear ca0; have ca0 : w8.cell? ⟨w.heap.size + 1, 0, none⟩ = some (.int .i64 a0) := blk_cell HA.out 0; clear ca1; have ca1 : w8.cell? ⟨w.heap.size + 1, 1, none⟩ = some (.string a1) := blk_cell HA.out 1; have HP := Aside0.mk (ho); obtain ⟨A8, c8, e8⟩ := Kd.R_slice ho; subst e8; clear ho; clear hb))
          have hxl := HXL.out
          have hrl : x.length ≤ c7 := (Kd.R_reads' HO.out).2.1
          obtain ⟨ga, cga, ea, _, _, cls, hga⟩ := Kd.R_form HO.out (by omega)
          injection ea with ea _ ec
          subst ea
          subst ec
          obtain ⟨cel, hcl, hM, hcc, hfr⟩ := Kd.R_elem HO.out z24 (rm : Int) (by omega) (by omega)
          rw [Int.toNat_natCast] at hM hcc hfr
          rw [List.getD_eq_getElem?_getD, HZ.out] at hM
          simp only [Option.getD_some] at hM
          obtain ⟨zd, zw⟩ := z
          obtain rfl := k24_openM hM
          have hz0 : w8.cell? ⟨ga, rm * 2, none⟩ = some (.int .i64 zd) := hcc 0 _ rfl
          have hz1 : w8.cell? ⟨ga, rm * 2 + 1, none⟩ = some (.string zw) := hcc 1 _ rfl
          have hq0 : w8.cell? ⟨w.heap.size, 0, none⟩ = some (.string q0) := cq0
          have hq1 : w8.cell? ⟨w.heap.size, 1, none⟩ = some (.int .i64 q1) := cq1
          have hwi : wrap64 (1 + (rm : Int) - 1) = (rm : Int) := by rw [wr64 _ (by omega) (by omega)]; omega
          have hri : (rm : Int) < (x.length : Int) := by omega
          have hri0 : (0 : Int) ≤ (rm : Int) := by omega
          clear hcc hfr hM hcl hga hrl hxl
          refine start_ (n := 17) (S := fun w' => w'.cell? ⟨w.heap.size, 0, none⟩ = some (.string q0) ∧ w'.cell? ⟨w.heap.size, 1, none⟩ = some (.int .i64 q1) ∧ w'.cell? ⟨ga, rm * 2, none⟩ = some (.int .i64 zd) ∧ w'.cell? ⟨ga, rm * 2 + 1, none⟩ = some (.string zw)) (ds := []) #[false, false, false, false, false, false, false, false, false, false, false, false, false, false, false, false, false] (by kernel_rfl) rfl rfl ⟨hq0, hq1, hz0, hz1⟩ (fun hHeld => ?_)
          have D1 := Aside0.mk (Kd.R_drew HO.out)
          have D2 := Aside0.mk (Kd.R_drew HP.out)
          have D3 := Aside0.mk (HGR.out.below ((Below.refl _ _).drew))
          have D4 := Aside0.mk (below_drew1 HW.out)
          have D5 := Aside0.mk (below_drew1 HZ6.out)
          clear HO HP HGR HW HZ6 HQ HA hq0 hq1 hz0 hz1 cq0 cq1 cq2 ca0 ca1
          generalize w8.drew = w9 at D1 D2 D3 D4 D5 hHeld ⊢
          refine pure_ (i := 0) (N := (some 100)) (v := ?_) (a' := ?_) #[true, false, false, false, false, false, false, false, false, false, false, false, false, false, false, false, false] rfl rfl (by kernel_rfl) (fun _ _ _ h => h) (Or.inl ⟨by rfl, ?_⟩) ?_ ?_
          rotate_left
          · intro w'
            go_simp
            with_reducible rfl
          rotate_left
          · simp only [Act.put, List.setIfInBounds_toArray, List.set_cons_zero, List.set_cons_succ, i64_w, i32_w]
            rfl
          refine pure_ (i := 1) (N := (some 101)) (v := ?_) (a' := ?_) #[true, true, false, false, false, false, false, false, false, false, false, false, false, false, false, false, false] rfl rfl (by kernel_rfl) (fun _ _ _ h => h) (Or.inl ⟨by rfl, ?_⟩) ?_ ?_
          rotate_left
          · intro w'
            go_simp
            with_reducible rfl
          rotate_left
          · simp only [Act.put, List.setIfInBounds_toArray, List.set_cons_zero, List.set_cons_succ, i64_w, i32_w]
            rfl
          refine pure_ (i := 3) (N := (some 103)) (v := ?_) (a' := ?_) #[true, true, false, true, false, false, false, false, false, false, false, false, false, false, false, false, false] rfl rfl (by kernel_rfl) (fun _ _ _ h => h) (Or.inl ⟨by rfl, ?_⟩) ?_ ?_
          rotate_left
          · intro w'
            go_simp
            with_reducible rfl
          rotate_left
          · simp only [Act.put, List.setIfInBounds_toArray, List.set_cons_zero, List.set_cons_succ, i64_w, i32_w]
            rfl
          refine pure_ (i := 5) (N := (some 105)) (v := ?_) (a' := ?_) #[true, true, false, true, false, true, false, false, false, false, false, false, false, false, false, false, false] rfl rfl (by kernel_rfl) (fun _ _ _ h => h) (Or.inl ⟨by rfl, ?_⟩) ?_ ?_
          rotate_left
          · intro w'
            go_simp
            with_reducible rfl
          rotate_left
          · simp only [Act.put, List.setIfInBounds_toArray, List.set_cons_zero, List.set_cons_succ, i64_w, i32_w]
            rfl
          refine pure_ (i := 6) (N := (some 106)) (v := ?_) (a' := ?_) #[true, true, false, true, false, true, true, false, false, false, false, false, false, false, false, false, false] rfl rfl (by kernel_rfl) (fun _ _ _ h => h) (Or.inl ⟨by rfl, ?_⟩) ?_ ?_
          rotate_left
          · intro w'
            go_simp
            with_reducible rfl
          rotate_left
          · simp only [Act.put, List.setIfInBounds_toArray, List.set_cons_zero, List.set_cons_succ, i64_w, i32_w]
            rfl
          refine pure_ (i := 7) (N := (some 107)) (v := ?_) (a' := ?_) #[true, true, false, true, false, true, true, true, false, false, false, false, false, false, false, false, false] rfl rfl (by kernel_rfl) (fun _ _ _ h => h) (Or.inl ⟨by rfl, ?_⟩) ?_ ?_
          rotate_left
          · intro w'
            go_simp
            with_reducible rfl
          rotate_left
          · simp only [Act.put, List.setIfInBounds_toArray, List.set_cons_zero, List.set_cons_succ, i64_w, i32_w]
            rfl
          refine pure_ (i := 8) (N := (some 108)) (v := ?_) (a' := ?_) #[true, true, false, true, false, true, true, true, true, false, false, false, false, false, false, false, false] rfl rfl (by kernel_rfl) (fun _ _ _ h => h) (Or.inl ⟨by rfl, ?_⟩) ?_ ?_
          rotate_left
          · intro w'
            go_simp
            with_reducible rfl
          rotate_left
          · simp only [Act.put, List.setIfInBounds_toArray, List.set_cons_zero, List.set_cons_succ, i64_w, i32_w]
            rfl
          refine pure_ (i := 10) (N := (some 110)) (v := ?_) (a' := ?_) #[true, true, false, true, false, true, true, true, true, false, true, false, false, false, false, false, false] rfl rfl (by kernel_rfl) (fun _ _ _ h => h) (Or.inl ⟨by rfl, ?_⟩) ?_ ?_
          rotate_left
          · intro w'
            go_simp
            with_reducible rfl
          rotate_left
          · simp only [Act.put, List.setIfInBounds_toArray, List.set_cons_zero, List.set_cons_succ, i64_w, i32_w]
            rfl
          refine take_ (i := 2) (N := (some 102)) (v := ?_) (a' := ?_) #[true, true, true, true, false, true, true, true, true, false, true, false, false, false, false, false, false] rfl rfl (by kernel_rfl) (fun _ _ _ h => h) (Or.inl ⟨by rfl, ?_⟩) hHeld ?_ ?_
          rotate_left
          · rintro w' ⟨s0, s1, s2, s3⟩
            go_simp
            with_reducible rfl
          rotate_left
          · simp only [Act.put, List.setIfInBounds_toArray, List.set_cons_zero, List.set_cons_succ, i64_w, i32_w]
            rfl
          refine take_ (i := 4) (N := (some 104)) (v := ?_) (a' := ?_) #[true, true, true, true, true, true, true, true, true, false, true, false, false, false, false, false, false] rfl rfl (by kernel_rfl) (fun _ _ _ h => h) (Or.inl ⟨by rfl, ?_⟩) hHeld ?_ ?_
          rotate_left
          · rintro w' ⟨s0, s1, s2, s3⟩
            go_simp
            with_reducible rfl
          rotate_left
          · simp only [Act.put, List.setIfInBounds_toArray, List.set_cons_zero, List.set_cons_succ, i64_w, i32_w]
            rfl
          refine take_ (i := 9) (N := (some 109)) (v := ?_) (a' := ?_) #[true, true, true, true, true, true, true, true, true, true, true, false, false, false, false, false, false] rfl rfl (by kernel_rfl) (fun _ _ _ h => h) (Or.inl ⟨by rfl, ?_⟩) hHeld ?_ ?_
          rotate_left
          · rintro w' ⟨s0, s1, s2, s3⟩
            go_simp
            with_reducible rfl
          rotate_left
          · simp only [Act.put, List.setIfInBounds_toArray, List.set_cons_zero, List.set_cons_succ, i64_w, i32_w]
            rfl
          refine one_ (i := 11) (N := (some 111)) #[true, true, true, true, true, true, true, true, true, true, true, true, false, false, false, false, false] rfl rfl (by kernel_rfl) (by decide) (fun Kq hK => ?_)
          refine goes_ Try.func15 (by kernel_rfl) rfl #[.pointer (some ⟨g, 0, none⟩), .string q0, .int .i64 q1, .bool false, .agg #[.int .i64 zd, .string zw], .int .i64 (1 + (rn : Int))] (by rfl) rfl rfl (by (try simp only [List.map_toArray, List.map_cons, List.map_nil]); first | done | rfl) ?_
          with_reducible refine (walk_Next.calls K g ns q0 q1 false ⟨zd, zw⟩ (1 + (rn : Int)) y r _ D3.out HY.out).mono ?_
          rintro e w10 ⟨v10, rfl, ho, hb⟩
          refine ⟨_, rfl, ?_⟩
          obtain ⟨A10, c10, e10⟩ := Kd.R_slice ho
          subst e10
          have E1 := Aside0.mk (Kd.R_below D1.out hb)
          have E2 := Aside0.mk (Kd.R_below D2.out hb)
          have E4 := Aside0.mk (below_step D4.out hb)
          have E5 := Aside0.mk ho
          have E6 := Aside0.mk (below_step D5.out hb)
          refine hK.out _ _ ⟨pw_cell_below hb hHeld.1, pw_cell_below hb hHeld.2.1, pw_cell_below hb hHeld.2.2.1, pw_cell_below hb hHeld.2.2.2⟩ (fun hHeld => ?_)
          clear hb ho D1 D2 D3 D4 D5
          clear hK Kq
          refine norm_ (a' := ?_) ?_ ?_
          rotate_left
          · show Act.put _ (some 111) _ = _
            simp only [Act.put, List.setIfInBounds_toArray, List.set_cons_zero, List.set_cons_succ, i64_w, i32_w]
            rfl
          refine pure_ (i := 12) (N := (some 99)) (v := ?_) (a' := ?_) #[true, true, true, true, true, true, true, true, true, true, true, true, true, false, false, false, false] rfl rfl (by kernel_rfl) (fun _ _ _ h => h) (Or.inl ⟨by rfl, ?_⟩) ?_ ?_
          rotate_left
          · intro w'
            go_simp
            with_reducible rfl
          rotate_left
          · simp only [Act.put, List.setIfInBounds_toArray, List.set_cons_zero, List.set_cons_succ, i64_w, i32_w]
            rfl
          refine pure_ (i := 13) (N := (some 112)) (v := ?_) (a' := ?_) #[true, true, true, true, true, true, true, true, true, true, true, true, true, true, false, false, false] rfl rfl (by kernel_rfl) (fun _ _ _ h => h) (Or.inl ⟨by rfl, ?_⟩) ?_ ?_
          rotate_left
          · intro w'
            go_simp
            with_reducible rfl
          rotate_left
          · simp only [Act.put, List.setIfInBounds_toArray, List.set_cons_zero, List.set_cons_succ, i64_w, i32_w]
            rfl
          refine pure_ (i := 14) (N := (some 113)) (v := ?_) (a' := ?_) #[true, true, true, true, true, true, true, true, true, true, true, true, true, true, true, false, false] rfl rfl (by kernel_rfl) (fun _ _ _ h => h) (Or.inl ⟨by rfl, ?_⟩) ?_ ?_
          rotate_left
          · intro w'
            go_simp
            with_reducible rfl
          rotate_left
          · simp only [Act.put, List.setIfInBounds_toArray, List.set_cons_zero, List.set_cons_succ, i64_w, i32_w]
            rfl
          refine pure_ (i := 15) (N := (some 19)) (v := ?_) (a' := ?_) #[true, true, true, true, true, true, true, true, true, true, true, true, true, true, true, true, false] rfl rfl (by kernel_rfl) (fun _ _ _ h => h) (Or.inl ⟨by rfl, ?_⟩) ?_ ?_
          rotate_left
          · intro w'
            go_simp
            with_reducible rfl
          rotate_left
          · simp only [Act.put, List.setIfInBounds_toArray, List.set_cons_zero, List.set_cons_succ, i64_w, i32_w]
            rfl
          refine pure_ (i := 16) (N := (some 20)) (v := ?_) (a' := ?_) #[true, true, true, true, true, true, true, true, true, true, true, true, true, true, true, true, true] rfl rfl (by kernel_rfl) (fun _ _ _ h => h) (Or.inl ⟨by rfl, ?_⟩) ?_ ?_
          rotate_left
          · intro w'
            go_simp
            with_reducible rfl
          rotate_left
          · simp only [Act.put, List.setIfInBounds_toArray, List.set_cons_zero, List.set_cons_succ, i64_w, i32_w]
            rfl
          refine done_ (by kernel_rfl) ?_
          clear hHeld
          have hlen : x.length + y.length ≤ 1000 := by have := HBL.out; rw [← HXY.out, List.length_append] at this; exact this
          go_wp2_with (first | ((with_reducible refine gate_builtin (b := .append) (xs := #[.tmp 114, .tmp 115]) rfl ?_); at_builtin; refine Kd.R_append_rows (w0 := w10) k24 w6.heap.size rfl (.tmp 114) (.tmp 115) 31 24 (.agg #[(.int .i64 0), (.string ⟨#[]⟩)]) 24 rfl Try.underlying31 info24 rfl (by decide) (by decide) (.slice (some ⟨ga, 0, none⟩) x.length c7) x y A10 y.length c10 (fun _ => True) (fun _ => False) rfl rfl E1.out (show Kd.C k24 w10 A10 y.length y from (Kd.R_reads' E5.out).2.2) (fun x cs hx => by rw [k24_open hx]; exact k24_mkM _ _ _ x) (fun _ hk => hk.elim) (fun _ _ => trivial) (Below.refl _ _) E6.out.size (by omega) ?_; intro v11 w11 ho hb hg hat; rw [HXY.out] at ho; have hob := (fun kk hk => by obtain ⟨inner, hown⟩ := Kd.R_own E1.out; exact own_base hown kk hk : ∀ kk, (Value.slice (some ⟨ga, 0, none⟩) x.length c7).ownBlock = some kk → w6.heap.size ≤ kk); have F2 := Aside0.mk (Kd.R_grown E2.out hg (fun kk hk => hk.2)); have F4 := Aside0.mk (E4.out.grown hg E4.out.size (fun kk hk => Nat.le_trans HWB.out (hob kk hk))); obtain ⟨A11, c11, e11⟩ := Kd.R_slice ho; subst e11; have F5 := Aside0.mk ho; clear ho hb hg hat hob E1 E2 E4 E5 E6) | ((with_reducible refine gate_callee (f := 17) rfl ?_); (try (refine gate_guard (by rfl) ?_; dsimp only)); refine goesL_ (some 118) rfl rfl Try.func17 (by kernel_rfl) rfl #[.slice A11 both.length c11, .slice A8 both.length c8] rfl (by (try simp only [List.map_toArray, List.map_cons, List.map_nil]); first | done | rfl) ?_; (with_reducible refine (inkhornlaw0_SameItems.calls K A11 c11 both A8 c8 both true _ (Kd.R_reads' F5.out).2.2 (Kd.R_reads' F5.out).2.1 (Kd.R_reads' F2.out).2.2 (Kd.R_reads' F2.out).2.1 HS.out).mono ?_); rintro e w12 ⟨rfl, hd⟩; refine ⟨_, rfl, ?_⟩; have hb := hd.below; have G4 := Aside0.mk (below_step F4.out hb); clear hb hd F2 F4 F5) | ((with_reducible refine gate_callee (f := 13) rfl ?_); (try (refine gate_guard (by rfl) ?_; dsimp only)); refine goesL_ (some 125) rfl rfl Try.func13 (by kernel_rfl) rfl #[] rfl (by (try simp only [List.map_toArray, List.map_cons, List.map_nil]); first | done | rfl) ?_; (with_reducible refine (awake_calls _).mono ?_); rintro e w13 ⟨rfl, hb⟩; refine ⟨_, rfl, ?_⟩; have H4 := Aside0.mk (below_step G4.out hb); clear hb G4))
          go_ret
          exact ⟨rfl, H4.out⟩
end Go.Proofs.Ytklidannncajiaa.OW
