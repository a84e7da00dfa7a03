/- What the row of the law WalkNext leans on: contracts of functions and plain laws, each for all inputs that its own theorem names. -/
import Derived.Test.YtklidannncajiaaNx17
import Derived.Outline
namespace Go.Proofs.Ytklidannncajiaa.OW
open Go.RowKit Go.Proofs.YtklidannncajiaaW.PrintWords Go.Proofs.YtklidannncajiaaW.PrintLast Go.Proofs.YtklidannncajiaaW.PrintMore Go.Proofs.Ytklidannncajiaa.Am
set_option linter.unusedVariables false
set_option linter.unusedSimpArgs false

theorem overItems_ev (l : List S24) (hl : l.length ≤ 1000000) : Ev (fun K => inkhornlaw0_OverItems.f K l) () := by
  have key : ∀ (d i : Nat) (l : List S24), l.length ≤ 1000000 → i + d = l.length → Ev (fun K => inkhornlaw0_OverItems.l0 K l (i : Int)) () := by
    intro d
    induction d with
    | zero => intro i l hl hi; exact Ev.step (f := fun _ => some ()) (fun K => by simp only [inkhornlaw0_OverItems.l0]; rw [if_neg (by omega), if_pos (by omega)]) (Ev.now _)
    | succ d ih =>
      intro i l hl hi
      have := ih (i + 1) (l.set i ⟨-9, ⟨#[]⟩⟩) (by rw [List.length_set]; exact hl) (by rw [List.length_set]; omega)
      refine Ev.step (fun K => ?_) this
      simp only [inkhornlaw0_OverItems.l0]
      rw [if_pos (by omega), if_pos (by omega), wr64 _ (by omega) (by omega), Int.toNat_natCast]
      rfl
  unfold inkhornlaw0_OverItems.f
  exact key l.length 0 l hl (by omega)
theorem nextP_len {l : List ByteArray} (hg : GoodW l) (s : ByteArray) (k : Int) (first : Bool) (af : S24) (batch : Int) : (nextP s k l first af batch).1.length ≤ 1000 := by
  unfold nextP
  dsimp only
  rw [List.length_take]
  have h1 : (restP s k l first af).length ≤ (allP s k l).length := List.length_filter_le _ _
  have h2 : (allP s k l).length ≤ 300 := by
    unfold allP
    split
    · rename_i hm
      have h3 := levels_len (runes s 0) l (k.toNat + 1) 0
      have h4 : (k.toNat + 1) * l.length ≤ 5 * 60 := Nat.mul_le_mul (by have := hm.2.1; have := hm.2.2; omega) hg.len
      omega
    · simp
  omega
theorem next_facts {l : List ByteArray} (hl : Small l) (s : ByteArray) (hs : s.size ≤ 100) (k : Int) (first : Bool) (af : S24) (ha : af.f1.size ≤ 100) (batch : Int) :
    ∃ K e ns, graph_Build.f K l = some (e, ns) ∧ (e = 0 → ∃ x d, walk_Next.f K ns s k first af batch = some (x, d) ∧ ref11_Next.f K l s k first af batch = some (x, d) ∧ inkhornlaw0_SameItems.f K x x = some true ∧ inkhornlaw0_OverItems.f K x = some ()) := by
  obtain ⟨e, ns, ⟨K0, h0⟩, hg⟩ := build_ev hl
  by_cases he : e = 0
  case neg => exact ⟨K0, e, ns, h0 _ (Nat.le_refl _), fun h => absurd h he⟩
  obtain ⟨hw, hG⟩ := hg he
  have hlen := nextP_len hw s k first af batch
  obtain ⟨K1, h1⟩ := next_ev hG s (by omega) k first af batch
  obtain ⟨K2, h2⟩ := refnext_ev hw (fun w hm => Nat.le_trans (hl.2 w hm) (by omega)) (show s.size ≤ 1000000 by omega) k first (show af.f1.size ≤ 1000000 by omega) batch
  obtain ⟨K3, h3⟩ := sameItems_ev (nextP s k l first af batch).1 (by omega)
  obtain ⟨K4, h4⟩ := overItems_ev (nextP s k l first af batch).1 (by omega)
  exact ⟨max K0 (max K1 (max K2 (max K3 K4))), e, ns, h0 _ (by omega), fun _ => ⟨_, _, h1 _ (by omega), h2 _ (by omega), h3 _ (by omega), h4 _ (by omega)⟩⟩
set_option maxHeartbeats 8000000 in
set_option maxRecDepth 100000 in
theorem walkNext_calls (A : Option Addr) (c : Nat) (l : List ByteArray) (s : ByteArray) (k : Int) (first : Bool) (a0 : Int) (a1 : ByteArray) (batch : Int) (w : World) (hr : Kd.C Kd.string w A l.length l) (hc : l.length ≤ c) :
    Calls Try.prog 3 #[.slice A l.length c, .string s, .int .i64 k, .bool first, .agg #[.int .i64 a0, .string a1], .int .i64 batch] w fun e w' => e = .returned (.bool true) ∧ Below w.heap.size w w' := by
  have hb0 := (Below.refl w.heap.size w).alloc (Nat.le_refl _) (.cells #[.int .i64 a0, .string a1] 24)
  have HW := Aside0.mk hb0
  have HA := Aside0.mk (heap_alloc_new w (.cells #[.int .i64 a0, .string a1] 24))
  have HR := Aside0.mk (Kd.C_below hr hb0)
  have HC := Aside0.mk hc
  clear hr hc hb0
  obtain ⟨G, hG⟩ : ∃ G, G = !decide (Small l ∧ s.size ≤ 100) := ⟨_, rfl⟩
  obtain ⟨KG, hK⟩ := great_small l s
  have hKG : inkhornlaw11_great.f KG l s = some G := by rw [hG]; exact hK KG (Nat.le_refl _)
  have HG := Aside0.mk hKG
  clear hK hKG
  go_enter Try.func3, Try.ntmps3
  go_upto_region 1 with fail
  generalize w.alloc (.cells #[.int .i64 a0, .string a1] 24) = w1 at HW HA HR ⊢
  have ca0 : w1.cell? ⟨w.heap.size, 0, none⟩ = some (.int .i64 a0) := blk_cell HA.out 0
  have ca1 : w1.cell? ⟨w.heap.size, 1, none⟩ = some (.string a1) := blk_cell HA.out 1
  cases G with
  | true =>
    clear hG
    go_wp2_with (first | ((with_reducible refine gate_callee (f := 12) rfl ?_); (try (refine gate_guard (by rfl) ?_; dsimp only)); refine goesL_ (some 22) rfl rfl Try.func12 (by kernel_rfl) rfl #[.slice A l.length c, .string s] rfl (by (try simp only [List.map_toArray, List.map_cons, List.map_nil]); first | done | rfl) ?_; (with_reducible refine (inkhornlaw11_great.calls KG A c l s true _ HR.out HC.out HG.out).mono ?_); rintro e w2 ⟨rfl, hd⟩; refine ⟨_, rfl, ?_⟩; have hb := hd.below; have q_HW := Aside0.mk (below_step HW.out hb); clear HW; have HW := q_HW; clear q_HW; have q_HA := Aside0.mk (blk_below HA.out hb); clear HA; have HA := q_HA; clear q_HA; have q_HR := Aside0.mk (Kd.C_below HR.out hb); clear HR; have HR := q_HR; clear q_HR; clear ca0; have ca0 : w2.cell? ⟨w.heap.size, 0, none⟩ = some (.int .i64 a0) := blk_cell HA.out 0; clear ca1; have ca1 : w2.cell? ⟨w.heap.size, 1, none⟩ = some (.string a1) := blk_cell HA.out 1; clear hb hd) | ((with_reducible refine gate_callee (f := 13) rfl ?_); (try (refine gate_guard (by rfl) ?_; dsimp only)); refine goesL_ (some 29) rfl rfl Try.func13 (by kernel_rfl) rfl #[] rfl (by (try simp only [List.map_toArray, List.map_cons, List.map_nil]); first | done | rfl) ?_; (with_reducible refine (awake_calls _).mono ?_); rintro e w3 ⟨rfl, hb⟩; refine ⟨_, rfl, ?_⟩; have q_HW := Aside0.mk (below_step HW.out hb); clear HW; have HW := q_HW; clear q_HW; have q_HA := Aside0.mk (blk_below HA.out hb); clear HA; have HA := q_HA; clear q_HA; have q_HR := Aside0.mk (Kd.C_below HR.out hb); clear HR; have HR := q_HR; clear q_HR; clear ca0; have ca0 : w3.cell? ⟨w.heap.size, 0, none⟩ = some (.int .i64 a0) := blk_cell HA.out 0; clear ca1; have ca1 : w3.cell? ⟨w.heap.size, 1, none⟩ = some (.string a1) := blk_cell HA.out 1; clear hb))
    go_ret
    exact ⟨rfl, HW.out⟩
  | false =>
    obtain ⟨hsm, hss⟩ : Small l ∧ s.size ≤ 100 := by simpa using hG.symm
    clear hG
    by_cases ha : 100 < (a1.size : Int)
    · have ha2 : decide (100 < (a1.size : Int)) = true := decide_eq_true ha
      clear ha hsm hss
      go_wp2_with (first | ((with_reducible refine gate_callee (f := 12) rfl ?_); (try (refine gate_guard (by rfl) ?_; dsimp only)); refine goesL_ (some 22) rfl rfl Try.func12 (by kernel_rfl) rfl #[.slice A l.length c, .string s] rfl (by (try simp only [List.map_toArray, List.map_cons, List.map_nil]); first | done | rfl) ?_; (with_reducible refine (inkhornlaw11_great.calls KG A c l s false _ HR.out HC.out HG.out).mono ?_); rintro e w2 ⟨rfl, hd⟩; refine ⟨_, rfl, ?_⟩; have hb := hd.below; have q_HW := Aside0.mk (below_step HW.out hb); clear HW; have HW := q_HW; clear q_HW; have q_HA := Aside0.mk (blk_below HA.out hb); clear HA; have HA := q_HA; clear q_HA; have q_HR := Aside0.mk (Kd.C_below HR.out hb); clear HR; have HR := q_HR; clear q_HR; clear ca0; have ca0 : w2.cell? ⟨w.heap.size, 0, none⟩ = some (.int .i64 a0) := blk_cell HA.out 0; clear ca1; have ca1 : w2.cell? ⟨w.heap.size, 1, none⟩ = some (.string a1) := blk_cell HA.out 1; clear hb hd) | ((with_reducible refine gate_callee (f := 13) rfl ?_); (try (refine gate_guard (by rfl) ?_; dsimp only)); refine goesL_ (some 29) rfl rfl Try.func13 (by kernel_rfl) rfl #[] rfl (by (try simp only [List.map_toArray, List.map_cons, List.map_nil]); first | done | rfl) ?_; (with_reducible refine (awake_calls _).mono ?_); rintro e w3 ⟨rfl, hb⟩; refine ⟨_, rfl, ?_⟩; have q_HW := Aside0.mk (below_step HW.out hb); clear HW; have HW := q_HW; clear q_HW; have q_HA := Aside0.mk (blk_below HA.out hb); clear HA; have HA := q_HA; clear q_HA; have q_HR := Aside0.mk (Kd.C_below HR.out hb); clear HR; have HR := q_HR; clear q_HR; clear ca0; have ca0 : w3.cell? ⟨w.heap.size, 0, none⟩ = some (.int .i64 a0) := blk_cell HA.out 0; clear ca1; have ca1 : w3.cell? ⟨w.heap.size, 1, none⟩ = some (.string a1) := blk_cell HA.out 1; clear hb))
      go_ret
      exact ⟨rfl, HW.out⟩
    · have ha2 : decide (100 < (a1.size : Int)) = false := decide_eq_false ha
      obtain ⟨K, e, ns, hB, hN⟩ := next_facts hsm s hss k first ⟨a0, a1⟩ (show a1.size ≤ 100 by omega) batch
      have HB := Aside0.mk hB
      clear hB hsm hss ha
      by_cases he : e = 0
      case neg =>
        have he2 : (e != 0) = true := by simpa using he
        have HE := Aside0.mk he
        clear he hN
        go_wp2_with (first | ((with_reducible refine gate_callee (f := 12) rfl ?_); (try (refine gate_guard (by rfl) ?_; dsimp only)); refine goesL_ (some 22) rfl rfl Try.func12 (by kernel_rfl) rfl #[.slice A l.length c, .string s] rfl (by (try simp only [List.map_toArray, List.map_cons, List.map_nil]); first | done | rfl) ?_; (with_reducible refine (inkhornlaw11_great.calls KG A c l s false _ HR.out HC.out HG.out).mono ?_); rintro e w2 ⟨rfl, hd⟩; refine ⟨_, rfl, ?_⟩; have hb := hd.below; have q_HW := Aside0.mk (below_step HW.out hb); clear HW; have HW := q_HW; clear q_HW; have q_HA := Aside0.mk (blk_below HA.out hb); clear HA; have HA := q_HA; clear q_HA; have q_HR := Aside0.mk (Kd.C_below HR.out hb); clear HR; have HR := q_HR; clear q_HR; clear ca0; have ca0 : w2.cell? ⟨w.heap.size, 0, none⟩ = some (.int .i64 a0) := blk_cell HA.out 0; clear ca1; have ca1 : w2.cell? ⟨w.heap.size, 1, none⟩ = some (.string a1) := blk_cell HA.out 1; clear hb hd) | ((with_reducible refine gate_callee (f := 14) rfl ?_); (try (refine gate_guard (by rfl) ?_; dsimp only)); refine goesL_ (some 32) rfl rfl Try.func14 (by kernel_rfl) rfl #[.slice A l.length c] rfl (by (try simp only [List.map_toArray, List.map_cons, List.map_nil]); first | done | rfl) ?_; (with_reducible refine (graph_Build.not K A c l e ns _ HR.out HC.out HB.out HE.out).mono ?_); rintro e w3 ⟨rfl, hb⟩; refine ⟨_, rfl, ?_⟩; have q_HW := Aside0.mk (below_step HW.out hb); clear HW; have HW := q_HW; clear q_HW; have q_HA := Aside0.mk (blk_below HA.out hb); clear HA; have HA := q_HA; clear q_HA; have q_HR := Aside0.mk (Kd.C_below HR.out hb); clear HR; have HR := q_HR; clear q_HR; clear ca0; have ca0 : w3.cell? ⟨w.heap.size, 0, none⟩ = some (.int .i64 a0) := blk_cell HA.out 0; clear ca1; have ca1 : w3.cell? ⟨w.heap.size, 1, none⟩ = some (.string a1) := blk_cell HA.out 1; clear hb) | ((with_reducible refine gate_callee (f := 13) rfl ?_); (try (refine gate_guard (by rfl) ?_; dsimp only)); refine goesL_ (some 40) rfl rfl Try.func13 (by kernel_rfl) rfl #[] rfl (by (try simp only [List.map_toArray, List.map_cons, List.map_nil]); first | done | rfl) ?_; (with_reducible refine (awake_calls _).mono ?_); rintro e w4 ⟨rfl, hb⟩; refine ⟨_, rfl, ?_⟩; have q_HW := Aside0.mk (below_step HW.out hb); clear HW; have HW := q_HW; clear q_HW; have q_HA := Aside0.mk (blk_below HA.out hb); clear HA; have HA := q_HA; clear q_HA; have q_HR := Aside0.mk (Kd.C_below HR.out hb); clear HR; have HR := q_HR; clear q_HR; clear ca0; have ca0 : w4.cell? ⟨w.heap.size, 0, none⟩ = some (.int .i64 a0) := blk_cell HA.out 0; clear ca1; have ca1 : w4.cell? ⟨w.heap.size, 1, none⟩ = some (.string a1) := blk_cell HA.out 1; clear hb))
        go_ret
        exact ⟨rfl, HW.out⟩
      subst he
      obtain ⟨x, d, hx, hrn, hs, ho⟩ := hN rfl
      have HX := Aside0.mk hx
      have HRN := Aside0.mk hrn
      have HS := Aside0.mk hs
      have HOV := Aside0.mk ho
      clear hN hx hrn hs ho
      go_wp2_with (first | ((with_reducible refine gate_callee (f := 12) rfl ?_); (try (refine gate_guard (by rfl) ?_; dsimp only)); refine goesL_ (some 22) rfl rfl Try.func12 (by kernel_rfl) rfl #[.slice A l.length c, .string s] rfl (by (try simp only [List.map_toArray, List.map_cons, List.map_nil]); first | done | rfl) ?_; (with_reducible refine (inkhornlaw11_great.calls KG A c l s false _ HR.out HC.out HG.out).mono ?_); rintro e w2 ⟨rfl, hd⟩; refine ⟨_, rfl, ?_⟩; have hb := hd.below; have q_HW := Aside0.mk (below_step HW.out hb); clear HW; have HW := q_HW; clear q_HW; have q_HA := Aside0.mk (blk_below HA.out hb); clear HA; have HA := q_HA; clear q_HA; have q_HR := Aside0.mk (Kd.C_below HR.out hb); clear HR; have HR := q_HR; clear q_HR; clear ca0; have ca0 : w2.cell? ⟨w.heap.size, 0, none⟩ = some (.int .i64 a0) := blk_cell HA.out 0; clear ca1; have ca1 : w2.cell? ⟨w.heap.size, 1, none⟩ = some (.string a1) := blk_cell HA.out 1; clear hb hd) | ((with_reducible refine gate_callee (f := 14) rfl ?_); (try (refine gate_guard (by rfl) ?_; dsimp only)); refine goesL_ (some 32) rfl rfl Try.func14 (by kernel_rfl) rfl #[.slice A l.length c] rfl (by (try simp only [List.map_toArray, List.map_cons, List.map_nil]); first | done | rfl) ?_; (with_reducible refine (graph_Build.calls K A c l ns _ HR.out HC.out HB.out).mono ?_); rintro e w4 ⟨g, rfl, _, hgr, hb⟩; refine ⟨_, rfl, ?_⟩; have q_HW := Aside0.mk (below_step HW.out hb); clear HW; have HW := q_HW; clear q_HW; have q_HA := Aside0.mk (blk_below HA.out hb); clear HA; have HA := q_HA; clear q_HA; have q_HR := Aside0.mk (Kd.C_below HR.out hb); clear HR; have HR := q_HR; clear q_HR; clear ca0; have ca0 : w4.cell? ⟨w.heap.size, 0, none⟩ = some (.int .i64 a0) := blk_cell HA.out 0; clear ca1; have ca1 : w4.cell? ⟨w.heap.size, 1, none⟩ = some (.string a1) := blk_cell HA.out 1; have HGR := Aside0.mk (hgr); clear hgr; clear hb) | ((with_reducible refine gate_callee (f := 15) rfl ?_); (try (refine gate_guard (by rfl) ?_; dsimp only)); refine goesL_ (some 49) rfl rfl Try.func15 (by kernel_rfl) rfl #[.pointer (some ⟨g, 0, none⟩), .string s, .int .i64 k, .bool first, .agg #[.int .i64 a0, .string a1], .int .i64 batch] rfl (by (try simp only [List.map_toArray, List.map_cons, List.map_nil]); first | done | rfl) ?_; (with_reducible refine (walk_Next.calls K g ns s k first ⟨a0, a1⟩ batch x d _ HGR.out HX.out).mono ?_); rintro e w6 ⟨v6, rfl, ho, hb⟩; refine ⟨_, rfl, ?_⟩; have HG4 := Aside0.mk HGR.out; have HB4 := Aside0.mk HW.out; have HA4 := Aside0.mk HA.out; have q_HW := Aside0.mk (below_step HW.out hb); clear HW; have HW := q_HW; clear q_HW; have q_HA := Aside0.mk (blk_below HA.out hb); clear HA; have HA := q_HA; clear q_HA; have q_HR := Aside0.mk (Kd.C_below HR.out hb); clear HR; have HR := q_HR; clear q_HR; have q_HGR := Aside0.mk (HGR.out.below hb); clear HGR; have HGR := q_HGR; clear q_HGR; clear ca0; have ca0 : w6.cell? ⟨w.heap.size, 0, none⟩ = some (.int .i64 a0) := blk_cell HA.out 0; clear ca1; have ca1 : w6.cell? ⟨w.heap.size, 1, none⟩ = some (.string a1) := blk_cell HA.out 1; have HO := Aside0.mk (Kd.R_mono (ok' := fun k => w4.heap.size ≤ k ∧ k < w6.heap.size) (Kd.R_bound ho) (fun k hk => ⟨hk.2.1, hk.2.2.1⟩)); have HZ4 := Aside0.mk (hb); obtain ⟨A6, c6, e6⟩ := Kd.R_slice ho; subst e6; clear ho; clear hb) | ((with_reducible refine gate_callee (f := 16) rfl ?_); (try (refine gate_guard (by rfl) ?_; dsimp only)); refine goesL_ (some 59) rfl rfl Try.func16 (by kernel_rfl) rfl #[.slice A l.length c, .string s, .int .i64 k, .bool first, .agg #[.int .i64 a0, .string a1], .int .i64 batch] rfl (by (try simp only [List.map_toArray, List.map_cons, List.map_nil]); first | done | rfl) ?_; (with_reducible refine (ref11_Next.calls K A c l s k first ⟨a0, a1⟩ batch x d _ HR.out HC.out HRN.out).mono ?_); rintro e w7 ⟨v7, rfl, ho, hb⟩; refine ⟨_, rfl, ?_⟩; have q_HW := Aside0.mk (below_step HW.out hb); clear HW; have HW := q_HW; clear q_HW; have q_HA := Aside0.mk (blk_below HA.out hb); clear HA; have HA := q_HA; clear q_HA; have q_HGR := Aside0.mk (HGR.out.below hb); clear HGR; have HGR := q_HGR; clear q_HGR; have q_HO := Aside0.mk (Kd.R_below HO.out hb); clear HO; have HO := q_HO; clear q_HO; have q_HZ4 := Aside0.mk (below_step HZ4.out hb); clear HZ4; have HZ4 := q_HZ4; clear q_HZ4; clear ca0; have ca0 : w7.cell? ⟨w.heap.size, 0, none⟩ = some (.int .i64 a0) := blk_cell HA.out 0; clear ca1; have ca1 : w7.cell? ⟨w.heap.size, 1, none⟩ = some (.string a1) := blk_cell HA.out 1; have HP := Aside0.mk (Kd.R_mono (ok' := fun k => w6.heap.size ≤ k) (Kd.R_bound ho) (fun k hk => hk.2.1)); clear HR; obtain ⟨A7, c7, e7⟩ := Kd.R_slice ho; subst e7; clear ho; clear hb) | ((with_reducible refine gate_callee (f := 17) rfl ?_); (try (refine gate_guard (by rfl) ?_; dsimp only)); refine goesL_ (some 64) rfl rfl Try.func17 (by kernel_rfl) rfl #[.slice A6 x.length c6, .slice A7 x.length c7] rfl (by (try simp only [List.map_toArray, List.map_cons, List.map_nil]); first | done | rfl) ?_; (with_reducible refine (inkhornlaw0_SameItems.calls K A6 c6 x A7 c7 x true _ (Kd.R_reads' HO.out).2.2 (Kd.R_reads' HO.out).2.1 (Kd.R_reads' HP.out).2.2 (Kd.R_reads' HP.out).2.1 HS.out).mono ?_); rintro e w8 ⟨rfl, hd⟩; refine ⟨_, rfl, ?_⟩; have hb := hd.below; have q_HW := Aside0.mk (below_step HW.out hb); clear HW; have HW := q_HW; clear q_HW; have q_HA := Aside0.mk (blk_below HA.out hb); clear HA; have HA := q_HA; clear q_HA; have q_HGR := Aside0.mk (HGR.out.below hb); clear HGR; have HGR := q_HGR; clear q_HGR; have q_HO := Aside0.mk (Kd.R_below HO.out hb); clear HO; have HO := q_HO; clear q_HO; have q_HZ4 := Aside0.mk (below_step HZ4.out hb); clear HZ4; have HZ4 := q_HZ4; clear q_HZ4; have q_HP := Aside0.mk (Kd.R_below HP.out hb); clear HP; have HP := q_HP; clear q_HP; clear ca0; have ca0 : w8.cell? ⟨w.heap.size, 0, none⟩ = some (.int .i64 a0) := blk_cell HA.out 0; clear ca1; have ca1 : w8.cell? ⟨w.heap.size, 1, none⟩ = some (.string a1) := blk_cell HA.out 1; clear hb hd) | ((with_reducible refine gate_callee (f := 18) rfl ?_); (try (refine gate_guard (by rfl) ?_; dsimp only)); refine goesL_ (some 71) rfl rfl Try.func18 (by kernel_rfl) rfl #[.slice A6 x.length c6] rfl (by (try simp only [List.map_toArray, List.map_cons, List.map_nil]); first | done | rfl) ?_; (with_reducible refine (inkhornlaw0_OverItems.calls K (fun k => w4.heap.size ≤ k ∧ k < w6.heap.size) (.slice A6 x.length c6) x w4 _ HZ4.out HO.out HOV.out).mono ?_); rintro e w9 ⟨rfl, hb4, hkp⟩; refine ⟨_, rfl, ?_⟩; have HP9 := Aside0.mk (Kd.R_move (Kd.R_bound HP.out) (fun k hk => hkp.2 k hk.2.2.1 (fun h => by have := hk.1; have := h.2; omega))); have HW9 := Aside0.mk (below_step HB4.out hb4); have HA9 := Aside0.mk (blk_below HA4.out hb4); have HG9 := Aside0.mk (HG4.out.below hb4); clear hb4 hkp HO HP HW HA HGR HZ4 ca0 ca1; have ca0 : w9.cell? ⟨w.heap.size, 0, none⟩ = some (.int .i64 a0) := blk_cell HA9.out 0; have ca1 : w9.cell? ⟨w.heap.size, 1, none⟩ = some (.string a1) := blk_cell HA9.out 1) | ((with_reducible refine gate_callee (f := 15) rfl ?_); (try (refine gate_guard (by rfl) ?_; dsimp only)); refine goesL_ (some 79) rfl rfl Try.func15 (by kernel_rfl) rfl #[.pointer (some ⟨g, 0, none⟩), .string s, .int .i64 k, .bool first, .agg #[.int .i64 a0, .string a1], .int .i64 batch] rfl (by (try simp only [List.map_toArray, List.map_cons, List.map_nil]); first | done | rfl) ?_; (with_reducible refine (walk_Next.calls K g ns s k first ⟨a0, a1⟩ batch x d _ HG9.out HX.out).mono ?_); rintro e w10 ⟨v10, rfl, ho, hb⟩; refine ⟨_, rfl, ?_⟩; have q_HP9 := Aside0.mk (Kd.R_below HP9.out hb); clear HP9; have HP9 := q_HP9; clear q_HP9; have q_HW9 := Aside0.mk (below_step HW9.out hb); clear HW9; have HW9 := q_HW9; clear q_HW9; have HO10 := Aside0.mk (ho); obtain ⟨A10, c10, e10⟩ := Kd.R_slice ho; subst e10; clear ho HG9 HA9; clear hb) | ((with_reducible refine gate_callee (f := 17) rfl ?_); (try (refine gate_guard (by rfl) ?_; dsimp only)); refine goesL_ (some 86) rfl rfl Try.func17 (by kernel_rfl) rfl #[.slice A10 x.length c10, .slice A7 x.length c7] rfl (by (try simp only [List.map_toArray, List.map_cons, List.map_nil]); first | done | rfl) ?_; (with_reducible refine (inkhornlaw0_SameItems.calls K A10 c10 x A7 c7 x true _ (Kd.R_reads' HO10.out).2.2 (Kd.R_reads' HO10.out).2.1 (Kd.R_reads' HP9.out).2.2 (Kd.R_reads' HP9.out).2.1 HS.out).mono ?_); rintro e w11 ⟨rfl, hd⟩; refine ⟨_, rfl, ?_⟩; have hb := hd.below; have q_HP9 := Aside0.mk (Kd.R_below HP9.out hb); clear HP9; have HP9 := q_HP9; clear q_HP9; have q_HW9 := Aside0.mk (below_step HW9.out hb); clear HW9; have HW9 := q_HW9; clear q_HW9; have q_HO10 := Aside0.mk (Kd.R_below HO10.out hb); clear HO10; have HO10 := q_HO10; clear q_HO10; clear hb hd) | ((with_reducible refine gate_callee (f := 13) rfl ?_); (try (refine gate_guard (by rfl) ?_; dsimp only)); refine goesL_ (some 89) rfl rfl Try.func13 (by kernel_rfl) rfl #[] rfl (by (try simp only [List.map_toArray, List.map_cons, List.map_nil]); first | done | rfl) ?_; (with_reducible refine (awake_calls _).mono ?_); rintro e w12 ⟨rfl, hb⟩; refine ⟨_, rfl, ?_⟩; have q_HP9 := Aside0.mk (Kd.R_below HP9.out hb); clear HP9; have HP9 := q_HP9; clear q_HP9; have q_HW9 := Aside0.mk (below_step HW9.out hb); clear HW9; have HW9 := q_HW9; clear q_HW9; have q_HO10 := Aside0.mk (Kd.R_below HO10.out hb); clear HO10; have HO10 := q_HO10; clear q_HO10; clear hb))
      go_ret
      exact ⟨rfl, HW9.out⟩
end Go.Proofs.Ytklidannncajiaa.OW
