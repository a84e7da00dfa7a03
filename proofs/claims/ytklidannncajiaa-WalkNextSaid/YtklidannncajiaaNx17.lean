/- What the row of the law WalkNext leans on: contracts of functions and plain laws, each for all inputs that its own theorem names. -/
import Derived.Test.YtklidannncajiaaNx15
import Derived.Test.YtklidannncajiaaNx9
import Derived.Test.YtklidannncajiaaNx0
import Derived.Test.YtklidannncajiaaNx1
import Derived.Test.YtklidannncajiaaNx2
import Derived.Test.YtklidannncajiaaNx10
import Derived.Test.YtklidannncajiaaNx16
import Derived.Outline
namespace Go.Proofs.Ytklidannncajiaa.OW
open Go.RowKit Go.Proofs.YtklidannncajiaaW.PrintWords Go.Proofs.YtklidannncajiaaW.PrintLast Go.Proofs.YtklidannncajiaaW.PrintMore Go.Proofs.Ytklidannncajiaa.Am
set_option linter.unusedVariables false
set_option linter.unusedSimpArgs false

theorem sameItems_ev (l : List S24) (hl : l.length ≤ 1000000) : Ev (fun K => inkhornlaw0_SameItems.f K l l) true := by
  have key : ∀ (d i : Nat), i + d = l.length → Ev (fun K => inkhornlaw0_SameItems.l0 K l l (i : Int)) true := by
    intro d
    induction d with
    | zero => intro i hi; exact Ev.step (f := fun _ => some true) (fun K => by simp only [inkhornlaw0_SameItems.l0]; rw [if_neg (by omega)]) (Ev.now _)
    | succ d ih =>
      intro i hi
      refine Ev.step (fun K => ?_) (ih (i + 1) (by omega))
      simp only [inkhornlaw0_SameItems.l0]
      rw [if_pos (by omega), if_pos (by omega), if_pos (by omega), if_neg (by simp), wr64 _ (by omega) (by omega)]
      rfl
  unfold inkhornlaw0_SameItems.f
  simp only [if_true]
  exact key l.length 0 (by omega)
def wordsA : List ByteArray := [⟨#[97, 98]⟩, ⟨#[97, 98, 99]⟩, ⟨#[98]⟩, ⟨#[122, 122]⟩]
theorem smallA : Small wordsA := by decide +kernel
theorem goodA : list_Good.f 50 wordsA = some 0 := by decide +kernel
theorem next1 : nextP ⟨#[97, 98]⟩ 1 wordsA true z24 2 = ([⟨0, ⟨#[97, 98]⟩⟩, ⟨1, ⟨#[97, 98, 99]⟩⟩], false) := by kernel_rfl
theorem next2 : nextP ⟨#[97, 98]⟩ 1 wordsA false ⟨1, ⟨#[97, 98, 99]⟩⟩ 2 = ([⟨1, ⟨#[98]⟩⟩], true) := by kernel_rfl
theorem awake_facts : ∃ K ns, graph_Build.f K wordsA = some (0, ns) ∧ walk_Next.f K ns ⟨#[97, 98]⟩ 1 true ⟨0, ⟨#[]⟩⟩ 2 = some ([⟨0, ⟨#[97, 98]⟩⟩, ⟨1, ⟨#[97, 98, 99]⟩⟩], false) ∧
    walk_Next.f K ns ⟨#[97, 98]⟩ 1 false ⟨1, ⟨#[97, 98, 99]⟩⟩ 2 = some ([⟨1, ⟨#[98]⟩⟩], true) ∧ inkhornlaw0_SameItems.f K [⟨0, ⟨#[97, 98]⟩⟩, ⟨1, ⟨#[97, 98, 99]⟩⟩] [⟨0, ⟨#[97, 98]⟩⟩, ⟨1, ⟨#[97, 98, 99]⟩⟩] = some true ∧ inkhornlaw0_SameItems.f K [⟨1, ⟨#[98]⟩⟩] [⟨1, ⟨#[98]⟩⟩] = some true := by
  obtain ⟨e, ns, ⟨K0, h0⟩, hg⟩ := build_ev smallA
  have hgood : Ev (fun K => list_Good.f K wordsA) 0 := Ev.of (g := fun K => list_Good.f K wordsA) (fun k => list_Good.mono _ k) goodA
  obtain ⟨K1, h1⟩ := hgood
  have e0 : e = 0 := by
    have h2 : graph_Build.f (max K0 K1) wordsA = some (e, ns) := h0 _ (by omega)
    have h3 : list_Good.f (max K0 K1) wordsA = some 0 := h1 _ (by omega)
    unfold graph_Build.f at h2
    rw [h3, Option.bind_some, if_pos rfl] at h2
    split at h2
    · exact (Prod.mk.inj (Option.some.inj h2)).1.symm
    · obtain ⟨y, _, hy⟩ := Option.bind_eq_some_iff.1 h2
      exact (Prod.mk.inj (Option.some.inj hy)).1.symm
  obtain ⟨hw, hG⟩ := hg e0
  subst e0
  have n1 := next_ev hG ⟨#[97, 98]⟩ (by decide) 1 true z24 2
  have n2 := next_ev hG ⟨#[97, 98]⟩ (by decide) 1 false ⟨1, ⟨#[97, 98, 99]⟩⟩ 2
  rw [next1] at n1
  rw [next2] at n2
  obtain ⟨K2, h2⟩ := n1
  obtain ⟨K3, h3⟩ := n2
  obtain ⟨K4, h4⟩ := sameItems_ev [⟨0, ⟨#[97, 98]⟩⟩, ⟨1, ⟨#[97, 98, 99]⟩⟩] (by simp)
  obtain ⟨K5, h5⟩ := sameItems_ev [⟨1, ⟨#[98]⟩⟩] (by simp)
  exact ⟨max K0 (max K2 (max K3 (max K4 K5))), ns, h0 _ (by omega), h2 _ (by omega), h3 _ (by omega), h4 _ (by omega), h5 _ (by omega)⟩
set_option maxHeartbeats 4000000 in
set_option maxRecDepth 100000 in
theorem awake_calls (w : World) : Calls Try.prog 13 #[] w fun e w' => e = .returned (.bool true) ∧ Below w.heap.size w w' := by
  obtain ⟨K, ns, hb, hn1, hn2, hs1, hs2⟩ := awake_facts
  have HB := Aside0.mk hb
  have HN1 := Aside0.mk hn1
  have HN2 := Aside0.mk hn2
  have HS1 := Aside0.mk hs1
  have HS2 := Aside0.mk hs2
  clear hb hn1 hn2 hs1 hs2
  go_enter Try.func13, Try.ntmps13
  go_wp2_with (first | ((with_reducible refine gate_dst (N := 8) rfl ?_); refine Kd.R_lit (w0 := w) Kd.string w.heap.size 9 ?hg (N := 8) ?hd (xs := wordsA) (inner := [.string ⟨#[97, 98]⟩, .string ⟨#[97, 98, 99]⟩, .string ⟨#[98]⟩, .string ⟨#[122, 122]⟩]) (ok := fun _ => True) (okp := fun _ => True) ?hr ?hp (fun _ hk => hk) trivial (Below.refl _ _) (Nat.le_refl _) (by decide) ?_; (case hd => rfl); (case hg => rfl); (case hr => first | (go_simp; done) | (go_simp; rfl)); (case hp => exact (Reps.one (show Kd.M Kd.string _ _ _ _ _ from rfl) (Reps.one (show Kd.M Kd.string _ _ _ _ _ from rfl) (Reps.one (show Kd.M Kd.string _ _ _ _ _ from rfl) (Reps.one (show Kd.M Kd.string _ _ _ _ _ from rfl) (Reps.none _ _)))))); intro v1 w1 ho hb1 _ _; obtain ⟨A1, c1, e1⟩ := Kd.R_slice ho; subst e1; have HO1 := Aside0.mk ho; have HB1 := Aside0.mk hb1; clear ho hb1) | ((with_reducible refine gate_callee (f := 14) rfl ?_); (try (refine gate_guard (by rfl) ?_; dsimp only)); refine goesL_ (some 9) rfl rfl Try.func14 (by kernel_rfl) rfl #[.slice A1 wordsA.length c1] rfl (by (try simp only [List.map_toArray, List.map_cons, List.map_nil]); first | done | rfl) ?_; (with_reducible refine (graph_Build.calls K A1 c1 wordsA ns w1 (Kd.R_reads' HO1.out).2.2 (Kd.R_reads' HO1.out).2.1 HB.out).mono ?_); rintro e w2 ⟨g, rfl, _, hg, hb2⟩; refine ⟨_, rfl, ?_⟩; have HG2 := Aside0.mk hg; have HB2 := Aside0.mk (below_step HB1.out hb2); clear hg hb2 HO1) | ((with_reducible refine gate_callee (f := 15) rfl ?_); (try (refine gate_guard (by rfl) ?_; dsimp only)); refine goesL_ (some 15) rfl rfl Try.func15 (by kernel_rfl) rfl #[.pointer (some ⟨g, 0, none⟩), .string ⟨#[97, 98]⟩, .int .i64 1, .bool true, .agg #[.int .i64 0, .string ⟨#[]⟩], .int .i64 2] rfl (by (try simp only [List.map_toArray, List.map_cons, List.map_nil]); first | done | rfl) ?_; (with_reducible refine (walk_Next.calls K g ns ⟨#[97, 98]⟩ 1 true ⟨0, ⟨#[]⟩⟩ 2 [⟨0, ⟨#[97, 98]⟩⟩, ⟨1, ⟨#[97, 98, 99]⟩⟩] false _ HG2.out HN1.out).mono ?_); rintro e w3 ⟨v3, rfl, ho, hb2⟩; refine ⟨_, rfl, ?_⟩; obtain ⟨A3, c3, e3⟩ := Kd.R_slice ho; subst e3; have HO3 := Aside0.mk ho; have HG3 := Aside0.mk (HG2.out.below hb2); have HB3 := Aside0.mk (below_step HB2.out hb2); clear ho hb2) | ((with_reducible refine gate_callee (f := 15) rfl ?_); (try (refine gate_guard (by rfl) ?_; dsimp only)); refine goesL_ (some 21) rfl rfl Try.func15 (by kernel_rfl) rfl #[.pointer (some ⟨g, 0, none⟩), .string ⟨#[97, 98]⟩, .int .i64 1, .bool false, .agg #[.int .i64 1, .string ⟨#[97, 98, 99]⟩], .int .i64 2] rfl (by (try simp only [List.map_toArray, List.map_cons, List.map_nil]); first | done | rfl) ?_; (with_reducible refine (walk_Next.calls K g ns ⟨#[97, 98]⟩ 1 false ⟨1, ⟨#[97, 98, 99]⟩⟩ 2 [⟨1, ⟨#[98]⟩⟩] true _ HG3.out HN2.out).mono ?_); rintro e w4 ⟨v4, rfl, ho, hb2⟩; refine ⟨_, rfl, ?_⟩; obtain ⟨A4, c4, e4⟩ := Kd.R_slice ho; subst e4; have HO4 := Aside0.mk ho; have HG4 := Aside0.mk (HG3.out.below hb2); have HB4 := Aside0.mk (below_step HB3.out hb2); have HO3' := Aside0.mk (Kd.R_below HO3.out hb2); clear ho hb2) | ((with_reducible refine gate_dst (N := 27) rfl ?_); (try (refine gate_guard (by rfl) ?_; dsimp only)); refine Kd.R_lit (w0 := w4) k24 w4.heap.size 24 ?hg (N := 27) ?hd (xs := ([⟨0, ⟨#[97, 98]⟩⟩, ⟨1, ⟨#[97, 98, 99]⟩⟩] : List S24)) (inner := [.int .i64 0, .string ⟨#[97, 98]⟩, .int .i64 1, .string ⟨#[97, 98, 99]⟩]) (ok := fun _ => True) (okp := fun _ => True) ?hr ?hp (fun _ hk => hk) trivial (Below.refl _ _) (Nat.le_refl _) (by decide) ?_; (case hd => rfl); (case hg => rfl); (case hr => first | (go_simp; done) | (go_simp; rfl)); (case hp => exact (Reps.c2 (show Kd.M k24 _ _ _ _ _ from k24_mkM _ _ _ (⟨0, ⟨#[97, 98]⟩⟩ : S24)) (Reps.c2 (show Kd.M k24 _ _ _ _ _ from k24_mkM _ _ _ (⟨1, ⟨#[97, 98, 99]⟩⟩ : S24)) (Reps.none _ _)))); intro v5 w5 ho hb2 _ _; obtain ⟨A5, c5, e5⟩ := Kd.R_slice ho; subst e5; have HO5 := Aside0.mk ho; have HO35 := Aside0.mk (Kd.R_below HO3'.out hb2); have HO45 := Aside0.mk (Kd.R_below HO4.out hb2); have HB5 := Aside0.mk (below_step HB4.out hb2); clear ho hb2) | ((with_reducible refine gate_callee (f := 17) rfl ?_); (try (refine gate_guard (by rfl) ?_; dsimp only)); refine goesL_ (some 28) rfl rfl Try.func17 (by kernel_rfl) rfl #[.slice A3 ([⟨0, ⟨#[97, 98]⟩⟩, ⟨1, ⟨#[97, 98, 99]⟩⟩] : List S24).length c3, .slice A5 ([⟨0, ⟨#[97, 98]⟩⟩, ⟨1, ⟨#[97, 98, 99]⟩⟩] : List S24).length c5] rfl (by (try simp only [List.map_toArray, List.map_cons, List.map_nil]); first | done | rfl) ?_; (with_reducible refine (inkhornlaw0_SameItems.calls K A3 c3 [⟨0, ⟨#[97, 98]⟩⟩, ⟨1, ⟨#[97, 98, 99]⟩⟩] A5 c5 [⟨0, ⟨#[97, 98]⟩⟩, ⟨1, ⟨#[97, 98, 99]⟩⟩] true _ (Kd.R_reads' HO35.out).2.2 (Kd.R_reads' HO35.out).2.1 (Kd.R_reads' HO5.out).2.2 (Kd.R_reads' HO5.out).2.1 HS1.out).mono ?_); rintro e w6 ⟨rfl, hd⟩; refine ⟨_, rfl, ?_⟩; have hb2 := hd.below; have HB6 := Aside0.mk (below_step HB5.out hb2); have HO46 := Aside0.mk (Kd.R_below HO45.out hb2); clear hd hb2) | ((with_reducible refine gate_dst (N := 36) rfl ?_); (try (refine gate_guard (by rfl) ?_; dsimp only)); refine Kd.R_lit (w0 := w6) k24 w6.heap.size 24 ?hg (N := 36) ?hd (xs := ([⟨1, ⟨#[98]⟩⟩] : List S24)) (inner := [.int .i64 1, .string ⟨#[98]⟩]) (ok := fun _ => True) (okp := fun _ => True) ?hr ?hp (fun _ hk => hk) trivial (Below.refl _ _) (Nat.le_refl _) (by decide) ?_; (case hd => rfl); (case hg => rfl); (case hr => first | (go_simp; done) | (go_simp; rfl)); (case hp => exact (Reps.c2 (show Kd.M k24 _ _ _ _ _ from k24_mkM _ _ _ (⟨1, ⟨#[98]⟩⟩ : S24)) (Reps.none _ _))); intro v7 w7 ho hb2 _ _; obtain ⟨A7, c7, e7⟩ := Kd.R_slice ho; subst e7; have HO7 := Aside0.mk ho; have HO47 := Aside0.mk (Kd.R_below HO46.out hb2); have HB7 := Aside0.mk (below_step HB6.out hb2); clear ho hb2) | ((with_reducible refine gate_callee (f := 17) rfl ?_); (try (refine gate_guard (by rfl) ?_; dsimp only)); refine goesL_ (some 37) rfl rfl Try.func17 (by kernel_rfl) rfl #[.slice A4 ([⟨1, ⟨#[98]⟩⟩] : List S24).length c4, .slice A7 ([⟨1, ⟨#[98]⟩⟩] : List S24).length c7] rfl (by (try simp only [List.map_toArray, List.map_cons, List.map_nil]); first | done | rfl) ?_; (with_reducible refine (inkhornlaw0_SameItems.calls K A4 c4 [⟨1, ⟨#[98]⟩⟩] A7 c7 [⟨1, ⟨#[98]⟩⟩] true _ (Kd.R_reads' HO47.out).2.2 (Kd.R_reads' HO47.out).2.1 (Kd.R_reads' HO7.out).2.2 (Kd.R_reads' HO7.out).2.1 HS2.out).mono ?_); rintro e w8 ⟨rfl, hd⟩; refine ⟨_, rfl, ?_⟩; have hb2 := hd.below; have HB8 := Aside0.mk (below_step HB7.out hb2); clear hd hb2))
  go_ret
  exact ⟨rfl, HB8.out⟩
end Go.Proofs.Ytklidannncajiaa.OW

namespace Go.Proofs.Ytklidannncajiaa.OW
open Go.RowKit Go.Proofs.YtklidannncajiaaW.PrintWords Go.Proofs.YtklidannncajiaaW.PrintLast Go.Proofs.YtklidannncajiaaW.PrintMore
attribute [local go_sem] max2_int min2_int max_two min_two
set_option linter.unusedVariables false
set_option linter.unusedSimpArgs false

theorem take_items (A : Option Addr) (n c m : Nat) (hm : m ≤ c) : ∀ W : World, (Instr.slice 31 (.slice A n c) none (some (.int .i64 (m : Int))) none).run Try.prog W = .ok (.slice A m c) W := by
  intro W
  obtain ⟨i, hi, hz⟩ := Option.map_eq_some_iff.1 info24
  simp only [Prod.mk.injEq] at hz
  have hel : Try.prog.elem 31 = 24 := by simp [Program.elem, Try.underlying31]
  have hu : Try.prog.underlying 31 = some (.slice (Try.prog.elem 31)) := by rw [hel]; exact Try.underlying31
  have ha : (A.map fun x => x.add 0) = A := by cases A <;> simp [Addr.add]
  rw [run_slice_h W 31 A n c hu .i64 (m : Int) (by omega) (by omega), hel]
  simp [sizeOf, typeInfo, hi, hz.2.1, sliced, Result.andThen, ha]
def ref11_skip (K : Nat) (first : Bool) (af x : S24) : Option Bool := if first = true then some true else inkhornref10_Less.f K af.f0 af.f1 x.f0 x.f1
def ref11_Next.l0 (K : Nat) (first : Bool) (af : S24) : List S24 → List S24 → Option (List S24)
  | acc, [] => some acc
  | acc, x :: xs => (ref11_skip K first af x).bind fun b => if b = true then (if acc.length < 1000000 then ref11_Next.l0 K first af (acc ++ [x]) xs else none) else ref11_Next.l0 K first af acc xs
def ref11_Next.f (K : Nat) (l : List ByteArray) (s : ByteArray) (k : Int) (first : Bool) (af : S24) (batch : Int) : Option (List S24 × Bool) :=
  (inkhornref1_Asked.f K s).bind fun t => if t = true ∧ 0 ≤ k ∧ k ≤ 4 then (inkhornref10_All.f K l s k).bind fun all => (ref11_Next.l0 K first af [] all).bind fun rest => some (rest.take batch.toNat, decide (rest.length ≤ batch.toNat)) else some ([], true)
set_option maxHeartbeats 4000000 in
set_option maxRecDepth 100000 in
theorem ref11_Next.calls (K : Nat) (A : Option Addr) (c : Nat) (l : List ByteArray) (s : ByteArray) (k : Int) (first : Bool) (af : S24) (batch : Int) (r1 : List S24) (r2 : Bool) (w : World) (hr : Kd.C Kd.string w A l.length l) (hc : l.length ≤ c) (h : ref11_Next.f K l s k first af batch = some (r1, r2)) :
    Calls Try.prog 16 #[.slice A l.length c, .string s, .int .i64 k, .bool first, .agg #[.int .i64 af.f0, .string af.f1], .int .i64 batch] w fun e w' => ∃ v0_ : Value, e = .returned (.tuple #[v0_, .bool r2]) ∧ Kd.R k24 24 w' w.heap.size (fun _ => True) v0_ r1 ∧ Below w.heap.size w w' := by
  obtain ⟨t, ht, h⟩ := Option.bind_eq_some_iff.1 h
  have HT := Aside0.mk ht
  have hb0 := (Below.refl w.heap.size w).alloc (Nat.le_refl _) (.cells #[.int .i64 af.f0, .string af.f1] 24)
  have HW := Aside0.mk hb0
  have HX := Aside0.mk (heap_alloc_new w (.cells #[.int .i64 af.f0, .string af.f1] 24))
  have HR := Aside0.mk (Kd.C_below hr hb0)
  have HC := Aside0.mk hc
  clear ht hr hc hb0
  by_cases hgo : t = true ∧ 0 ≤ k ∧ k ≤ 4
  · rw [if_pos hgo] at h
    obtain ⟨rfl, h0, h4⟩ := hgo
    obtain ⟨all, hA, h⟩ := Option.bind_eq_some_iff.1 h
    obtain ⟨rest, hL, h⟩ := Option.bind_eq_some_iff.1 h
    obtain ⟨e1, e2⟩ := Prod.mk.inj (Option.some.inj h)
    have HE1 := Aside0.mk e1
    have HE2 := Aside0.mk e2
    clear e1 e2
    have HA := Aside0.mk hA
    have HL := Aside0.mk hL
    clear h hA hL
    have hk0 : decide (k < 0) = false := decide_eq_false (by omega)
    have hk4 : decide (4 < k) = false := decide_eq_false (by omega)
    go_enter Try.func16, Try.ntmps16
    go_upto_region 1 with fail
    generalize w.alloc (.cells #[.int .i64 af.f0, .string af.f1] 24) = w1 at HW HX HR ⊢
    go_upto_block 0 with (first | ((with_reducible refine gate_callee (f := 39) rfl ?_); (try (refine gate_guard (by rfl) ?_; dsimp only)); refine goesL_ (some 19) rfl rfl Try.func39 (by kernel_rfl) rfl #[.string s] rfl (by (try simp only [List.map_toArray, List.map_cons, List.map_nil]); first | done | rfl) ?_; (with_reducible refine (inkhornref1_Asked.calls K s true _ HT.out).mono ?_); rintro e w2 ⟨rfl, hb⟩; refine ⟨_, rfl, ?_⟩; have q_HW := Aside0.mk (below_step HW.out hb); clear HW; have HW := q_HW; clear q_HW; have q_HX := Aside0.mk (blk_below HX.out hb); clear HX; have HX := q_HX; clear q_HX; have q_HR := Aside0.mk (Kd.C_below HR.out hb); clear HR; have HR := q_HR; clear q_HR; clear hb) | ((with_reducible refine gate_callee (f := 40) rfl ?_); (try (refine gate_guard (by rfl) ?_; dsimp only)); refine goesL_ (some 32) rfl rfl Try.func40 (by kernel_rfl) rfl #[.slice A l.length c, .string s, .int .i64 k] rfl (by (try simp only [List.map_toArray, List.map_cons, List.map_nil]); first | done | rfl) ?_; (with_reducible refine (inkhornref10_All.calls K A c l s k all _ HR.out HC.out HA.out).mono ?_); rintro e w3 ⟨v3, rfl, ho, hb⟩; refine ⟨_, rfl, ?_⟩; have q_HW := Aside0.mk (below_step HW.out hb); clear HW; have HW := q_HW; clear q_HW; have q_HX := Aside0.mk (blk_below HX.out hb); clear HX; have HX := q_HX; clear q_HX; have q_HR := Aside0.mk (Kd.C_below HR.out hb); clear HR; have HR := q_HR; clear q_HR; have HO := Aside0.mk (Kd.R_lower (base' := 0) ho (Nat.zero_le _)); obtain ⟨A3, c3, e3⟩ := Kd.R_slice ho; subst e3; clear ho; clear hb))
    go_wp2_with fail
    have HV := Aside0.mk (show Kd.R k24 24 w3 0 (fun kk => kk < w3.heap.size) (.slice A3 all.length c3) all from Kd.R_mono (Kd.R_bound HO.out) (fun kk hk => hk.2.2.1))
    have HZ := Aside0.mk (Below.refl w3.heap.size w3)
    have HBX := Aside0.mk (show w.heap.size < w3.heap.size from blk_lt HX.out)
    have HBW := Aside0.mk HW.out.size
    have hal : all.length ≤ 9223372036854775807 := (Kd.R_reads' HV.out).2.2.2.1
    have HAL := Aside0.mk hal
    clear HO hal
    go_loopg [15, 16] all.length (fun kq v15 v16 W => ∃ (i : Nat) (acc : List S24), v16 = .int .i64 i ∧ Aside0 (i + kq = all.length) ∧ Aside0 (ref11_Next.l0 K first af acc (all.drop i) = some rest) ∧ Aside0 (Kd.R k24 24 W w3.heap.size (fun _ => True) v15 acc) ∧ Aside0 (Kd.R k24 24 W 0 (fun kk => kk < w3.heap.size) (.slice A3 all.length c3) all) ∧ Aside0 (W.heap[w.heap.size]? = some (.cells #[.int .i64 af.f0, .string af.f1] 24 (0, 0))) ∧ Aside0 (Below w.heap.size w W) ∧ Aside0 (Below w3.heap.size w3 W))
    case atStart => exact ⟨0, [], rfl, ⟨by omega⟩, HL, ⟨Kd.R_nil _ _ _ _ _⟩, HV, HX, HW, HZ⟩
    case round =>
      clear HL HV HX HW HZ HR
      obtain ⟨i, acc, rfl, HI, HL, HO, HV, HX, HW, HZ⟩ := hrel
      have hal := HAL.out
      cases gk with
      | zero =>
        have hi := HI.out
        obtain rfl : i = all.length := by omega
        clear hi HI
        have hl := HL.out
        rw [List.drop_length] at hl
        simp only [ref11_Next.l0] at hl
        obtain rfl := Option.some.inj hl
        clear hl HL
        obtain ⟨A5, c5, e5⟩ := Kd.R_slice HO.out
        subst e5
        have hrl : acc.length ≤ 9223372036854775807 := (Kd.R_reads' HO.out).2.2.2.1
        have hrc : acc.length ≤ c5 := (Kd.R_reads' HO.out).2.1
        go_upto_region 11 with fail
        obtain ⟨nb, hnb⟩ : ∃ nb : Int, (if batch < 0 then 0 else batch) = nb := ⟨_, rfl⟩
        obtain ⟨m, hm, hm1, hm2⟩ : ∃ m : Nat, (if (acc.length : Int) < nb then (acc.length : Int) else nb) = (m : Int) ∧ m ≤ acc.length ∧ m = min batch.toNat acc.length := by
          refine ⟨min batch.toNat acc.length, ?_, Nat.min_le_right _ _, rfl⟩
          rw [← hnb]
          split <;> split <;> omega
        rw [hnb, hm]
        clear hnb
        have HM := Aside0.mk hm2
        have hmc : m ≤ c5 := by omega
        have hrun := take_items A5 acc.length c5 m hmc
        clear hm hm2 hmc
        go_wp2_with fail
        go_ret2
        have hm2 := HM.out
        have hz : ((m : Int) == (acc.length : Int)) = r2 := by
          rw [← HE2.out, Bool.eq_iff_iff]
          simp only [beq_iff_eq, decide_eq_true_eq]
          omega
        have ht : acc.take m = r1 := by
          rw [← HE1.out, hm2]
          rcases Nat.le_total batch.toNat acc.length with h | h
          · rw [Nat.min_eq_left h]
          · rw [Nat.min_eq_right h, List.take_of_length_le h, List.take_length]
        refine ⟨.slice A5 m c5, by rw [← hz]; rfl, ?_, HW.out⟩
        rw [← ht]
        exact Kd.R_mono (Kd.R_lower (Kd.R_take HO.out hm1) HBW.out) (fun _ _ => trivial)
      | succ ko =>
        have hi := HI.out
        have hil : i < all.length := by omega
        have hil2 : decide ((i : Int) < (all.length : Int)) = true := decide_eq_true (by omega)
        clear hi
        have hl := HL.out
        rw [List.drop_eq_getElem_cons hil] at hl
        simp only [ref11_Next.l0] at hl
        obtain ⟨b, hs, hl⟩ := Option.bind_eq_some_iff.1 hl
        have HLS := Aside0.mk hs
        have HL2 := Aside0.mk hl
        clear hs hl HL
        obtain ⟨ga, cga, ea, _, _, cls, hga⟩ := Kd.R_form HV.out (by omega)
        injection ea with ea _ ec
        subst ea
        subst ec
        obtain ⟨cel, hcl, hM, hcc, hfr⟩ := Kd.R_elem HV.out z24 (i : Int) (by omega) (by omega)
        rw [Int.toNat_natCast] at hM hcc hfr
        rw [List.getD_eq_getElem?_getD, List.getElem?_eq_getElem hil] at hM
        simp only [Option.getD_some] at hM
        generalize all[i] = x at hM HLS HL2
        obtain ⟨xd, xw⟩ := x
        obtain rfl := k24_openM hM
        have hx0 : wr.cell? ⟨ga, i * 2, none⟩ = some (.int .i64 xd) := hcc 0 _ rfl
        have hx1 : wr.cell? ⟨ga, i * 2 + 1, none⟩ = some (.string xw) := hcc 1 _ rfl
        have hbx0 : wr.cell? ⟨w.heap.size, 0, none⟩ = some (.int .i64 af.f0) := blk_cell HX.out 0
        have hbx1 : wr.cell? ⟨w.heap.size, 1, none⟩ = some (.string af.f1) := blk_cell HX.out 1
        clear hcc hfr hM hcl hga
        go_upto_region 8 with fail
        go_cut [47] (fun v47 W => v47 = .bool b ∧ Aside0 (Kd.R k24 24 W w3.heap.size (fun _ => True) u15 acc) ∧ Aside0 (Kd.R k24 24 W 0 (fun kk => kk < w3.heap.size) (.slice (some ⟨ga, 0, none⟩) all.length c3) all) ∧ Aside0 (W.heap[w.heap.size]? = some (.cells #[.int .i64 af.f0, .string af.f1] 24 (0, 0))) ∧ Aside0 (Below w.heap.size w W) ∧ Aside0 (Below w3.heap.size w3 W) ∧ (W.cell? ⟨ga, i * 2, none⟩ = some (.int .i64 xd) ∧ W.cell? ⟨ga, i * 2 + 1, none⟩ = some (.string xw)))
        case first =>
          have hls := HLS.out
          unfold ref11_skip at hls
          cases first with
          | true =>
            obtain rfl := Option.some.inj ((if_pos rfl).symm.trans hls)
            clear hls HLS
            go_quiet (fail)
            go_wp2_with fail
            go_meet
            exact ⟨rfl, ⟨Kd.R_drewN HO.out _⟩, ⟨Kd.R_drewN HV.out _⟩, ⟨blk_drewN HX.out _⟩, ⟨pw_below_drewN HW.out _⟩, ⟨pw_below_drewN HZ.out _⟩, hx0, hx1⟩
          | false =>
            have hls2 := (if_neg (show ¬ (false = true) by simp)).symm.trans hls
            dsimp only at hls2
            clear hls HLS
            have HLS := Aside0.mk hls2
            clear hls2
            refine start_ (n := 9) (S := fun w' => w'.cell? ⟨w.heap.size, 0, none⟩ = some (.int .i64 af.f0) ∧ w'.cell? ⟨w.heap.size, 1, none⟩ = some (.string af.f1) ∧ w'.cell? ⟨ga, i * 2, none⟩ = some (.int .i64 xd) ∧ w'.cell? ⟨ga, i * 2 + 1, none⟩ = some (.string xw)) (ds := []) #[false, false, false, false, false, false, false, false, false] (by kernel_rfl) rfl rfl ⟨hbx0, hbx1, hx0, hx1⟩ (fun hHeld => ?_)
            have D1 := Aside0.mk (blk_drew HX.out)
            have D2 := Aside0.mk (Kd.R_drew HO.out)
            have D3 := Aside0.mk (Kd.R_drew HV.out)
            have D4 := Aside0.mk (below_drew1 HW.out)
            have D5 := Aside0.mk (below_drew1 HZ.out)
            clear HX HO HV HW HZ hbx0 hbx1 hx0 hx1
            generalize wr.drew = w4 at D1 D2 D3 D4 D5 hHeld ⊢
            refine pure_ (i := 0) (N := (some 39)) (v := ?_) (a' := ?_) #[true, false, false, false, false, false, false, false, false] rfl rfl (by kernel_rfl) (fun _ _ _ h => h) (Or.inl ⟨by rfl, ?_⟩) ?_ ?_
            rotate_left
            · intro w'
              go_simp
              with_reducible rfl
            rotate_left
            · simp only [Act.put, List.setIfInBounds_toArray, List.set_cons_zero, List.set_cons_succ, i64_w, i32_w]
              rfl
            refine pure_ (i := 1) (N := (some 40)) (v := ?_) (a' := ?_) #[true, true, false, false, false, false, false, false, false] rfl rfl (by kernel_rfl) (fun _ _ _ h => h) (Or.inl ⟨by rfl, ?_⟩) ?_ ?_
            rotate_left
            · intro w'
              go_simp
              with_reducible rfl
            rotate_left
            · simp only [Act.put, List.setIfInBounds_toArray, List.set_cons_zero, List.set_cons_succ, i64_w, i32_w]
              rfl
            refine pure_ (i := 3) (N := (some 42)) (v := ?_) (a' := ?_) #[true, true, false, true, false, false, false, false, false] rfl rfl (by kernel_rfl) (fun _ _ _ h => h) (Or.inl ⟨by rfl, ?_⟩) ?_ ?_
            rotate_left
            · intro w'
              go_simp
              with_reducible rfl
            rotate_left
            · simp only [Act.put, List.setIfInBounds_toArray, List.set_cons_zero, List.set_cons_succ, i64_w, i32_w]
              rfl
            refine pure_ (i := 4) (N := (some 43)) (v := ?_) (a' := ?_) #[true, true, false, true, true, false, false, false, false] rfl rfl (by kernel_rfl) (fun _ _ _ h => h) (Or.inl ⟨by rfl, ?_⟩) ?_ ?_
            rotate_left
            · intro w'
              go_simp
              with_reducible rfl
            rotate_left
            · simp only [Act.put, List.setIfInBounds_toArray, List.set_cons_zero, List.set_cons_succ, i64_w, i32_w]
              rfl
            refine pure_ (i := 5) (N := (some 44)) (v := ?_) (a' := ?_) #[true, true, false, true, true, true, false, false, false] rfl rfl (by kernel_rfl) (fun _ _ _ h => h) (Or.inl ⟨by rfl, ?_⟩) ?_ ?_
            rotate_left
            · intro w'
              go_simp
              with_reducible rfl
            rotate_left
            · simp only [Act.put, List.setIfInBounds_toArray, List.set_cons_zero, List.set_cons_succ, i64_w, i32_w]
              rfl
            refine take_ (i := 2) (N := (some 41)) (v := ?_) (a' := ?_) #[true, true, true, true, true, true, false, false, false] rfl rfl (by kernel_rfl) (fun _ _ _ h => h) (Or.inl ⟨by rfl, ?_⟩) hHeld ?_ ?_
            rotate_left
            · rintro w' ⟨s0, s1, s2, s3⟩
              go_simp
              with_reducible rfl
            rotate_left
            · simp only [Act.put, List.setIfInBounds_toArray, List.set_cons_zero, List.set_cons_succ, i64_w, i32_w]
              rfl
            refine take_ (i := 6) (N := (some 45)) (v := ?_) (a' := ?_) #[true, true, true, true, true, true, true, false, false] rfl rfl (by kernel_rfl) (fun _ _ _ h => h) (Or.inl ⟨by rfl, ?_⟩) hHeld ?_ ?_
            rotate_left
            · rintro w' ⟨s0, s1, s2, s3⟩
              go_simp
              with_reducible rfl
            rotate_left
            · simp only [Act.put, List.setIfInBounds_toArray, List.set_cons_zero, List.set_cons_succ, i64_w, i32_w]
              rfl
            refine one_ (i := 7) (N := (some 46)) #[true, true, true, true, true, true, true, true, false] rfl rfl (by kernel_rfl) (by decide) (fun Kq hK => ?_)
            refine goes_ Try.func41 (by kernel_rfl) rfl #[.agg #[.int .i64 af.f0, .string af.f1], .agg #[.int .i64 xd, .string xw]] (by rfl) rfl rfl (by (try simp only [List.map_toArray, List.map_cons, List.map_nil]); first | done | rfl) ?_
            with_reducible refine (inkhornref10_Less.calls K af.f0 af.f1 xd xw b _ HLS.out).mono ?_
            rintro e w5 ⟨rfl, hb⟩
            refine ⟨_, rfl, ?_⟩
            have E1 := Aside0.mk (blk_below D1.out hb)
            have E2 := Aside0.mk (Kd.R_below D2.out hb)
            have E3 := Aside0.mk (Kd.R_below D3.out hb)
            have E4 := Aside0.mk (below_step D4.out hb)
            have E5 := Aside0.mk (below_step D5.out hb)
            refine hK.out _ _ ⟨pw_cell_below hb hHeld.1, pw_cell_below hb hHeld.2.1, pw_cell_below hb hHeld.2.2.1, pw_cell_below hb hHeld.2.2.2⟩ (fun hHeld => ?_)
            clear hb D1 D2 D3 D4 D5
            clear hK Kq
            refine norm_ (a' := ?_) ?_ ?_
            rotate_left
            · show Act.put _ (some 46) _ = _
              simp only [Act.put, List.setIfInBounds_toArray, List.set_cons_zero, List.set_cons_succ, i64_w, i32_w]
              rfl
            refine pure_ (i := 8) (N := (some 47)) (v := ?_) (a' := ?_) #[true, true, true, true, true, true, true, true, true] rfl rfl (by kernel_rfl) (fun _ _ _ h => h) (Or.inl ⟨by rfl, ?_⟩) ?_ ?_
            rotate_left
            · intro w'
              go_simp
              with_reducible rfl
            rotate_left
            · simp only [Act.put, List.setIfInBounds_toArray, List.set_cons_zero, List.set_cons_succ, i64_w, i32_w]
              rfl
            refine done_ (by kernel_rfl) ?_
            go_wp2_with fail
            go_meet
            exact ⟨rfl, E2, E3, E1, E4, E5, hHeld.2.2⟩
        case rest =>
          obtain ⟨rfl, HO, HV, HX, HW, HZ, hx0, hx1⟩ := hcut
          clear HLS
          cases b with
          | false =>
            have HL3 := Aside0.mk ((if_neg (by simp)).symm.trans HL2.out)
            go_wp2_with fail
            go_roundg ko
            case measure => omega
            case rel => exact ⟨i + 1, acc, by go_num, ⟨by have := HI.out; omega⟩, HL3, HO, HV, HX, HW, HZ⟩
          | true =>
            have hl3 := (if_pos rfl).symm.trans HL2.out
            by_cases hacc : acc.length < 1000000
            case neg => exact absurd ((if_neg hacc).symm.trans hl3) (by simp)
            have HL3 := Aside0.mk ((if_pos hacc).symm.trans hl3)
            have HAC := Aside0.mk hacc
            clear hl3 hacc HL2
            go_wp2_with ((with_reducible refine gate_builtin (b := .append) (xs := #[.tmp 48, .tmp 53]) rfl ?_); at_builtin; refine Kd.R_append k24 (w0 := wc) w3.heap.size rfl (.tmp 48) (.tmp 53) 31 24 (.agg #[(.int .i64 0), (.string ⟨#[]⟩)]) 24 rfl Try.underlying31 info24 rfl (by decide) (by omega) u15 acc (⟨xd, xw⟩ : S24) [.int .i64 xd, .string xw] (fun _ => True) (fun _ => False) rfl rfl ?aP (fun _ hk => hk.elim) (fun _ _ => trivial) HO.out (Below.refl _ _) HZ.out.size (by have := HAC.out; omega) ?_; (case aP => exact k24_mkM _ _ _ (⟨xd, xw⟩ : S24)); intro v9 w9 ho hb hg hat; have hob := (fun kk hk => by obtain ⟨inner, hown⟩ := Kd.R_own HO.out; exact own_base hown kk hk : ∀ kk, u15.ownBlock = some kk → w3.heap.size ≤ kk); have HO9 := Aside0.mk ho; have HV9 := Aside0.mk (Kd.R_grown HV.out hg (fun kk hk e => by have := hob kk e.symm; omega)); have HX9 := Aside0.mk (blk_grown HX.out hg (fun e => by have := hob _ e.symm; have := HBX.out; have := HZ.out.size; omega)); have HW9 := Aside0.mk (HW.out.grown hg HW.out.size (fun kk hk => Nat.le_trans HBW.out (hob kk hk))); have HZ9 := Aside0.mk (HZ.out.grown hg HZ.out.size hob); clear ho hb hg hat hob hx0 hx1)
            go_roundg ko
            case measure => omega
            case rel => exact ⟨i + 1, acc ++ [(⟨xd, xw⟩ : S24)], by go_num, ⟨by have := HI.out; omega⟩, HL3, HO9, HV9, HX9, HW9, HZ9⟩
  · rw [if_neg hgo] at h
    obtain ⟨rfl, rfl⟩ := Prod.mk.inj (Option.some.inj h)
    clear h
    cases t with
    | false =>
      go_enter Try.func16, Try.ntmps16
      go_wp2_with (first | ((with_reducible refine gate_callee (f := 39) rfl ?_); (try (refine gate_guard (by rfl) ?_; dsimp only)); refine goesL_ (some 19) rfl rfl Try.func39 (by kernel_rfl) rfl #[.string s] rfl (by (try simp only [List.map_toArray, List.map_cons, List.map_nil]); first | done | rfl) ?_; (with_reducible refine (inkhornref1_Asked.calls K s false _ HT.out).mono ?_); rintro e w2 ⟨rfl, hb⟩; refine ⟨_, rfl, ?_⟩; have q_HW := Aside0.mk (below_step HW.out hb); clear HW; have HW := q_HW; clear q_HW; have q_HX := Aside0.mk (blk_below HX.out hb); clear HX; have HX := q_HX; clear q_HX; have q_HR := Aside0.mk (Kd.C_below HR.out hb); clear HR; have HR := q_HR; clear q_HR; clear hb))
      go_ret2
      exact ⟨_, rfl, Kd.R_nil _ _ _ _ _, HW.out⟩
    | true =>
      by_cases h0 : k < 0
      · have hk0 : decide (k < 0) = true := decide_eq_true h0
        go_enter Try.func16, Try.ntmps16
        go_wp2_with (first | ((with_reducible refine gate_callee (f := 39) rfl ?_); (try (refine gate_guard (by rfl) ?_; dsimp only)); refine goesL_ (some 19) rfl rfl Try.func39 (by kernel_rfl) rfl #[.string s] rfl (by (try simp only [List.map_toArray, List.map_cons, List.map_nil]); first | done | rfl) ?_; (with_reducible refine (inkhornref1_Asked.calls K s true _ HT.out).mono ?_); rintro e w2 ⟨rfl, hb⟩; refine ⟨_, rfl, ?_⟩; have q_HW := Aside0.mk (below_step HW.out hb); clear HW; have HW := q_HW; clear q_HW; have q_HX := Aside0.mk (blk_below HX.out hb); clear HX; have HX := q_HX; clear q_HX; have q_HR := Aside0.mk (Kd.C_below HR.out hb); clear HR; have HR := q_HR; clear q_HR; clear hb))
        go_ret2
        exact ⟨_, rfl, Kd.R_nil _ _ _ _ _, HW.out⟩
      · have hk0 : decide (k < 0) = false := decide_eq_false h0
        have hk4 : decide (4 < k) = true := decide_eq_true (by
          by_cases h4 : k ≤ 4
          · exact absurd ⟨rfl, by omega, h4⟩ hgo
          · omega)
        go_enter Try.func16, Try.ntmps16
        go_wp2_with (first | ((with_reducible refine gate_callee (f := 39) rfl ?_); (try (refine gate_guard (by rfl) ?_; dsimp only)); refine goesL_ (some 19) rfl rfl Try.func39 (by kernel_rfl) rfl #[.string s] rfl (by (try simp only [List.map_toArray, List.map_cons, List.map_nil]); first | done | rfl) ?_; (with_reducible refine (inkhornref1_Asked.calls K s true _ HT.out).mono ?_); rintro e w2 ⟨rfl, hb⟩; refine ⟨_, rfl, ?_⟩; have q_HW := Aside0.mk (below_step HW.out hb); clear HW; have HW := q_HW; clear q_HW; have q_HX := Aside0.mk (blk_below HX.out hb); clear HX; have HX := q_HX; clear q_HX; have q_HR := Aside0.mk (Kd.C_below HR.out hb); clear HR; have HR := q_HR; clear q_HR; clear hb))
        go_ret2
        exact ⟨_, rfl, Kd.R_nil _ _ _ _ _, HW.out⟩
end Go.Proofs.Ytklidannncajiaa.OW

namespace Go.Proofs.Ytklidannncajiaa.OW
open Go.RowKit Go.Proofs.YtklidannncajiaaW.PrintWords Go.Proofs.YtklidannncajiaaW.PrintLast Go.Proofs.YtklidannncajiaaW.PrintMore Go.Proofs.Ytklidannncajiaa.Am

theorem lessP_iff {a b : S24} : lessP a b = true ↔ (a.f0 < b.f0 ∨ (a.f0 = b.f0 ∧ ltB a.f1 b.f1)) := by unfold lessP; exact decide_eq_true_iff
theorem lessP_trans {a b c : S24} (h : lessP a b = true) (h' : lessP b c = true) : lessP a c = true := by
  rw [lessP_iff] at *
  rcases h with h | ⟨h, h2⟩
  · rcases h' with h' | ⟨h', _⟩ <;> exact .inl (by omega)
  · rcases h' with h' | ⟨h', h3⟩
    · exact .inl (by omega)
    · exact .inr ⟨by omega, h2.trans h3⟩
theorem lessP_irrefl (a : S24) : ¬ lessP a a = true := by
  rw [lessP_iff]
  rintro (h | ⟨_, h⟩)
  · omega
  · exact ltB.irrefl _ h
theorem level_sorted (q : List Int) {l : List ByteArray} (h : l.Pairwise ltB) (d : Nat) : (level q l d).Pairwise (fun a b => lessP a b = true) := by
  unfold level near
  exact (h.filter _).map _ (fun a b hab => lessP_iff.2 (.inr ⟨rfl, hab⟩))
theorem level_f0 {q : List Int} {l : List ByteArray} {d : Nat} {x : S24} (h : x ∈ level q l d) : x.f0 = d := by
  unfold level at h
  obtain ⟨y, _, rfl⟩ := List.mem_map.1 h
  rfl
theorem levels_f0 {q : List Int} {l : List ByteArray} {x : S24} {d n : Nat} (h : x ∈ levels q l d n) : (d : Int) ≤ x.f0 := by
  unfold levels at h
  obtain ⟨e, he, hx⟩ := List.mem_flatMap.1 h
  have := (List.mem_range'_1.1 he).1
  rw [level_f0 hx]
  omega
theorem levels_sorted (q : List Int) {l : List ByteArray} (h : l.Pairwise ltB) : ∀ (n d : Nat), (levels q l d n).Pairwise (fun a b => lessP a b = true)
  | 0, d => by simp [levels]
  | n + 1, d => by
    rw [levels_succ]
    refine List.pairwise_append.2 ⟨level_sorted q h d, levels_sorted q h n (d + 1), fun a ha b hb => lessP_iff.2 (.inl ?_)⟩
    have := level_f0 ha
    have := levels_f0 hb
    omega
/-! ### a text that parts in length from all words -/
end Go.Proofs.Ytklidannncajiaa.OW

namespace Go.Proofs.Ytklidannncajiaa.OW
open Go.RowKit Go.Proofs.YtklidannncajiaaW.PrintWords Go.Proofs.YtklidannncajiaaW.PrintLast Go.Proofs.YtklidannncajiaaW.PrintMore Go.Proofs.Ytklidannncajiaa.Am
set_option linter.unusedVariables false
set_option linter.unusedSimpArgs false

theorem refless_ev {a b : S24} (ha : a.f1.size ≤ 1000000) (hb : b.f1.size ≤ 1000000) : Ev (fun K => inkhornref10_Less.f K a.f0 a.f1 b.f0 b.f1) (lessP a b) := by
  unfold inkhornref10_Less.f lessP
  by_cases h1 : a.f0 < b.f0
  · exact Ev.congr (f := fun _ => some _) (fun K => by rw [if_pos h1, decide_eq_true (.inl h1)]) (Ev.now _)
  · by_cases h2 : a.f0 = b.f0
    · refine Ev.congr (fun K => by rw [if_neg h1, if_pos h2]) (Ev.bind (refcompare_ev ha hb) ?_)
      have e : decide (Lib.compareBytes a.f1.data.toList b.f1.data.toList < 0) = decide (a.f0 < b.f0 ∨ (a.f0 = b.f0 ∧ ltB a.f1 b.f1)) := by
        rw [decide_eq_decide]
        exact ⟨fun h => .inr ⟨h2, h⟩, fun h => by rcases h with h | h; exact absurd h h1; exact h.2⟩
      rw [← e]
      exact Ev.now _
    · exact Ev.congr (f := fun _ => some _) (fun K => by rw [if_neg h1, if_neg h2, decide_eq_false (fun h => by rcases h with h | h; exact h1 h; exact h2 h.1)]) (Ev.now _)
/-! ### Put -/
def putP : List S24 → S24 → List S24
  | [], x => [x]
  | y :: ys, x => if lessP x y = true then x :: y :: ys else y :: putP ys x
theorem rd24 (l : List S24) (i : Nat) (h : i < l.length) : rd_T24 l (i : Int) = l[i] := by
  unfold rd_T24
  rw [Int.toNat_natCast, List.getD_eq_getElem?_getD, List.getElem?_eq_getElem h]; rfl
theorem put_in (l : List S24) (x : S24) (hl : l.length ≤ 1000) : ∀ (d i : Nat) (out : List S24), i + d = l.length → out.length ≤ i + 1 → Ev (fun K => inkhornref10_Put.l0 K l out true (i : Int) x.f0 x.f1) (out ++ l.drop i) := by
  intro d
  induction d with
  | zero =>
    intro i out hi ho
    rw [List.drop_eq_nil_of_le (by omega), List.append_nil]
    exact Ev.step (f := fun _ => some out) (fun K => by simp only [inkhornref10_Put.l0]; rw [if_neg (by omega), if_pos trivial]) (Ev.now _)
  | succ d ih =>
    intro i out hi ho
    have hil : i < l.length := by omega
    rw [List.drop_eq_getElem_cons hil]
    have := ih (i + 1) (out ++ [l[i]]) (by omega) (by rw [List.length_append, List.length_singleton]; omega)
    rw [List.append_assoc, List.singleton_append] at this
    refine Ev.step (fun K => ?_) this
    simp only [inkhornref10_Put.l0]
    rw [if_pos (by omega), if_pos trivial, if_pos (by omega), if_pos (by omega), rd24 l i hil, wr64 _ (by omega) (by omega)]
    rfl
theorem put_l0 (l : List S24) (x : S24) (hl : l.length ≤ 1000) (hx : x.f1.size ≤ 1000000) (hs : ∀ y ∈ l, y.f1.size ≤ 1000000) : ∀ (d i : Nat) (out : List S24), i + d = l.length → out.length ≤ i → Ev (fun K => inkhornref10_Put.l0 K l out false (i : Int) x.f0 x.f1) (out ++ putP (l.drop i) x) := by
  intro d
  induction d with
  | zero =>
    intro i out hi ho
    rw [List.drop_eq_nil_of_le (by omega)]
    exact Ev.step (f := fun _ => some _) (fun K => by simp only [inkhornref10_Put.l0]; rw [if_neg (by omega), if_neg (by simp), if_pos (by omega)]; rfl) (Ev.now _)
  | succ d ih =>
    intro i out hi ho
    have hil : i < l.length := by omega
    rw [List.drop_eq_getElem_cons hil]
    refine Ev.step (fun K => by simp only [inkhornref10_Put.l0]; rw [if_pos (by omega), if_neg (by simp), if_pos (by omega), rd24 l i hil]) (Ev.bind (refless_ev hx (hs _ (List.getElem_mem hil))) ?_)
    unfold putP
    cases hb : lessP x l[i] with
    | true =>
      simp only [if_true]
      have := put_in l x hl d (i + 1) (out ++ [x] ++ [l[i]]) (by omega) (by simp; omega)
      rw [List.append_assoc, List.append_assoc] at this
      refine Ev.congr (fun K => ?_) this
      rw [if_pos (by omega), Option.bind_some, if_pos (by rw [List.length_append, List.length_singleton]; omega), wr64 _ (by omega) (by omega)]
      simp
    | false =>
      simp only [Bool.false_eq_true, if_false]
      have := ih (i + 1) (out ++ [l[i]]) (by omega) (by rw [List.length_append, List.length_singleton]; omega)
      rw [List.append_assoc, List.singleton_append] at this
      refine Ev.congr (fun K => ?_) this
      rw [if_pos (by omega), wr64 _ (by omega) (by omega)]
      rfl
theorem put_ev (l : List S24) (x : S24) (hl : l.length ≤ 1000) (hx : x.f1.size ≤ 1000000) (hs : ∀ y ∈ l, y.f1.size ≤ 1000000) : Ev (fun K => inkhornref10_Put.f K l x.f0 x.f1) (putP l x) := by
  have := put_l0 l x hl hx hs l.length 0 [] (by omega) (by simp)
  rw [List.drop_zero, List.nil_append] at this
  exact this
theorem lessP_total {a b : S24} (h : ¬ lessP a b = true) (hne : a ≠ b) : lessP b a = true := by
  rw [lessP_iff] at h ⊢
  by_cases h1 : b.f0 < a.f0
  · exact .inl h1
  · have e : a.f0 = b.f0 := by
      by_cases h2 : a.f0 < b.f0
      · exact absurd (.inl h2) h
      · omega
    refine .inr ⟨e.symm, ltB.total (fun h3 => h (.inr ⟨e, h3⟩)) (fun h3 => hne ?_)⟩
    cases a; cases b
    simp only at e h3
    rw [e, h3]
theorem mem_put {x z : S24} : ∀ {l : List S24}, z ∈ putP l x ↔ z = x ∨ z ∈ l
  | [] => by simp [putP]
  | y :: ys => by
    unfold putP
    split
    · simp
    · rw [List.mem_cons, mem_put (l := ys), List.mem_cons]
      constructor
      · rintro (h | h | h)
        · exact .inr (.inl h)
        · exact .inl h
        · exact .inr (.inr h)
      · rintro (h | h | h)
        · exact .inr (.inl h)
        · exact .inl h
        · exact .inr (.inr h)
theorem put_sorted {x : S24} : ∀ {l : List S24}, l.Pairwise (fun a b => lessP a b = true) → x ∉ l → (putP l x).Pairwise (fun a b => lessP a b = true)
  | [], _, _ => by simp [putP]
  | y :: ys, h, hn => by
    obtain ⟨h1, h2⟩ := List.pairwise_cons.1 h
    have hxy : x ≠ y := fun e => hn (e ▸ List.mem_cons_self)
    unfold putP
    by_cases hl : lessP x y = true
    · rw [if_pos hl]
      refine List.pairwise_cons.2 ⟨fun z hz => ?_, h⟩
      rcases List.mem_cons.1 hz with rfl | hz
      · exact hl
      · exact lessP_trans hl (h1 z hz)
    · rw [if_neg hl]
      refine List.pairwise_cons.2 ⟨fun z hz => ?_, put_sorted h2 (fun hm => hn (List.mem_cons_of_mem _ hm))⟩
      rcases mem_put.1 hz with rfl | hz
      · exact lessP_total hl hxy
      · exact h1 z hz
theorem sorted_eq : ∀ {a b : List S24}, a.Pairwise (fun a b => lessP a b = true) → b.Pairwise (fun a b => lessP a b = true) → (∀ x, x ∈ a ↔ x ∈ b) → a = b
  | [], [], _, _, _ => rfl
  | [], y :: b, _, _, h => absurd ((h y).2 List.mem_cons_self) (by simp)
  | x :: a, [], _, _, h => absurd ((h x).1 List.mem_cons_self) (by simp)
  | x :: a, y :: b, ha, hb, h => by
    obtain ⟨a1, a2⟩ := List.pairwise_cons.1 ha
    obtain ⟨b1, b2⟩ := List.pairwise_cons.1 hb
    have e : x = y := by
      rcases List.mem_cons.1 ((h x).1 List.mem_cons_self) with h1 | h1
      · exact h1
      · rcases List.mem_cons.1 ((h y).2 List.mem_cons_self) with h2 | h2
        · exact h2.symm
        · exact absurd (lessP_trans (a1 y h2) (b1 x h1)) (lessP_irrefl x)
    subst e
    rw [sorted_eq a2 b2 (fun z => ?_)]
    constructor
    · intro hz
      rcases List.mem_cons.1 ((h z).1 (List.mem_cons_of_mem _ hz)) with rfl | h1
      · exact absurd (a1 z hz) (lessP_irrefl z)
      · exact h1
    · intro hz
      rcases List.mem_cons.1 ((h z).2 (List.mem_cons_of_mem _ hz)) with rfl | h1
      · exact absurd (b1 z hz) (lessP_irrefl z)
      · exact h1
theorem mem_levels {q : List Int} {l : List ByteArray} {n : Nat} {x : S24} : x ∈ levels q l 0 n ↔ ∃ w ∈ l, far q (runes w 0) < n ∧ x = ⟨(far q (runes w 0) : Int), w⟩ := by
  unfold levels
  rw [List.mem_flatMap]
  constructor
  · rintro ⟨d, hd, hx⟩
    unfold level near at hx
    obtain ⟨w, hw, rfl⟩ := List.mem_map.1 hx
    obtain ⟨hw1, hw2⟩ := List.mem_filter.1 hw
    have hw2 : far q (runes w 0) = d := by simpa using hw2
    have := (List.mem_range'_1.1 hd).2
    exact ⟨w, hw1, by omega, by rw [hw2]⟩
  · rintro ⟨w, hw, hlt, rfl⟩
    refine ⟨far q (runes w 0), List.mem_range'_1.2 ⟨Nat.zero_le _, by omega⟩, ?_⟩
    unfold level near
    exact List.mem_map.2 ⟨w, List.mem_filter.2 ⟨hw, by simp⟩, rfl⟩
theorem levels_len (q : List Int) (l : List ByteArray) : ∀ (n d : Nat), (levels q l d n).length ≤ n * l.length
  | 0, d => by simp [levels]
  | n + 1, d => by
    rw [levels_succ, List.length_append, Nat.succ_mul]
    have := level_len q l d
    have := levels_len q l n (d + 1)
    omega
theorem levels_put {q : List Int} {pre : List ByteArray} {w : ByteArray} (h : (pre ++ [w]).Pairwise ltB) (n : Nat) :
    levels q (pre ++ [w]) 0 n = if far q (runes w 0) < n then putP (levels q pre 0 n) ⟨(far q (runes w 0) : Int), w⟩ else levels q pre 0 n := by
  obtain ⟨h1, _, h3⟩ := List.pairwise_append.1 h
  have hnm : ∀ d : Int, (⟨d, w⟩ : S24) ∉ levels q pre 0 n := by
    intro d hm
    obtain ⟨v, hv, _, e⟩ := mem_levels.1 hm
    have : w = v := congrArg S24.f1 e
    subst this
    exact ltB.irrefl _ (h3 w hv w (List.mem_singleton.2 rfl))
  by_cases hlt : far q (runes w 0) < n
  · rw [if_pos hlt]
    refine sorted_eq (levels_sorted q h n 0) (put_sorted (levels_sorted q h1 n 0) (hnm _)) (fun x => ?_)
    rw [mem_put, mem_levels, mem_levels]
    constructor
    · rintro ⟨v, hv, h4, rfl⟩
      rcases List.mem_append.1 hv with hv | hv
      · exact .inr ⟨v, hv, h4, rfl⟩
      · rw [List.mem_singleton.1 hv]; exact .inl rfl
    · rintro (rfl | ⟨v, hv, h4, rfl⟩)
      · exact ⟨w, by simp, hlt, rfl⟩
      · exact ⟨v, List.mem_append_left _ hv, h4, rfl⟩
  · rw [if_neg hlt]
    refine sorted_eq (levels_sorted q h n 0) (levels_sorted q h1 n 0) (fun x => ?_)
    rw [mem_levels, mem_levels]
    constructor
    · rintro ⟨v, hv, h4, rfl⟩
      rcases List.mem_append.1 hv with hv | hv
      · exact ⟨v, hv, h4, rfl⟩
      · rw [List.mem_singleton.1 hv] at h4; exact absurd h4 hlt
    · rintro ⟨v, hv, h4, rfl⟩
      exact ⟨v, List.mem_append_left _ hv, h4, rfl⟩
theorem refall_ev {l : List ByteArray} (hg : GoodW l) (hb : ∀ w ∈ l, w.size ≤ 1000000) {s : ByteArray} (hs : s.size ≤ 1000000) (ha : isAsked s) (k : Nat) (hk : k ≤ 4) : Ev (fun K => inkhornref10_All.f K l s (k : Int)) (levels (runes s 0) l 0 (k + 1)) := by
  have hlen := hg.len
  have key : ∀ (d i : Nat), i + d = l.length → Ev (fun K => inkhornref10_All.l0 K l s (k : Int) (levels (runes s 0) (l.take i) 0 (k + 1)) (i : Int)) (levels (runes s 0) l 0 (k + 1)) := by
    intro d
    induction d with
    | zero =>
      intro i hi
      rw [List.take_of_length_le (by omega)]
      exact Ev.step (f := fun _ => some _) (fun K => by simp only [inkhornref10_All.l0]; rw [if_neg (by omega)]) (Ev.now _)
    | succ d ih =>
      intro i hi
      have hil : i < l.length := by omega
      have hm : l[i] ∈ l := List.getElem_mem hil
      have hw := hg.words _ hm
      have hd := refdist_ev (hb _ hm) hs hw.1 ha.1 (Nat.le_trans hw.2.2 (by omega)) ha.2
      rw [far_swap] at hd
      refine Ev.step (fun K => by simp only [inkhornref10_All.l0]; rw [if_pos (by omega), if_pos (by omega), rdOf_nat _ _ _ hil, wr64 _ (by omega) (by omega)]) (Ev.bind hd ?_)
      have e : l.take (i + 1) = l.take i ++ [l[i]] := by rw [List.take_add_one, List.getElem?_eq_getElem hil]; rfl
      have hp : (l.take i ++ [l[i]]).Pairwise ltB := by rw [← e]; exact hg.sorted.sublist (List.take_sublist _ _)
      have hput := levels_put (q := runes s 0) hp (k + 1)
      have := ih (i + 1) (by omega)
      rw [e, hput] at this
      by_cases hlt : far (runes s 0) (runes l[i] 0) < k + 1
      · rw [if_pos hlt] at this
        refine Ev.congr (fun K => by rw [if_pos (by omega), if_pos (by omega)]) (Ev.bind (put_ev (levels (runes s 0) (l.take i) 0 (k + 1)) ⟨(far (runes s 0) (runes l[i] 0) : Int), l[i]⟩ ?_ (hb _ hm) ?_) this)
        · have h1 := levels_len (runes s 0) (l.take i) (k + 1) 0
          have h2 : (l.take i).length ≤ 60 := by rw [List.length_take]; omega
          have h3 : (k + 1) * (l.take i).length ≤ 5 * 60 := Nat.mul_le_mul (by omega) h2
          omega
        · intro y hy
          obtain ⟨v, hv, _, rfl⟩ := mem_levels.1 hy
          exact hb v (List.mem_of_mem_take hv)
      · rw [if_neg hlt] at this
        exact Ev.congr (fun K => by rw [if_pos (by omega), if_neg (by omega)]; rfl) this
  have := key l.length 0 (by omega)
  have e0 : levels (runes s 0) (l.take 0) 0 (k + 1) = [] := by
    have h1 := levels_len (runes s 0) (l.take 0) (k + 1) 0
    rw [List.take_zero, List.length_nil, Nat.mul_zero] at h1
    rw [List.take_zero]
    exact List.length_eq_zero_iff.1 (by omega)
  rw [e0] at this
  exact this
theorem refskip_ev (first : Bool) {af x : S24} (ha : af.f1.size ≤ 1000000) (hx : x.f1.size ≤ 1000000) : Ev (fun K => ref11_skip K first af x) (keepP first af x) := by
  unfold ref11_skip keepP
  cases first with
  | true => exact Ev.now _
  | false => exact refless_ev ha hx
theorem refrest_ev (first : Bool) {af : S24} (ha : af.f1.size ≤ 1000000) : ∀ (all acc : List S24), (∀ x ∈ all, x.f1.size ≤ 1000000) → acc.length + all.length ≤ 1000000 → Ev (fun K => ref11_Next.l0 K first af acc all) (acc ++ all.filter (keepP first af))
  | [], acc, _, _ => by simp only [ref11_Next.l0, List.filter_nil, List.append_nil]; exact Ev.now _
  | x :: xs, acc, hx, hl => by
    simp only [List.length_cons] at hl
    simp only [ref11_Next.l0]
    refine Ev.bind (refskip_ev first ha (hx x List.mem_cons_self)) ?_
    cases hk : keepP first af x with
    | true =>
      have := refrest_ev first ha xs (acc ++ [x]) (fun y hy => hx y (List.mem_cons_of_mem _ hy)) (by rw [List.length_append, List.length_singleton]; omega)
      rw [List.append_assoc, List.singleton_append] at this
      rw [List.filter_cons_of_pos hk]
      exact Ev.congr (fun K => by rw [if_pos rfl, if_pos (by omega)]) this
    | false =>
      have := refrest_ev first ha xs acc (fun y hy => hx y (List.mem_cons_of_mem _ hy)) (by omega)
      rw [List.filter_cons_of_neg (by rw [hk]; simp)]
      exact Ev.congr (fun K => by rw [if_neg (by simp)]) this
theorem refnext_ev {l : List ByteArray} (hg : GoodW l) (hb : ∀ w ∈ l, w.size ≤ 1000000) {s : ByteArray} (hs : s.size ≤ 1000000) (k : Int) (first : Bool) {af : S24} (ha : af.f1.size ≤ 1000000) (batch : Int) : Ev (fun K => ref11_Next.f K l s k first af batch) (nextP s k l first af batch) := by
  unfold ref11_Next.f
  refine Ev.bind (refasked_ev hs) ?_
  by_cases hm : mayAsk s k
  · obtain ⟨h1, h2, h3⟩ := hm
    obtain ⟨n, rfl⟩ : ∃ n : Nat, k = (n : Int) := ⟨k.toNat, by omega⟩
    have hm : mayAsk s (n : Int) := ⟨h1, h2, h3⟩
    refine Ev.congr (fun K => by rw [if_pos ⟨decide_eq_true h1, h2, h3⟩]) (Ev.bind (refall_ev hg hb hs h1 n (by omega)) ?_)
    have hlen := levels_len (runes s 0) l (n + 1) 0
    have h4 : (n + 1) * l.length ≤ 5 * 60 := Nat.mul_le_mul (by omega) hg.len
    have := refrest_ev first ha (levels (runes s 0) l 0 (n + 1)) [] (fun x hx => by obtain ⟨v, hv, _, rfl⟩ := mem_levels.1 hx; exact hb v hv) (by simp only [List.length_nil]; omega)
    refine Ev.bind this ?_
    unfold nextP restP allP
    rw [if_pos hm, List.nil_append, show ((n : Int)).toNat = n by omega]
    exact Ev.now _
  · unfold nextP restP allP
    rw [if_neg hm]
    refine Ev.congr (f := fun _ => some _) (fun K => by rw [if_neg (fun h => hm ⟨of_decide_eq_true h.1, h.2.1, h.2.2⟩)]) ?_
    simp
    exact Ev.now _
end Go.Proofs.Ytklidannncajiaa.OW
