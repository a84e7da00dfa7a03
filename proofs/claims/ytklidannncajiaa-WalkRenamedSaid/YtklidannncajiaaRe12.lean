/- What the row of the law WalkRenamed leans on: contracts of functions and plain laws, each for all inputs that its own theorem names. -/
import Derived.Test.YtklidannncajiaaRe11
import Derived.Test.YtklidannncajiaaRe9
import Derived.Test.YtklidannncajiaaRe0
import Derived.Test.YtklidannncajiaaRe1
import Derived.Test.YtklidannncajiaaRe8
import Derived.Test.YtklidannncajiaaRe10
import Derived.Sort.Lot0
import Derived.Sort.LotA
import Derived.Shelf.SlSortCmp.KitK
import Derived.Sort.WalkA
import Derived.Laws.Cover4
import Derived.Lib.SmallJoins
import Derived.Shelf.SlSortCmp.NoneTotal
import Derived.Shelf.SlGeneric
import Derived.Ground.SlsfProg
import Derived.Test.YtklidannncajiaaProg
import Derived.Sort.Grow
namespace Go.Proofs.Ytklidannncajiaa.OW
open Go.RowKit Go.Proofs.YtklidannncajiaaW.PrintWords Go.Proofs.YtklidannncajiaaW.PrintLast Go.Proofs.YtklidannncajiaaW.PrintMore Go.Proofs.Ytklidannncajiaa.Am
set_option linter.unusedVariables false
set_option linter.unusedSimpArgs false

theorem sameItems_ev (l : List S24) (hl : l.length ≤ 1000000) : Ev (fun K => inkhornlaw0_SameItems.f K l l) true := by
  have key : ∀ (d i : Nat), i + d = l.length → Ev (fun K => inkhornlaw0_SameItems.l0 K l l (i : Int)) true := by
    intro d
    induction d with
    | zero => intro i hi; exact Ev.step (f := fun _ => some true) (fun K => by simp only [inkhornlaw0_SameItems.l0]; rw [if_neg (by omega)]) (Ev.now _)
    | succ d ih =>
      intro i hi
      refine Ev.step (fun K => ?_) (ih (i + 1) (by omega))
      simp only [inkhornlaw0_SameItems.l0]
      rw [if_pos (by omega), if_pos (by omega), if_pos (by omega), if_neg (by simp), wr64 _ (by omega) (by omega)]
      rfl
  unfold inkhornlaw0_SameItems.f
  simp only [if_true]
  exact key l.length 0 (by omega)
def wordsA : List ByteArray := [⟨#[97, 98]⟩, ⟨#[97, 98, 99]⟩, ⟨#[98]⟩, ⟨#[122, 122]⟩]
theorem smallA : Small wordsA := by decide +kernel
theorem goodA : list_Good.f 50 wordsA = some 0 := by decide +kernel
theorem next1 : nextP ⟨#[97, 98]⟩ 1 wordsA true z24 2 = ([⟨0, ⟨#[97, 98]⟩⟩, ⟨1, ⟨#[97, 98, 99]⟩⟩], false) := by kernel_rfl
theorem next2 : nextP ⟨#[97, 98]⟩ 1 wordsA false ⟨1, ⟨#[97, 98, 99]⟩⟩ 2 = ([⟨1, ⟨#[98]⟩⟩], true) := by kernel_rfl
theorem awake_facts : ∃ K ns, graph_Build.f K wordsA = some (0, ns) ∧ walk_Next.f K ns ⟨#[97, 98]⟩ 1 true ⟨0, ⟨#[]⟩⟩ 2 = some ([⟨0, ⟨#[97, 98]⟩⟩, ⟨1, ⟨#[97, 98, 99]⟩⟩], false) ∧
    walk_Next.f K ns ⟨#[97, 98]⟩ 1 false ⟨1, ⟨#[97, 98, 99]⟩⟩ 2 = some ([⟨1, ⟨#[98]⟩⟩], true) ∧ inkhornlaw0_SameItems.f K [⟨0, ⟨#[97, 98]⟩⟩, ⟨1, ⟨#[97, 98, 99]⟩⟩] [⟨0, ⟨#[97, 98]⟩⟩, ⟨1, ⟨#[97, 98, 99]⟩⟩] = some true ∧ inkhornlaw0_SameItems.f K [⟨1, ⟨#[98]⟩⟩] [⟨1, ⟨#[98]⟩⟩] = some true := by
  obtain ⟨e, ns, ⟨K0, h0⟩, hg⟩ := build_ev smallA
  have hgood : Ev (fun K => list_Good.f K wordsA) 0 := Ev.of (g := fun K => list_Good.f K wordsA) (fun k => list_Good.mono _ k) goodA
  obtain ⟨K1, h1⟩ := hgood
  have e0 : e = 0 := by
    have h2 : graph_Build.f (max K0 K1) wordsA = some (e, ns) := h0 _ (by omega)
    have h3 : list_Good.f (max K0 K1) wordsA = some 0 := h1 _ (by omega)
    unfold graph_Build.f at h2
    rw [h3, Option.bind_some, if_pos rfl] at h2
    split at h2
    · exact (Prod.mk.inj (Option.some.inj h2)).1.symm
    · obtain ⟨y, _, hy⟩ := Option.bind_eq_some_iff.1 h2
      exact (Prod.mk.inj (Option.some.inj hy)).1.symm
  obtain ⟨hw, hG⟩ := hg e0
  subst e0
  have n1 := next_ev hG ⟨#[97, 98]⟩ (by decide) 1 true z24 2
  have n2 := next_ev hG ⟨#[97, 98]⟩ (by decide) 1 false ⟨1, ⟨#[97, 98, 99]⟩⟩ 2
  rw [next1] at n1
  rw [next2] at n2
  obtain ⟨K2, h2⟩ := n1
  obtain ⟨K3, h3⟩ := n2
  obtain ⟨K4, h4⟩ := sameItems_ev [⟨0, ⟨#[97, 98]⟩⟩, ⟨1, ⟨#[97, 98, 99]⟩⟩] (by simp)
  obtain ⟨K5, h5⟩ := sameItems_ev [⟨1, ⟨#[98]⟩⟩] (by simp)
  exact ⟨max K0 (max K2 (max K3 (max K4 K5))), ns, h0 _ (by omega), h2 _ (by omega), h3 _ (by omega), h4 _ (by omega), h5 _ (by omega)⟩
set_option maxHeartbeats 4000000 in
set_option maxRecDepth 100000 in
theorem awake_calls (w : World) : Calls Try.prog 13 #[] w fun e w' => e = .returned (.bool true) ∧ Below w.heap.size w w' := by
  obtain ⟨K, ns, hb, hn1, hn2, hs1, hs2⟩ := awake_facts
  have HB := Aside0.mk hb
  have HN1 := Aside0.mk hn1
  have HN2 := Aside0.mk hn2
  have HS1 := Aside0.mk hs1
  have HS2 := Aside0.mk hs2
  clear hb hn1 hn2 hs1 hs2
  go_enter Try.func13, Try.ntmps13
  go_wp2_with (first | ((with_reducible refine gate_dst (N := 8) rfl ?_); refine Kd.R_lit (w0 := w) Kd.string w.heap.size 9 ?hg (N := 8) ?hd (xs := wordsA) (inner := [.string ⟨#[97, 98]⟩, .string ⟨#[97, 98, 99]⟩, .string ⟨#[98]⟩, .string ⟨#[122, 122]⟩]) (ok := fun _ => True) (okp := fun _ => True) ?hr ?hp (fun _ hk => hk) trivial (Below.refl _ _) (Nat.le_refl _) (by decide) ?_; (case hd => rfl); (case hg => rfl); (case hr => first | (go_simp; done) | (go_simp; rfl)); (case hp => exact (Reps.one (show Kd.M Kd.string _ _ _ _ _ from rfl) (Reps.one (show Kd.M Kd.string _ _ _ _ _ from rfl) (Reps.one (show Kd.M Kd.string _ _ _ _ _ from rfl) (Reps.one (show Kd.M Kd.string _ _ _ _ _ from rfl) (Reps.none _ _)))))); intro v1 w1 ho hb1 _ _; obtain ⟨A1, c1, e1⟩ := Kd.R_slice ho; subst e1; have HO1 := Aside0.mk ho; have HB1 := Aside0.mk hb1; clear ho hb1) | ((with_reducible refine gate_callee (f := 14) rfl ?_); (try (refine gate_guard (by rfl) ?_; dsimp only)); refine goesL_ (some 9) rfl rfl Try.func14 (by kernel_rfl) rfl #[.slice A1 wordsA.length c1] rfl (by (try simp only [List.map_toArray, List.map_cons, List.map_nil]); first | done | rfl) ?_; (with_reducible refine (graph_Build.calls K A1 c1 wordsA ns w1 (Kd.R_reads' HO1.out).2.2 (Kd.R_reads' HO1.out).2.1 HB.out).mono ?_); rintro e w2 ⟨g, rfl, _, hg, hb2⟩; refine ⟨_, rfl, ?_⟩; have HG2 := Aside0.mk hg; have HB2 := Aside0.mk (below_step HB1.out hb2); clear hg hb2 HO1) | ((with_reducible refine gate_callee (f := 15) rfl ?_); (try (refine gate_guard (by rfl) ?_; dsimp only)); refine goesL_ (some 15) rfl rfl Try.func15 (by kernel_rfl) rfl #[.pointer (some ⟨g, 0, none⟩), .string ⟨#[97, 98]⟩, .int .i64 1, .bool true, .agg #[.int .i64 0, .string ⟨#[]⟩], .int .i64 2] rfl (by (try simp only [List.map_toArray, List.map_cons, List.map_nil]); first | done | rfl) ?_; (with_reducible refine (walk_Next.calls K g ns ⟨#[97, 98]⟩ 1 true ⟨0, ⟨#[]⟩⟩ 2 [⟨0, ⟨#[97, 98]⟩⟩, ⟨1, ⟨#[97, 98, 99]⟩⟩] false _ HG2.out HN1.out).mono ?_); rintro e w3 ⟨v3, rfl, ho, hb2⟩; refine ⟨_, rfl, ?_⟩; obtain ⟨A3, c3, e3⟩ := Kd.R_slice ho; subst e3; have HO3 := Aside0.mk ho; have HG3 := Aside0.mk (HG2.out.below hb2); have HB3 := Aside0.mk (below_step HB2.out hb2); clear ho hb2) | ((with_reducible refine gate_callee (f := 15) rfl ?_); (try (refine gate_guard (by rfl) ?_; dsimp only)); refine goesL_ (some 21) rfl rfl Try.func15 (by kernel_rfl) rfl #[.pointer (some ⟨g, 0, none⟩), .string ⟨#[97, 98]⟩, .int .i64 1, .bool false, .agg #[.int .i64 1, .string ⟨#[97, 98, 99]⟩], .int .i64 2] rfl (by (try simp only [List.map_toArray, List.map_cons, List.map_nil]); first | done | rfl) ?_; (with_reducible refine (walk_Next.calls K g ns ⟨#[97, 98]⟩ 1 false ⟨1, ⟨#[97, 98, 99]⟩⟩ 2 [⟨1, ⟨#[98]⟩⟩] true _ HG3.out HN2.out).mono ?_); rintro e w4 ⟨v4, rfl, ho, hb2⟩; refine ⟨_, rfl, ?_⟩; obtain ⟨A4, c4, e4⟩ := Kd.R_slice ho; subst e4; have HO4 := Aside0.mk ho; have HG4 := Aside0.mk (HG3.out.below hb2); have HB4 := Aside0.mk (below_step HB3.out hb2); have HO3' := Aside0.mk (Kd.R_below HO3.out hb2); clear ho hb2) | ((with_reducible refine gate_dst (N := 27) rfl ?_); (try (refine gate_guard (by rfl) ?_; dsimp only)); refine Kd.R_lit (w0 := w4) k24 w4.heap.size 24 ?hg (N := 27) ?hd (xs := ([⟨0, ⟨#[97, 98]⟩⟩, ⟨1, ⟨#[97, 98, 99]⟩⟩] : List S24)) (inner := [.int .i64 0, .string ⟨#[97, 98]⟩, .int .i64 1, .string ⟨#[97, 98, 99]⟩]) (ok := fun _ => True) (okp := fun _ => True) ?hr ?hp (fun _ hk => hk) trivial (Below.refl _ _) (Nat.le_refl _) (by decide) ?_; (case hd => rfl); (case hg => rfl); (case hr => first | (go_simp; done) | (go_simp; rfl)); (case hp => exact (Reps.c2 (show Kd.M k24 _ _ _ _ _ from k24_mkM _ _ _ (⟨0, ⟨#[97, 98]⟩⟩ : S24)) (Reps.c2 (show Kd.M k24 _ _ _ _ _ from k24_mkM _ _ _ (⟨1, ⟨#[97, 98, 99]⟩⟩ : S24)) (Reps.none _ _)))); intro v5 w5 ho hb2 _ _; obtain ⟨A5, c5, e5⟩ := Kd.R_slice ho; subst e5; have HO5 := Aside0.mk ho; have HO35 := Aside0.mk (Kd.R_below HO3'.out hb2); have HO45 := Aside0.mk (Kd.R_below HO4.out hb2); have HB5 := Aside0.mk (below_step HB4.out hb2); clear ho hb2) | ((with_reducible refine gate_callee (f := 17) rfl ?_); (try (refine gate_guard (by rfl) ?_; dsimp only)); refine goesL_ (some 28) rfl rfl Try.func17 (by kernel_rfl) rfl #[.slice A3 ([⟨0, ⟨#[97, 98]⟩⟩, ⟨1, ⟨#[97, 98, 99]⟩⟩] : List S24).length c3, .slice A5 ([⟨0, ⟨#[97, 98]⟩⟩, ⟨1, ⟨#[97, 98, 99]⟩⟩] : List S24).length c5] rfl (by (try simp only [List.map_toArray, List.map_cons, List.map_nil]); first | done | rfl) ?_; (with_reducible refine (inkhornlaw0_SameItems.calls K A3 c3 [⟨0, ⟨#[97, 98]⟩⟩, ⟨1, ⟨#[97, 98, 99]⟩⟩] A5 c5 [⟨0, ⟨#[97, 98]⟩⟩, ⟨1, ⟨#[97, 98, 99]⟩⟩] true _ (Kd.R_reads' HO35.out).2.2 (Kd.R_reads' HO35.out).2.1 (Kd.R_reads' HO5.out).2.2 (Kd.R_reads' HO5.out).2.1 HS1.out).mono ?_); rintro e w6 ⟨rfl, hd⟩; refine ⟨_, rfl, ?_⟩; have hb2 := hd.below; have HB6 := Aside0.mk (below_step HB5.out hb2); have HO46 := Aside0.mk (Kd.R_below HO45.out hb2); clear hd hb2) | ((with_reducible refine gate_dst (N := 36) rfl ?_); (try (refine gate_guard (by rfl) ?_; dsimp only)); refine Kd.R_lit (w0 := w6) k24 w6.heap.size 24 ?hg (N := 36) ?hd (xs := ([⟨1, ⟨#[98]⟩⟩] : List S24)) (inner := [.int .i64 1, .string ⟨#[98]⟩]) (ok := fun _ => True) (okp := fun _ => True) ?hr ?hp (fun _ hk => hk) trivial (Below.refl _ _) (Nat.le_refl _) (by decide) ?_; (case hd => rfl); (case hg => rfl); (case hr => first | (go_simp; done) | (go_simp; rfl)); (case hp => exact (Reps.c2 (show Kd.M k24 _ _ _ _ _ from k24_mkM _ _ _ (⟨1, ⟨#[98]⟩⟩ : S24)) (Reps.none _ _))); intro v7 w7 ho hb2 _ _; obtain ⟨A7, c7, e7⟩ := Kd.R_slice ho; subst e7; have HO7 := Aside0.mk ho; have HO47 := Aside0.mk (Kd.R_below HO46.out hb2); have HB7 := Aside0.mk (below_step HB6.out hb2); clear ho hb2) | ((with_reducible refine gate_callee (f := 17) rfl ?_); (try (refine gate_guard (by rfl) ?_; dsimp only)); refine goesL_ (some 37) rfl rfl Try.func17 (by kernel_rfl) rfl #[.slice A4 ([⟨1, ⟨#[98]⟩⟩] : List S24).length c4, .slice A7 ([⟨1, ⟨#[98]⟩⟩] : List S24).length c7] rfl (by (try simp only [List.map_toArray, List.map_cons, List.map_nil]); first | done | rfl) ?_; (with_reducible refine (inkhornlaw0_SameItems.calls K A4 c4 [⟨1, ⟨#[98]⟩⟩] A7 c7 [⟨1, ⟨#[98]⟩⟩] true _ (Kd.R_reads' HO47.out).2.2 (Kd.R_reads' HO47.out).2.1 (Kd.R_reads' HO7.out).2.2 (Kd.R_reads' HO7.out).2.1 HS2.out).mono ?_); rintro e w8 ⟨rfl, hd⟩; refine ⟨_, rfl, ?_⟩; have hb2 := hd.below; have HB8 := Aside0.mk (below_step HB7.out hb2); clear hd hb2))
  go_ret
  exact ⟨rfl, HB8.out⟩
end Go.Proofs.Ytklidannncajiaa.OW

namespace Go.Proofs.Ytklidannncajiaa.OW
open Go.RowKit Go.Proofs.YtklidannncajiaaW.PrintWords Go.Proofs.YtklidannncajiaaW.PrintLast Go.Proofs.YtklidannncajiaaW.PrintMore Go.Proofs.Ytklidannncajiaa.Am

theorem lessP_iff {a b : S24} : lessP a b = true ↔ (a.f0 < b.f0 ∨ (a.f0 = b.f0 ∧ ltB a.f1 b.f1)) := by unfold lessP; exact decide_eq_true_iff
theorem lessP_irrefl (a : S24) : ¬ lessP a a = true := by
  rw [lessP_iff]
  rintro (h | ⟨_, h⟩)
  · omega
  · exact ltB.irrefl _ h
theorem level_sorted (q : List Int) {l : List ByteArray} (h : l.Pairwise ltB) (d : Nat) : (level q l d).Pairwise (fun a b => lessP a b = true) := by
  unfold level near
  exact (h.filter _).map _ (fun a b hab => lessP_iff.2 (.inr ⟨rfl, hab⟩))
theorem level_f0 {q : List Int} {l : List ByteArray} {d : Nat} {x : S24} (h : x ∈ level q l d) : x.f0 = d := by
  unfold level at h
  obtain ⟨y, _, rfl⟩ := List.mem_map.1 h
  rfl
theorem levels_f0 {q : List Int} {l : List ByteArray} {x : S24} {d n : Nat} (h : x ∈ levels q l d n) : (d : Int) ≤ x.f0 := by
  unfold levels at h
  obtain ⟨e, he, hx⟩ := List.mem_flatMap.1 h
  have := (List.mem_range'_1.1 he).1
  rw [level_f0 hx]
  omega
theorem levels_sorted (q : List Int) {l : List ByteArray} (h : l.Pairwise ltB) : ∀ (n d : Nat), (levels q l d n).Pairwise (fun a b => lessP a b = true)
  | 0, d => by simp [levels]
  | n + 1, d => by
    rw [levels_succ]
    refine List.pairwise_append.2 ⟨level_sorted q h d, levels_sorted q h n (d + 1), fun a ha b hb => lessP_iff.2 (.inl ?_)⟩
    have := level_f0 ha
    have := levels_f0 hb
    omega
/-! ### a text that parts in length from all words -/
end Go.Proofs.Ytklidannncajiaa.OW

namespace Go.Proofs.Ytklidannncajiaa.OW
open Go.RowKit Go.Proofs.YtklidannncajiaaW.PrintWords Go.Proofs.YtklidannncajiaaW.PrintLast Go.Proofs.YtklidannncajiaaW.PrintMore Go.Proofs.Ytklidannncajiaa.Am
set_option linter.unusedVariables false
set_option linter.unusedSimpArgs false

/-! ### Put -/
theorem mem_levels {q : List Int} {l : List ByteArray} {n : Nat} {x : S24} : x ∈ levels q l 0 n ↔ ∃ w ∈ l, far q (runes w 0) < n ∧ x = ⟨(far q (runes w 0) : Int), w⟩ := by
  unfold levels
  rw [List.mem_flatMap]
  constructor
  · rintro ⟨d, hd, hx⟩
    unfold level near at hx
    obtain ⟨w, hw, rfl⟩ := List.mem_map.1 hx
    obtain ⟨hw1, hw2⟩ := List.mem_filter.1 hw
    have hw2 : far q (runes w 0) = d := by simpa using hw2
    have := (List.mem_range'_1.1 hd).2
    exact ⟨w, hw1, by omega, by rw [hw2]⟩
  · rintro ⟨w, hw, hlt, rfl⟩
    refine ⟨far q (runes w 0), List.mem_range'_1.2 ⟨Nat.zero_le _, by omega⟩, ?_⟩
    unfold level near
    exact List.mem_map.2 ⟨w, List.mem_filter.2 ⟨hw, by simp⟩, rfl⟩
end Go.Proofs.Ytklidannncajiaa.OW

namespace Go.Proofs.Ytklidannncajiaa.OW
open Go.Sort
set_option linter.unusedVariables false
set_option linter.unusedSimpArgs false

section
variable {α : Type}
end
section
variable {α : Type} [Inhabited α]
variable (le : α → α → Prop)
/-- From place a on, below b, they rise. -/
def Seg (xs : Array α) (a b : Nat) : Prop := ∀ i j, a ≤ i → i < j → j < b → le xs[i]! xs[j]!
variable {le}
theorem Seg.part {xs : Array α} {a b a' b' : Nat} (h : Seg le xs a b) (ha : a ≤ a') (hb : b' ≤ b) : Seg le xs a' b' := fun i j h1 h2 h3 => h i j (by omega) h2 (by omega)
theorem Seg.same {xs ys : Array α} {a b : Nat} (h : Seg le xs a b) (he : ∀ t, a ≤ t → t < b → ys[t]! = xs[t]!) : Seg le ys a b := fun i j h1 h2 h3 => by
  rw [he i h1 (by omega), he j (by omega) h3]; exact h i j h1 h2 h3
theorem Seg.single {xs : Array α} {a b : Nat} (h : b ≤ a + 1) : Seg le xs a b := fun i j h1 h2 h3 => by omega

/-! the turn of two neighbours: places a to m, and m to b -/
/-! the merge -/
theorem Seg.join {xs : Array α} {a m b : Nat} (h1 : Seg le xs a m) (h2 : Seg le xs m b) (hx : ∀ i j, a ≤ i → i < m → m ≤ j → j < b → le xs[i]! xs[j]!) : Seg le xs a b := fun i j h3 h4 h5 => by
  by_cases hj : j < m
  · exact h1 i j h3 h4 hj
  · by_cases hi : i < m
    · exact hx i j h3 hi (by omega) h5
    · exact h2 i j (by omega) h4 h5
/-! one put in among many -/
end
end Go.Proofs.Ytklidannncajiaa.OW

namespace Go.Proofs.Ytklidannncajiaa.OW
open Go.RowKit Go.Sort Go.Proofs.YtklidannncajiaaW.PrintWords Go.Proofs.YtklidannncajiaaW.PrintLast Go.Proofs.YtklidannncajiaaW.PrintMore
set_option linter.unusedVariables false
set_option linter.unusedSimpArgs false

instance : Inhabited S24 := ⟨z24⟩
/-- W is a world of the sort's: the row (block g) holds xs, all other old blocks are as they were in w0. -/
structure SI (w0 : World) (base g n cap : Nat) (ok : Nat → Prop) (xs : Array S24) (W : World) : Prop where
  own : Kd.R k24 24 W base ok (.slice (some ⟨g, 0, none⟩) n cap) xs.toList
  grown : w0.grownBy W (some g)
  len : xs.size = n
/-- The worlds that come of w by draws and new blocks. -/
structure BelowBy (w : World) where
  wd : World
  be : Below w.heap.size w wd
namespace SI
variable {w0 W W' : World} {base g n cap : Nat} {ok : Nat → Prop} {xs : Array S24}
theorem grown_below (h : w0.grownBy W (some g)) (hb : Below W.heap.size W W') : w0.grownBy W' (some g) :=
  ⟨hb.os.trans h.os, hb.tape.trans h.tape, hb.output.trans h.output, Nat.le_trans h.size hb.size, fun k hk hn => (hb.block k (Nat.lt_of_lt_of_le hk h.size)).trans (h.block k hk hn)⟩
theorem below (h : SI w0 base g n cap ok xs W) (hb : Below W.heap.size W W') : SI w0 base g n cap ok xs W' := ⟨Kd.R_below h.own hb, grown_below h.grown hb, h.len⟩
theorem drew (h : SI w0 base g n cap ok xs W) : SI w0 base g n cap ok xs W.drew := h.below (below_drew (Below.refl _ _))
theorem at_ (h : SI w0 base g n cap ok xs W) (i : Nat) (hi : i < n) : W.cell? ⟨g, i * 2, none⟩ = some (.int .i64 xs[i]!.f0) ∧ W.cell? ⟨g, i * 2 + 1, none⟩ = some (.string xs[i]!.f1) := by
  obtain ⟨c, h1, h2, h3, h4⟩ := Kd.R_elem h.own z24 (i : Int) (by omega) (by omega)
  obtain rfl := k24_openM h2
  have hx : xs.toList.getD i z24 = xs[i]! := by
    have hl := h.len
    rw [getElem!_pos xs i (by omega), List.getD_eq_getElem?_getD, Array.getElem?_toList, Array.getElem?_eq_getElem (by omega)]; rfl
  have e0 := h3 0 _ rfl
  have e1 := h3 1 _ rfl
  rw [Int.toNat_natCast, hx] at e0 e1
  exact ⟨e0, e1⟩
theorem set (h : SI w0 base g n cap ok xs W) (i : Nat) (hi : i < n) (y : S24) : SI w0 base g n cap ok (xs.setIfInBounds i y) ((W.setCell ⟨g, i * 2, none⟩ (.int .i64 y.f0)).setCell ⟨g, i * 2 + 1, none⟩ (.string y.f1)) := by
  obtain ⟨c, h1, h2, h3, h4⟩ := Kd.R_elem h.own z24 (i : Int) (by omega) (by omega)
  obtain ⟨q1, q2⟩ := Kd.R_seg h.own (i : Int) (by omega) (by omega) (seg := [.int .i64 y.f0, .string y.f1]) (j := 0) h1 h3 (show 2 ≤ 2 from by decide) (x' := y) (by obtain rfl := k24_openM h2; exact k24_mkM W base (fun k => ok k ∧ k ≠ g) y) (fun _ hk => hk)
  rw [Int.toNat_natCast] at q1 q2
  refine ⟨?_, ⟨q2.os.trans h.grown.os, q2.tape.trans h.grown.tape, q2.output.trans h.grown.output, Nat.le_trans h.grown.size q2.size, fun k hk hn => (q2.block k (Nat.lt_of_lt_of_le hk h.grown.size) hn).trans (h.grown.block k hk hn)⟩, by rw [Array.size_setIfInBounds]; exact h.len⟩
  rw [Array.toList_setIfInBounds]
  exact q1
end SI
end Go.Proofs.Ytklidannncajiaa.OW

namespace Go.Proofs.Ytklidannncajiaa.OW
open Go.RowKit Go.Lib Go.Sort Go.Proofs.YtklidannncajiaaW.PrintWords Go.Proofs.YtklidannncajiaaW.PrintLast Go.Proofs.YtklidannncajiaaW.PrintMore
set_option linter.unusedVariables false
set_option linter.unusedSimpArgs false

instance (w : World) : Inhabited (BelowBy w) := ⟨⟨w, Below.refl _ _⟩⟩
theorem wp_region_quiet_by {P : Program} {id : Nat} {Q : Exit → Act → World → Prop} {a : Act} {w : World} {l : List Oper} (hm : P.follows .mixedOrders = true) (hB : Region.lexB .any l.toArray = true)
    (h : wpQuiet P l.toArray (fun w' => ∃ p : BelowBy w, w' = p.wd) (fun a' => ∀ w', (∃ p : BelowBy w, w' = p.wd) → Q .normal a' w') l a) : (Code.region id l.toArray true).wp P Q a w :=
  wp_region_quiet (C := fun w' => ∃ p : BelowBy w, w' = p.wd) hm hB ⟨⟨w.drew, below_drew (Below.refl _ _)⟩, rfl⟩ (by simpa using h)
theorem calls_by {P : Program} {f : FuncId} {args : Array Value} {w : World} {p : BelowBy w} {v : Value}
    (h : Calls P f args p.wd fun e w' => e = .returned v ∧ Below p.wd.heap.size p.wd w') : Calls P f args p.wd fun e w'' => e = .returned v ∧ ∃ q : BelowBy w, w'' = q.wd :=
  h.mono fun _ _ ⟨he, hb⟩ => ⟨he, ⟨⟨_, below_step p.be hb⟩, rfl⟩⟩
end Go.Proofs.Ytklidannncajiaa.OW

namespace Go.Proofs.Ytklidannncajiaa.OW
open Go.RowKit Go.Lib Go.Sort Go.Proofs.YtklidannncajiaaW.PrintWords Go.Proofs.YtklidannncajiaaW.PrintLast Go.Proofs.YtklidannncajiaaW.PrintMore Go.Proofs.Ytklidannncajiaa.Am
set_option linter.unusedVariables false
set_option linter.unusedSimpArgs false

def nearI (q : List Int) (k : Nat) (w : ByteArray) : Option S24 := if far q (runes w 0) ≤ k then some ⟨(far q (runes w 0) : Int), w⟩ else none
theorem mem_nearI {q : List Int} {k : Nat} {l : List ByteArray} {x : S24} : x ∈ l.filterMap (nearI q k) ↔ x ∈ levels q l 0 (k + 1) := by
  rw [mem_levels, List.mem_filterMap]
  constructor
  · rintro ⟨w, hw, h⟩
    unfold nearI at h
    split at h
    · rename_i hle
      exact ⟨w, hw, by omega, (Option.some.inj h).symm⟩
    · cases h
  · rintro ⟨w, hw, h, rfl⟩
    exact ⟨w, hw, by unfold nearI; rw [if_pos (by omega)]⟩
theorem nearI_nodup {q : List Int} {k : Nat} {l : List ByteArray} (h : l.Pairwise ltB) : (l.filterMap (nearI q k)).Nodup := by
  refine List.Pairwise.filterMap (nearI q k) (fun a a' hab b h1 b' h2 e => ?_) h
  have e1 : b.f1 = a := by
    unfold nearI at h1
    split at h1
    · exact congrArg S24.f1 (Option.some.inj h1).symm
    · cases h1
  have e2 : b'.f1 = a' := by
    unfold nearI at h2
    split at h2
    · exact congrArg S24.f1 (Option.some.inj h2).symm
    · cases h2
  rw [e, e2] at e1
  subst e1
  exact ltB.irrefl _ hab
/-! the order -/
/-! rank.Sort -/
/-! rank.All -/
end Go.Proofs.Ytklidannncajiaa.OW

namespace Go.Proofs.Ytklidannncajiaa.OW
open Go.RowKit Go.Proofs.YtklidannncajiaaW.PrintWords Go.Proofs.YtklidannncajiaaW.PrintLast Go.Proofs.YtklidannncajiaaW.PrintMore Go.Proofs.Ytklidannncajiaa.Am
set_option linter.unusedVariables false
set_option linter.unusedSimpArgs false

def enc4 (b : UInt8) : List UInt8 := [240, 159, UInt8.ofNat (152 + b.toNat / 64), UInt8.ofNat (128 + b.toNat % 64)]
def up (s : ByteArray) : ByteArray := ⟨(s.data.toList.flatMap enc4).toArray⟩
def Asc (s : ByteArray) : Prop := ∀ b ∈ s.data.toList, b.toNat < 128
theorem up_data (s : ByteArray) : (up s).data.toList = s.data.toList.flatMap enc4 := by simp [up]
theorem flat_len : ∀ l : List UInt8, (l.flatMap enc4).length = 4 * l.length
  | [] => rfl
  | b :: l => by rw [List.flatMap_cons, List.length_append, flat_len l, List.length_cons]; simp [enc4]; omega
theorem up_size (s : ByteArray) : (up s).size = 4 * s.size := by rw [size_list, up_data, flat_len, ← size_list]
theorem asc_cut {s : ByteArray} (h : Asc s) (n : Nat) : Asc (cut s n) := fun b hb => h b (by rw [cut_data] at hb; exact List.mem_of_mem_drop hb)
theorem enc4_inj {b c : UInt8} (hb : b.toNat < 128) (hc : c.toNat < 128) (h : enc4 b = enc4 c) : b = c := by
  unfold enc4 at h
  injection h with _ h
  injection h with _ h
  injection h with h1 h
  injection h with h2 _
  have e1 := congrArg UInt8.toNat h1
  have e2 := congrArg UInt8.toNat h2
  simp only [UInt8.toNat_ofNat'] at e1 e2
  exact UInt8.toNat_inj.1 (by omega)
/-- A text that is not empty: its first byte and the rest. -/
theorem first_byte {s : ByteArray} (h0 : 0 < s.size) : ∃ b r, s.data.toList = b :: r := by
  cases h : s.data.toList with
  | nil => rw [size_list, h] at h0; simp at h0
  | cons b r => exact ⟨b, r, rfl⟩
theorem get_list (s : ByteArray) (i : Nat) : s.get! i = s.data.toList.getD i 0 := by
  show s.data[i]! = _
  rw [List.getD_eq_getElem?_getD, Array.getElem?_toList]
  by_cases h : i < s.data.size
  · rw [getElem!_pos s.data i h, Array.getElem?_eq_getElem h]; rfl
  · rw [getElem!_neg s.data i h, Array.getElem?_eq_none (by omega)]; rfl
theorem decode_asc {s : ByteArray} {b : UInt8} {r : List UInt8} (h : Asc s) (hs : s.data.toList = b :: r) : Utf8.decode s 0 = (b.toNat, 1) := by
  have hb : b.toNat < 128 := h b (by rw [hs]; exact List.mem_cons_self)
  rw [Lib.decode_at]
  simp only [get_list, hs]
  unfold Lib.decodeN
  rw [if_pos (by simpa using hb)]
  rfl
theorem decode_up {s : ByteArray} {b : UInt8} {r : List UInt8} (h : Asc s) (hs : s.data.toList = b :: r) : Utf8.decode (up s) 0 = (128512 + b.toNat, 4) := by
  have hb : b.toNat < 128 := h b (by rw [hs]; exact List.mem_cons_self)
  have hn : 4 ≤ (up s).size - 0 := by rw [up_size, size_list, hs, List.length_cons]; omega
  rw [Lib.decode_at]
  simp only [get_list, up_data, hs, List.flatMap_cons, enc4, List.cons_append, List.nil_append]
  generalize (up s).size - 0 = n at hn ⊢
  have e2 : (UInt8.ofNat (152 + b.toNat / 64)).toNat = 152 + b.toNat / 64 := by rw [UInt8.toNat_ofNat']; omega
  have e3 : (UInt8.ofNat (128 + b.toNat % 64)).toNat = 128 + b.toNat % 64 := by rw [UInt8.toNat_ofNat']; omega
  show Lib.decodeN n (240 : UInt8).toNat (159 : UInt8).toNat (UInt8.ofNat (152 + b.toNat / 64)).toNat (UInt8.ofNat (128 + b.toNat % 64)).toNat = _
  rw [e2, e3, show (240 : UInt8).toNat = 240 from rfl, show (159 : UInt8).toNat = 159 from rfl]
  unfold Lib.decodeN
  rw [if_neg (by omega), if_neg (by omega), if_neg (by omega), if_pos (by omega), if_pos (by omega)]
  exact Prod.ext (by show 240 % 8 * 262144 + 159 % 64 * 4096 + (152 + b.toNat / 64) % 64 * 64 + (128 + b.toNat % 64) % 64 = 128512 + b.toNat; omega) rfl
theorem cut_up {s : ByteArray} {b : UInt8} {r : List UInt8} (hs : s.data.toList = b :: r) : cut (up s) 4 = up (cut s 1) := bytes_ext (by
  rw [cut_data, up_data, up_data, cut_data, hs]
  simp [enc4])
theorem runes_up : ∀ (d : Nat) (s : ByteArray), s.size ≤ d → Asc s → runes (up s) 0 = (runes s 0).map (fun r => r + 128512)
  | 0, s, hd, h => by
    have h0 : s.size = 0 := by omega
    rw [(runes_nil_iff s).2 h0, (runes_nil_iff (up s)).2 (by rw [up_size]; omega)]; rfl
  | d + 1, s, hd, h => by
    by_cases h0 : s.size = 0
    · rw [(runes_nil_iff s).2 h0, (runes_nil_iff (up s)).2 (by rw [up_size]; omega)]; rfl
    · obtain ⟨b, r, hs⟩ := first_byte (show 0 < s.size by omega)
      rw [runes_first s (by omega), runes_first (up s) (by rw [up_size]; omega), decode_asc h hs, decode_up h hs]
      show ((128512 + b.toNat : Nat) : Int) :: runes (cut (up s) 4) 0 = _
      rw [cut_up hs, runes_up d (cut s 1) (by rw [cut_size]; omega) (asc_cut h 1), List.map_cons]
      congr 1
      omega
theorem runes_asc : ∀ (d : Nat) (s : ByteArray), s.size ≤ d → Asc s → (∀ r ∈ runes s 0, 0 ≤ r ∧ r < 128) ∧ (runes s 0).length = s.size
  | 0, s, hd, h => by
    have h0 : s.size = 0 := by omega
    rw [(runes_nil_iff s).2 h0, h0]; simp
  | d + 1, s, hd, h => by
    by_cases h0 : s.size = 0
    · rw [(runes_nil_iff s).2 h0, h0]; simp
    · obtain ⟨b, r, hs⟩ := first_byte (show 0 < s.size by omega)
      have hb : b.toNat < 128 := h b (by rw [hs]; exact List.mem_cons_self)
      obtain ⟨i1, i2⟩ := runes_asc d (cut s 1) (by rw [cut_size]; omega) (asc_cut h 1)
      rw [runes_first s (by omega), decode_asc h hs]
      refine ⟨fun x hx => ?_, ?_⟩
      · rcases List.mem_cons.1 hx with rfl | hx
        · show 0 ≤ ((b.toNat : Nat) : Int) ∧ ((b.toNat : Nat) : Int) < 128; omega
        · exact i1 x hx
      · rw [List.length_cons, i2, cut_size]; omega
theorem asc_clean {s : ByteArray} (h : Asc s) : Clean s := fun hm => by
  have := (runes_asc s.size s (Nat.le_refl _) h).1 _ hm
  omega
theorem up_clean {s : ByteArray} (h : Asc s) : Clean (up s) := fun hm => by
  rw [runes_up s.size s (Nat.le_refl _) h] at hm
  obtain ⟨r, hr, e⟩ := List.mem_map.1 hm
  have := (runes_asc s.size s (Nat.le_refl _) h).1 r hr
  omega
theorem up_word {s : ByteArray} (h : Asc s) (hw : isWord s) : isWord (up s) := ⟨up_clean h, by rw [runes_up s.size s (Nat.le_refl _) h, List.length_map]; exact hw.2⟩
theorem asc_asked {s : ByteArray} (h : Asc s) (hn : s.size ≤ 16) : isAsked s := ⟨asc_clean h, by rw [(runes_asc s.size s (Nat.le_refl _) h).2]; exact hn⟩
theorem up_asked {s : ByteArray} (h : Asc s) (hn : s.size ≤ 16) : isAsked (up s) := ⟨up_clean h, by rw [runes_up s.size s (Nat.le_refl _) h, List.length_map, (runes_asc s.size s (Nat.le_refl _) h).2]; exact hn⟩
/-! ### order -/
theorem cmp_enc4 {b c : UInt8} (hb : b.toNat < 128) (hc : c.toNat < 128) (u v : List UInt8) (h : b < c) : Lib.compareBytes (enc4 b ++ u) (enc4 c ++ v) < 0 := by
  have hlt : b.toNat < c.toNat := UInt8.lt_iff_toNat_lt.1 h
  have e1 : (UInt8.ofNat (152 + b.toNat / 64)).toNat = 152 + b.toNat / 64 := by rw [UInt8.toNat_ofNat']; omega
  have e2 : (UInt8.ofNat (128 + b.toNat % 64)).toNat = 128 + b.toNat % 64 := by rw [UInt8.toNat_ofNat']; omega
  have e3 : (UInt8.ofNat (152 + c.toNat / 64)).toNat = 152 + c.toNat / 64 := by rw [UInt8.toNat_ofNat']; omega
  have e4 : (UInt8.ofNat (128 + c.toNat % 64)).toNat = 128 + c.toNat % 64 := by rw [UInt8.toNat_ofNat']; omega
  unfold enc4
  simp only [List.cons_append, List.nil_append, Lib.compareBytes]
  rw [if_neg (by decide), if_neg (by decide), if_neg (by decide), if_neg (by decide)]
  by_cases q : b.toNat / 64 < c.toNat / 64
  · rw [if_pos (UInt8.lt_iff_toNat_lt.2 (by rw [e1, e3]; omega))]; decide
  · rw [if_neg (fun hh => by have := UInt8.lt_iff_toNat_lt.1 hh; rw [e1, e3] at this; omega), if_neg (fun hh => by have := UInt8.lt_iff_toNat_lt.1 hh; rw [e1, e3] at this; omega),
      if_pos (UInt8.lt_iff_toNat_lt.2 (by rw [e2, e4]; omega))]; decide
theorem cmp_up : ∀ u v : List UInt8, (∀ b ∈ u, b.toNat < 128) → (∀ b ∈ v, b.toNat < 128) → (Lib.compareBytes (u.flatMap enc4) (v.flatMap enc4) < 0 ↔ Lib.compareBytes u v < 0)
  | [], [], _, _ => Iff.rfl
  | [], c :: v, _, _ => by simp [Lib.compareBytes, enc4]
  | b :: u, [], _, _ => by simp [Lib.compareBytes, enc4]
  | b :: u, c :: v, hu, hv => by
    have hb := hu b List.mem_cons_self
    have hc := hv c List.mem_cons_self
    rw [List.flatMap_cons, List.flatMap_cons]
    by_cases h1 : b < c
    · have := cmp_enc4 hb hc (u.flatMap enc4) (v.flatMap enc4) h1
      constructor
      · intro _; unfold Lib.compareBytes; rw [if_pos h1]; decide
      · intro _; exact this
    · by_cases h2 : c < b
      · have := cmp_enc4 hc hb (v.flatMap enc4) (u.flatMap enc4) h2
        rw [cmp_swap] at this
        constructor
        · intro h; omega
        · intro h; unfold Lib.compareBytes at h; rw [if_neg h1, if_pos h2] at h; omega
      · have e : b = c := UInt8.toNat_inj.1 (by
          have g1 : ¬ b.toNat < c.toNat := fun h => h1 (UInt8.lt_iff_toNat_lt.2 h)
          have g2 : ¬ c.toNat < b.toNat := fun h => h2 (UInt8.lt_iff_toNat_lt.2 h)
          omega)
        subst e
        rw [cmp_app, cmp_up u v (fun x hx => hu x (List.mem_cons_of_mem _ hx)) (fun x hx => hv x (List.mem_cons_of_mem _ hx))]
        conv => rhs; unfold Lib.compareBytes
        rw [if_neg h1, if_neg h1]
theorem ltB_up {a b : ByteArray} (ha : Asc a) (hb : Asc b) : ltB (up a) (up b) ↔ ltB a b := by
  unfold ltB
  rw [up_data, up_data]
  exact cmp_up _ _ ha hb
theorem up_inj {a b : ByteArray} (ha : Asc a) (hb : Asc b) (h : up a = up b) : a = b := by
  by_cases h1 : ltB a b
  · have := (ltB_up ha hb).2 h1; rw [h] at this; exact absurd this (ltB.irrefl _)
  · by_cases e : a = b
    · exact e
    · have := (ltB_up hb ha).2 (ltB.total h1 e); rw [h] at this; exact absurd this (ltB.irrefl _)
/-! ### distances -/
theorem al_map (f : Int → Int) {a b : List Int} {n : Nat} (h : Al a b n) : Al (a.map f) (b.map f) n := by
  induction h with
  | nil => exact .nil
  | del x _ ih => rw [List.map_append]; exact .del _ ih
  | ins y _ ih => rw [List.map_append]; exact .ins _ ih
  | sub x y _ ih => rw [List.map_append, List.map_append]; exact .sub _ _ ih
  | keep x _ ih => rw [List.map_append, List.map_append]; exact .keep _ ih
theorem far_map (a b : List Int) : far (a.map (fun r => r + 128512)) (b.map (fun r => r + 128512)) = far a b := by
  refine Nat.le_antisymm (al_map _ (al_far a b)).least ?_
  have h := al_map (fun r => r - 128512) (al_far (a.map (fun r => r + 128512)) (b.map (fun r => r + 128512)))
  rw [List.map_map, List.map_map] at h
  have e : ∀ l : List Int, l.map ((fun r => r - 128512) ∘ fun r => r + 128512) = l := fun l => by
    rw [show ((fun r : Int => r - 128512) ∘ fun r => r + 128512) = id from funext fun r => by show r + 128512 - 128512 = r; omega, List.map_id]
  rw [e, e] at h
  exact h.least
def AscL (l : List ByteArray) : Prop := ∀ s ∈ l, Asc s
def upI (x : S24) : S24 := ⟨x.f0, up x.f1⟩
theorem level_up {q : ByteArray} (hq : Asc q) {l : List ByteArray} (hl : AscL l) (d : Nat) : level (runes (up q) 0) (l.map up) d = (level (runes q 0) l d).map upI := by
  unfold level near
  rw [List.filter_map, List.map_map, List.map_map]
  have e : l.filter ((fun x => decide (far (runes (up q) 0) (runes x 0) = d)) ∘ up) = l.filter (fun x => decide (far (runes q 0) (runes x 0) = d)) := by
    refine List.filter_congr fun x hx => ?_
    show decide (far (runes (up q) 0) (runes (up x) 0) = d) = _
    rw [runes_up q.size q (Nat.le_refl _) hq, runes_up x.size x (Nat.le_refl _) (hl x hx), far_map]
  rw [e]
  rfl
theorem allL_up {q : ByteArray} (hq : Asc q) {l : List ByteArray} (hl : AscL l) (k : Nat) : levels (runes (up q) 0) (l.map up) 0 (k + 1) = (levels (runes q 0) l 0 (k + 1)).map upI := by
  unfold levels
  rw [List.map_flatMap]
  congr 1
  funext d
  exact level_up hq hl d
theorem good_up {l : List ByteArray} (hl : AscL l) (h : GoodW l) : GoodW (l.map up) :=
  ⟨by rw [List.length_map]; exact h.len, fun s hs => by obtain ⟨x, hx, rfl⟩ := List.mem_map.1 hs; exact up_word (hl x hx) (h.words x hx), by
    rw [List.pairwise_map]
    exact h.sorted.imp_of_mem fun ha hb hab => (ltB_up (hl _ ha) (hl _ hb)).2 hab⟩
/-! ### as many nodes -/
structure Sim (st t : Bld) : Prop where
  len : st.ns.length = t.ns.length
  F : ∀ l, l ≠ [] → AscL l → st.F (restsKey l) = t.F (restsKey (l.map up))
theorem map_up_inj {l l' : List ByteArray} (h1 : AscL l) (h2 : AscL l') (h : l.map up = l'.map up) : l = l' := by
  induction l generalizing l' with
  | nil => cases l' with
    | nil => rfl
    | cons x t => cases h
  | cons a u ih => cases l' with
    | nil => cases h
    | cons x t =>
      rw [List.map_cons, List.map_cons] at h
      injection h with h3 h4
      rw [up_inj (h1 a List.mem_cons_self) (h2 x List.mem_cons_self) h3, ih (fun s hs => h1 s (List.mem_cons_of_mem _ hs)) (fun s hs => h2 s (List.mem_cons_of_mem _ hs)) h4]
theorem key_up {l l' : List ByteArray} (n1 : l ≠ []) (n2 : l' ≠ []) (h1 : AscL l) (h2 : AscL l') : restsKey (l.map up) = restsKey (l'.map up) ↔ restsKey l = restsKey l' := by
  constructor
  · intro h
    rw [map_up_inj h1 h2 (key_inj (by simpa using n1) (by simpa using n2) (fun s hs => by obtain ⟨x, hx, rfl⟩ := List.mem_map.1 hs; exact up_clean (h1 x hx)) (fun s hs => by obtain ⟨x, hx, rfl⟩ := List.mem_map.1 hs; exact up_clean (h2 x hx)) h)]
  · intro h
    rw [key_inj n1 n2 (fun s hs => asc_clean (h1 s hs)) (fun s hs => asc_clean (h2 s hs)) h]
theorem Sim.open_ {st t : Bld} (h : Sim st t) {l : List ByteArray} (hn : l ≠ []) (hl : AscL l) : Sim (st.open_ (restsKey l)) (t.open_ (restsKey (l.map up))) where
  len := by simp [Bld.open_, h.len]
  F := fun l' hn' hl' => by
    show (if restsKey l' = restsKey l then _ else _) = (if restsKey (l'.map up) = restsKey (l.map up) then _ else _)
    by_cases e : restsKey l' = restsKey l
    · rw [if_pos e, if_pos ((key_up hn' hn hl' hl).2 e), h.len]
    · rw [if_neg e, if_neg (fun h2 => e ((key_up hn' hn hl' hl).1 h2))]
      exact h.F l' hn' hl'
theorem isEnd_up (l : List ByteArray) : isEnd (l.map up) = isEnd l := by
  cases l with
  | nil => rfl
  | cons s t =>
    show decide (up s = ⟨#[]⟩) = decide (s = ⟨#[]⟩)
    rw [decide_eq_decide]
    constructor
    · intro h
      have := congrArg ByteArray.size h
      rw [up_size] at this
      have h0 : s.size = 0 := by have h1 : (ByteArray.mk #[]).size = 0 := rfl; omega
      have hnil : s.data.toList = [] := List.eq_nil_of_length_eq_zero (by rw [← size_list]; exact h0)
      exact bytes_ext hnil
    · rintro rfl; rfl
theorem restsOf_up (l : List ByteArray) : restsOf (l.map up) = (restsOf l).map up := by
  unfold restsOf
  rw [isEnd_up]
  split
  · rw [List.map_drop]
  · rfl
theorem restsOf_asc {l : List ByteArray} (h : AscL l) : AscL (restsOf l) := by
  unfold restsOf
  split
  · exact fun s hs => h s (List.mem_of_mem_drop hs)
  · exact h
theorem prefix_up {s x : ByteArray} (hs : Asc s) (hx : Asc x) {b : UInt8} {r : List UInt8} (he : s.data.toList = b :: r) : Lib.hasPrefix (up x).data.toList ((up s).extract 0 4).data.toList = Lib.hasPrefix x.data.toList (s.extract 0 1).data.toList := by
  rw [head_data, head_data, up_data, up_data, he]
  have e1 : ((b :: r).flatMap enc4).take 4 = enc4 b := by simp [enc4]
  rw [e1]
  show (enc4 b).isPrefixOf _ = [b].isPrefixOf _
  cases hl : x.data.toList with
  | nil => rfl
  | cons c u =>
    have hb : b.toNat < 128 := hs b (by rw [he]; exact List.mem_cons_self)
    have hc : c.toNat < 128 := hx c (by rw [hl]; exact List.mem_cons_self)
    rw [Bool.eq_iff_iff, List.isPrefixOf_iff_prefix, List.isPrefixOf_iff_prefix, List.flatMap_cons]
    constructor
    · rintro ⟨t, ht⟩
      have : enc4 b = enc4 c := by
        have := congrArg (List.take 4) ht
        simpa [enc4] using this
      rw [enc4_inj hb hc this]
      exact ⟨u, rfl⟩
    · rintro ⟨t, ht⟩
      injection ht with h1 h2
      rw [h1]
      exact List.prefix_append _ _
theorem grp_up {s : ByteArray} (hs : Asc s) {b : UInt8} {r : List UInt8} (he : s.data.toList = b :: r) : ∀ l : List ByteArray, AscL l → grp ((up s).extract 0 4) 4 (l.map up) = (grp (s.extract 0 1) 1 l).map up
  | [], _ => rfl
  | x :: t, h => by
    have hx := h x List.mem_cons_self
    rw [List.map_cons]
    unfold grp
    rw [prefix_up hs hx he]
    by_cases hp : Lib.hasPrefix x.data.toList (s.extract 0 1).data.toList = true
    · rw [if_pos hp, if_pos hp, List.map_cons, grp_up hs he t (fun y hy => h y (List.mem_cons_of_mem _ hy))]
      congr 1
      cases hl : x.data.toList with
      | nil =>
        rw [head_data, he, hl] at hp
        exact absurd hp (by simp [Lib.hasPrefix])
      | cons c u => exact cut_up hl
    · rw [if_neg hp, if_neg hp]; rfl
theorem grp_asc {p : ByteArray} {n : Nat} {l : List ByteArray} (h : AscL l) : AscL (grp p n l) := fun c hc => by
  obtain ⟨x, hx, _, rfl⟩ := grp_mem hc
  exact asc_cut (h x hx) n
theorem node_sim : ∀ f : Nat, (∀ l st t r r', AscL l → Sim st t → node f l st = some r → node f (l.map up) t = some r' → r.1 = r'.1 ∧ Sim r.2 r'.2) ∧
    (∀ l es es' st t r r', AscL l → Sim st t → edges f l es st = some r → edges f (l.map up) es' t = some r' → Sim r.2 r'.2)
  | 0 => ⟨fun l st t r r' _ _ h _ => by simp [node] at h, fun l es es' st t r r' _ _ h _ => by simp [edges] at h⟩
  | f + 1 => by
    obtain ⟨ih1, ih2⟩ := node_sim f
    refine ⟨fun l st t r r' hl hS h h' => ?_, fun l es es' st t r r' hl hS h h' => ?_⟩
    · unfold node at h h'
      split at h
      · rename_i hc
        split at h'
        · have hk := hS.F l hc.1 hl
          cases hF : st.F (restsKey l) with
          | some n =>
            rw [hF] at h hk
            rw [← hk] at h'
            obtain rfl := Option.some.inj h
            obtain rfl := Option.some.inj h'
            exact ⟨rfl, hS⟩
          | none =>
            rw [hF] at h hk
            rw [← hk] at h'
            dsimp only at h h'
            obtain ⟨y, hy, h⟩ := Option.bind_eq_some_iff.1 h
            obtain ⟨y', hy', h'⟩ := Option.bind_eq_some_iff.1 h'
            split at h
            · split at h'
              · obtain rfl := Option.some.inj h
                obtain rfl := Option.some.inj h'
                rw [restsOf_up] at hy'
                have h2 := ih2 (restsOf l) [] [] _ _ y y' (restsOf_asc hl) (hS.open_ hc.1 hl) hy hy'
                exact ⟨by show (st.ns.length : Int) = (t.ns.length : Int); rw [hS.len], ⟨by show (y.2.ns.set _ _).length = (y'.2.ns.set _ _).length; rw [List.length_set, List.length_set]; exact h2.len, h2.F⟩⟩
              · cases h'
            · cases h
        · cases h'
      · cases h
    · cases l with
      | nil =>
        unfold edges at h h'
        obtain rfl := Option.some.inj h
        obtain rfl := Option.some.inj h'
        exact hS
      | cons s u =>
        rw [List.map_cons, edges_cons] at h'
        rw [edges_cons] at h
        split at h
        · rename_i hc
          split at h'
          · obtain ⟨b, rb, he⟩ := first_byte hc.2.1
            have hs := hl s List.mem_cons_self
            rw [decode_asc hs he] at h
            rw [decode_up hs he] at h'
            dsimp only at h h'
            have hw1 : wd s = 1 := by unfold wd; rw [decode_asc hs he]
            have hw2 : wd (up s) = 4 := by unfold wd; rw [decode_up hs he]
            have hh1 : hd s = s.extract 0 1 := by unfold hd; rw [decode_asc hs he]
            have hh2 : hd (up s) = (up s).extract 0 4 := by unfold hd; rw [decode_up hs he]
            rw [hh1, hw1] at h
            rw [hh2, hw2] at h'
            rw [← List.map_cons (f := up), grp_up hs he (s :: u) hl, List.length_map, ← List.map_drop] at h'
            obtain ⟨y, hy, h⟩ := Option.bind_eq_some_iff.1 h
            obtain ⟨y', hy', h'⟩ := Option.bind_eq_some_iff.1 h'
            have h1 := ih1 _ st t y y' (grp_asc hl) hS hy hy'
            exact ih2 _ _ _ _ _ r r' (fun x hx => hl x (List.mem_of_mem_drop hx)) h1.2 h h'
          · cases h'
        · cases h
/-- Build makes as many nodes of the renamed words. -/
theorem build_nodes {l : List ByteArray} (hl : AscL l) {ns ns' : List S72} (h : Ev (fun K => graph_Build.f K l) (0, ns)) (h' : Ev (fun K => graph_Build.f K (l.map up)) (0, ns')) : ns.length = ns'.length := by
  obtain ⟨K1, h1⟩ := h
  obtain ⟨K2, h2⟩ := h'
  have a1 := h1 (max K1 K2) (by omega)
  have a2 := h2 (max K1 K2) (by omega)
  unfold graph_Build.f at a1 a2
  obtain ⟨e1, _, a1⟩ := Option.bind_eq_some_iff.1 a1
  obtain ⟨e2, _, a2⟩ := Option.bind_eq_some_iff.1 a2
  split at a1
  · split at a2
    · by_cases h0 : l = []
      · subst h0
        rw [if_pos rfl] at a1
        rw [if_pos (by rfl)] at a2
        rw [← (Prod.mk.inj (Option.some.inj a1)).2, ← (Prod.mk.inj (Option.some.inj a2)).2]
      · rw [if_neg h0] at a1
        rw [if_neg (by simpa using h0)] at a2
        obtain ⟨y, hy, a1⟩ := Option.bind_eq_some_iff.1 a1
        obtain ⟨y', hy', a2⟩ := Option.bind_eq_some_iff.1 a2
        rw [← (Prod.mk.inj (Option.some.inj a1)).2, ← (Prod.mk.inj (Option.some.inj a2)).2]
        exact ((node_sim _).1 l _ _ y y' hl ⟨rfl, fun _ _ _ => rfl⟩ hy hy').2.len
    · rename_i hne; exact absurd (Prod.mk.inj (Option.some.inj a2)).1 hne
  · rename_i hne; exact absurd (Prod.mk.inj (Option.some.inj a1)).1 hne
end Go.Proofs.Ytklidannncajiaa.OW

namespace Go.Proofs.Ytklidannncajiaa.OW
open Go.RowKit Go.Proofs.YtklidannncajiaaW.PrintWords Go.Proofs.YtklidannncajiaaW.PrintLast Go.Proofs.YtklidannncajiaaW.PrintMore Go.Proofs.Ytklidannncajiaa.Am
set_option linter.unusedVariables false
set_option linter.unusedSimpArgs false

/-- A rune of four bytes in the place of a byte. -/
def rn (b : UInt8) : Int := ((128512 + b.toNat : Nat) : Int)
def upR (s : ByteArray) : List Int := s.data.toList.map rn
theorem encode_up {b : UInt8} (hb : b.toNat < 128) : (Utf8.encode (rn b)).data.toList = enc4 b := by
  unfold rn
  obtain ⟨n, hn⟩ : ∃ n, 128512 + b.toNat = n := ⟨_, rfl⟩
  have h1 : 128512 ≤ n := by omega
  have h2 : n < 128640 := by omega
  have e1 : 240 + n / 262144 = 240 := by omega
  have e2 : 128 + n / 4096 % 64 = 159 := by omega
  have e3 : 128 + n / 64 % 64 = 152 + b.toNat / 64 := by omega
  have e4 : 128 + n % 64 = 128 + b.toNat % 64 := by omega
  rw [hn]
  clear hn hb
  unfold Utf8.encode
  have hv : Utf8.valid (n : Int) = true := by unfold Utf8.valid; simp; omega
  simp only [hv, if_true, Int.toNat_natCast]
  rw [if_neg (by omega), if_neg (by omega), if_neg (by omega), e1, e2, e3, e4]
  rfl
theorem fold_data : ∀ (ns : List Int) (s : ByteArray), (ns.foldl (fun r n => r ++ Utf8.encode n) s).data.toList = s.data.toList ++ ns.flatMap (fun n => (Utf8.encode n).data.toList)
  | [], s => by simp
  | n :: ns, s => by
    rw [List.foldl_cons, fold_data ns, List.flatMap_cons, ← List.append_assoc, ByteArray.data_append, Array.toList_append]
theorem runesBytes_up {s : ByteArray} (h : Asc s) : runesBytes (upR s) = up s := bytes_ext (by
  have e0 : ByteArray.empty.data.toList = [] := rfl
  unfold runesBytes upR
  rw [fold_data, up_data, e0, List.nil_append, List.flatMap_map]
  have : ∀ l : List UInt8, (∀ b ∈ l, b.toNat < 128) → l.flatMap (fun b => (Utf8.encode (rn b)).data.toList) = l.flatMap enc4 := by
    intro l
    induction l with
    | nil => intro _; simp
    | cons b l ih =>
      intro hl
      have h1 : (Utf8.encode (rn b)).data.toList = enc4 b := encode_up (hl b List.mem_cons_self)
      rw [List.flatMap_cons, List.flatMap_cons, h1, ih (fun x hx => hl x (List.mem_cons_of_mem _ hx))]
  exact this s.data.toList h)
set_option maxHeartbeats 4000000 in
set_option maxRecDepth 100000 in
theorem up_calls (s : ByteArray) (hs : s.size ≤ 1000) (w : World) : Calls Try.prog 32 #[.string s] w fun e w' => e = .returned (.string (runesBytes (upR s))) ∧ Below w.heap.size w w' := by
  go_enter Try.func32, Try.ntmps32
  go_wp2_with fail
  go_loopg [3, 4] s.size (fun kq v3 v4 W => ∃ (i : Nat), v4 = .int .i64 i ∧ Aside0 (i + kq = s.size) ∧ Aside0 (Kd.R (Kd.int .i32) 21 W w.heap.size (fun _ => True) v3 ((upR s).take i)) ∧ Aside0 (Below w.heap.size w W))
  case atStart => exact ⟨0, rfl, ⟨by omega⟩, ⟨Kd.R_nil _ _ _ _ _⟩, ⟨Below.refl _ _⟩⟩
  case round =>
    obtain ⟨i, rfl, HI, HO, HW⟩ := hrel
    have hi := HI.out
    have hul : (upR s).length = s.size := by unfold upR; rw [List.length_map, ← size_list]
    cases gk with
    | zero =>
      obtain rfl : i = s.size := by omega
      have hlt2 : decide ((s.size : Int) < (s.size : Int)) = false := decide_eq_false (by omega)
      have hfin := HO.out
      rw [List.take_of_length_le (by omega)] at hfin
      obtain ⟨A3, c3, e3⟩ := Kd.R_slice hfin
      subst e3
      have hcv : ∀ W', W' = wr → (convert 74 9 (.slice A3 (upR s).length c3)).run Try.prog W' = .ok (.string (runesBytes (upR s))) W' := by
        intro W' hW'
        subst hW'
        obtain ⟨_, _, hC⟩ := Kd.R_reads' hfin
        cases A3 with
        | none =>
          have h0 : (upR s).length = 0 := by
            rcases Nat.eq_zero_or_pos (upR s).length with h | h
            · exact h
            · obtain ⟨ad, e, _⟩ := Kd.at_int hC 0 (by omega) (by omega); cases e
          rw [run_convert_runes_nil W' 74 9 21 _ _ Try.underlying74 Try.underlying21 Try.underlying9]
          rw [List.eq_nil_of_length_eq_zero h0]
          rfl
        | some ad =>
          rw [run_convert_runes W' 74 9 21 ad _ c3 (upR s) (Nat.le_refl _) Try.underlying74 Try.underlying21 Try.underlying9 (fun j hj => ?_), List.take_of_length_le (Nat.le_refl _)]
          obtain ⟨ad', e, hx⟩ := Kd.at_int hC (j : Int) (by omega) (by omega)
          cases e
          rw [Int.toNat_natCast, rd] at hx
          rw [hx, Int.toNat_natCast]
      have hcv2 := hcv wr rfl
      clear hcv hfin hul
      go_wp2_with fail
      go_ret
      exact ⟨rfl, HW.out⟩
    | succ ko =>
      have hil : i < s.size := by omega
      have hil2 : decide ((i : Int) < (s.size : Int)) = true := decide_eq_true (by omega)
      have hh0 : (0 : Int) ≤ (i : Int) := by omega
      have hh1 : (i : Int) < (s.size : Int) := by omega
      obtain ⟨y, hy⟩ : ∃ y, s[i]'(hil) = y := ⟨_, rfl⟩
      have hyl : s.data.toList[i]? = some y := by
        rw [← hy, Array.getElem?_toList]
        exact Array.getElem?_eq_getElem hil
      have hyb : y.toNat < 256 := y.toNat_lt
      have HT := Aside0.mk (show (upR s).take (i + 1) = (upR s).take i ++ [rn y] by
        rw [List.take_add_one]
        congr 1
        unfold upR
        rw [List.getElem?_map, hyl]
        rfl)
      have hlen : ((upR s).take i).length ≤ 1000 := by rw [List.length_take]; omega
      have hw1 : wrap32 (y.toNat : Int) = (y.toNat : Int) := by unfold wrap32; omega
      have hw2 : wrap32 (128512 + (y.toNat : Int)) = rn y := by unfold wrap32 rn; omega
      clear hul hyl hyb
      go_wp2_with ((with_reducible refine gate_builtin (b := .append) (xs := #[.tmp 11, .tmp 17]) rfl ?_); at_builtin; refine Kd.R_append (Kd.int .i32) (w0 := w) w.heap.size rfl (.tmp 11) (.tmp 17) 74 21 (.int .i32 0) 4 rfl Try.underlying74 info21 rfl (by decide) (by omega) u3 ((upR s).take i) (rn y) [.int .i32 (rn y)] (fun _ => True) (fun _ => False) rfl rfl ?aP (fun _ hk => hk.elim) (fun _ _ => trivial) HO.out HW.out HW.out.size (by omega) ?_; (case aP => exact rfl); intro v1 w1 ho hb hg hat; rw [← HT.out] at ho; have HO3 := Aside0.mk ho; have HW3 := Aside0.mk hb; clear ho hb hg hat HO HW)
      go_roundg ko
      case measure => omega
      case rel => exact ⟨i + 1, by go_num, ⟨by omega⟩, HO3, HW3⟩
theorem up_asc (s : ByteArray) (h : Asc s) (hs : s.size ≤ 1000) (w : World) : Calls Try.prog 32 #[.string s] w fun e w' => e = .returned (.string (up s)) ∧ Below w.heap.size w w' := by
  have := up_calls s hs w
  rwa [runesBytes_up h] at this
end Go.Proofs.Ytklidannncajiaa.OW

namespace Go.Proofs
open Go.Shelf
def Try.sortS_ren : Go.Shelf.Ren := ⟨fun | 6 => 48 | 15 => 71 | 14 => 70 | 28 => 96 | 29 => 97 | 20 => 88 | 21 => 89 | 22 => 90 | 23 => 91 | 24 => 92 | 25 => 93 | 26 => 94 | 27 => 95 | 46 => 107 | 47 => 108 | 48 => 109 | 49 => 110 | 50 => 111 | 57 => 116 | n => n, fun | 22 => 22 | 24 => 9 | 25 => 80 | 3 => 3 | 39 => 79 | 0 => 0 | 53 => 138 | 55 => 140 | 4 => 4 | 46 => 132 | 45 => 131 | 50 => 81 | 5 => 5 | 9 => 9 | 66 => 148 | 70 => 152 | 76 => 159 | 77 => 160 | n => n, fun | n => n⟩
theorem Try.sortS : Go.Proofs.SlLaysF.n6 Try.prog Try.sortS_ren := {
  mixed := by kernel_rfl
  f6 := ⟨Try.f48.name, by decide, Try.func48.trans (congrArg some (by kernel_rfl))⟩
  f14 := ⟨Try.f70.name, by decide, Try.func70.trans (congrArg some (by kernel_rfl))⟩
  f15 := Try.func71.trans (congrArg some (by kernel_rfl))
  f20 := ⟨Try.f88.name, by decide, Try.func88.trans (congrArg some (by kernel_rfl))⟩
  f21 := ⟨Try.f89.name, by decide, Try.func89.trans (congrArg some (by kernel_rfl))⟩
  f22 := ⟨Try.f90.name, by decide, Try.func90.trans (congrArg some (by kernel_rfl))⟩
  f23 := ⟨Try.f91.name, by decide, Try.func91.trans (congrArg some (by kernel_rfl))⟩
  f24 := ⟨Try.f92.name, by decide, Try.func92.trans (congrArg some (by kernel_rfl))⟩
  f25 := ⟨Try.f93.name, by decide, Try.func93.trans (congrArg some (by kernel_rfl))⟩
  f26 := ⟨Try.f94.name, by decide, Try.func94.trans (congrArg some (by kernel_rfl))⟩
  f27 := ⟨Try.f95.name, by decide, Try.func95.trans (congrArg some (by kernel_rfl))⟩
  f28 := Try.func96.trans (congrArg some (by kernel_rfl))
  f29 := Try.func97.trans (congrArg some (by kernel_rfl))
  f46 := ⟨Try.f107.name, by decide, Try.func107.trans (congrArg some (by kernel_rfl))⟩
  f47 := Try.func108.trans (congrArg some (by kernel_rfl))
  f48 := Try.func109.trans (congrArg some (by kernel_rfl))
  f49 := ⟨Try.f110.name, by decide, Try.func110.trans (congrArg some (by kernel_rfl))⟩
  f50 := ⟨Try.f111.name, by decide, Try.func111.trans (congrArg some (by kernel_rfl))⟩
  f57 := ⟨Try.f116.name, by decide, Try.func116.trans (congrArg some (by kernel_rfl))⟩
  t0 := Try.underlying0
  a0 := Try.isAgg0
  z0 := Try.sizeOf0
  v0 := Try.zeroValue0
  t3 := Try.underlying3
  a3 := Try.isAgg3
  z3 := Try.sizeOf3
  v3 := Try.zeroValue3
  t4 := Try.underlying4
  a4 := Try.isAgg4
  z4 := Try.sizeOf4
  v4 := Try.zeroValue4
  t5 := Try.underlying5
  a5 := Try.isAgg5
  z5 := Try.sizeOf5
  v5 := Try.zeroValue5
  t9 := Try.underlying9
  a9 := Try.isAgg9
  z9 := Try.sizeOf9
  v9 := Try.zeroValue9
  t22 := Try.underlying22
  a22 := Try.isAgg22
  z22 := Try.sizeOf22
  v22 := Try.zeroValue22
  a24 := Try.isAgg9
  z24 := Try.sizeOf9
  t25 := Try.underlying80
  a25 := Try.isAgg80
  z25 := Try.sizeOf80
  v25 := Try.zeroValue80
  t39 := Try.underlying79
  a39 := Try.isAgg79
  z39 := Try.sizeOf79
  v39 := Try.zeroValue79
  t45 := Try.underlying131
  a45 := Try.isAgg131
  z45 := Try.sizeOf131
  v45 := Try.zeroValue131
  t46 := Try.underlying132
  a46 := Try.isAgg132
  z46 := Try.sizeOf132
  v46 := Try.zeroValue132
  t50 := Try.underlying81
  a50 := Try.isAgg81
  z50 := Try.sizeOf81
  v50 := Try.zeroValue81
  t53 := Try.underlying138
  a53 := Try.isAgg138
  z53 := Try.sizeOf138
  v53 := Try.zeroValue138
  t55 := Try.underlying140
  a55 := Try.isAgg140
  z55 := Try.sizeOf140
  v55 := Try.zeroValue140
  t66 := Try.underlying148
  a66 := Try.isAgg148
  z66 := Try.sizeOf148
  v66 := Try.zeroValue148
  t70 := Try.underlying152
  a70 := Try.isAgg152
  z70 := Try.sizeOf152
  v70 := Try.zeroValue152
  t76 := Try.underlying159
  a76 := Try.isAgg159
  z76 := Try.sizeOf159
  v76 := Try.zeroValue159
  t77 := Try.underlying160
  a77 := Try.isAgg160
  z77 := Try.sizeOf160
  v77 := Try.zeroValue160 }
end Go.Proofs

namespace Go.Proofs.Ytklidannncajiaa.OW
open Go.RowKit Go.Proofs.YtklidannncajiaaW.PrintWords Go.Proofs.YtklidannncajiaaW.PrintLast Go.Proofs.YtklidannncajiaaW.PrintMore
set_option linter.unusedVariables false
set_option linter.unusedSimpArgs false

theorem putCells_take {α : Type} [Inhabited α] (enc : α → Value) (d : Array α) (c : Array Value) (hd : d.size ≤ c.size) (m : Nat) (hm : m ≤ d.size) : (Go.Sort.putCells enc 0 d c).toList.take m = (d.toList.take m).map enc := by
  apply List.ext_getElem?
  intro j
  rw [List.getElem?_take, List.getElem?_map, List.getElem?_take]
  by_cases hj : j < m
  · rw [if_pos hj, if_pos hj, Array.getElem?_toList, Array.getElem?_toList, Array.getElem?_eq_getElem (show j < d.size by omega)]
    unfold Go.Sort.putCells
    rw [Array.getElem?_mapIdx, Array.getElem?_eq_getElem (show j < c.size by omega)]
    simp only [Option.map_some, Nat.zero_add, Nat.zero_le, true_and, Nat.sub_zero]
    rw [if_pos (by omega), getElem!_pos d j (by omega)]
  · rw [if_neg hj, if_neg hj]; rfl
theorem heap_put {α : Type} [Inhabited α] (enc : α → Value) (w : World) (q g : Nat) (d : Array α) (os : Array Obj) (k : Nat) (hk : k < w.heap.size) :
    (Go.Sort.grow (Go.Sort.putRow enc (Go.Sort.ahead w q) g 0 d) os).heap[k]? = (if k = g then (w.heap[k]?).map (Go.Sort.onCells (Go.Sort.putCells enc 0 d)) else w.heap[k]?) := by
  show ((Go.Sort.putRow enc (Go.Sort.ahead w q) g 0 d).heap ++ os)[k]? = _
  rw [Array.getElem?_append_left (by rw [Go.Sort.size_putRow]; exact hk)]
  show (w.heap.modify g (Go.Sort.onCells (Go.Sort.putCells enc 0 d)))[k]? = _
  rw [Array.getElem?_modify]
  by_cases h : g = k
  · rw [if_pos h, if_pos h.symm]
  · rw [if_neg h, if_neg (fun e => h e.symm)]
theorem put_grown {α : Type} [Inhabited α] (enc : α → Value) (w : World) (q g : Nat) (d : Array α) (os : Array Obj) : w.grownBy (Go.Sort.grow (Go.Sort.putRow enc (Go.Sort.ahead w q) g 0 d) os) (some g) :=
  ⟨rfl, rfl, rfl, by
    show w.heap.size ≤ ((Go.Sort.putRow enc (Go.Sort.ahead w q) g 0 d).heap ++ os).size
    rw [Array.size_append, Go.Sort.size_putRow]
    exact Nat.le_add_right _ _, fun k hk hne => by rw [heap_put enc w q g d os k hk, if_neg (fun e => hne (by rw [e]))]⟩
/-- A row of texts whose cells have been put anew; m of them are told on. -/
theorem R_putRow {α : Type} [Inhabited α] (enc : α → Value) {w : World} {base g n cap : Nat} {ok : Nat → Prop} {xs ys : List ByteArray} (h : Kd.R Kd.string 9 w base ok (.slice (some ⟨g, 0, none⟩) n cap) xs) (hn : xs.length = n) (q : Nat) (d : Array α) (os : Array Obj) (hd : d.size = n) (hys : ys.length ≤ n) (he : (d.toList.take ys.length).map enc = ys.map Value.string) :
    Kd.R Kd.string 9 (Go.Sort.grow (Go.Sort.putRow enc (Go.Sort.ahead w q) g 0 d) os) base ok (.slice (some ⟨g, 0, none⟩) ys.length cap) ys := by
  have ho := Kd.own_of_R (enc := Value.string) (h1 := fun _ => rfl) h
  rcases ho with ⟨hl, ho⟩
  rcases ho with ⟨e, _⟩ | ⟨g', cap', cur, e, hb, hh, hc1, hc2, hc3, hc4⟩
  · cases e
  · injection e with e1 e2 e3
    injection e1 with e1
    injection e1 with e1
    subst e1
    subst e3
    have hg := blk_lt hh
    refine Kd.R_of_own (enc := Value.string) (h1 := fun _ => rfl) ⟨by rw [encs_length]; omega, .inr ⟨g, cap, Go.Sort.putCells enc 0 d cur, rfl, hb, ?_, by omega, hc2, ?_, ?_⟩⟩ (fun k hk => h.1 k hk)
    · rw [heap_put enc w q g d os g hg, if_pos rfl, hh]
      rfl
    · unfold Go.Sort.putCells
      rw [Array.size_mapIdx]
      exact hc3
    · rw [Nat.mul_one, putCells_take enc d cur (by omega) _ (by omega), he]
      rfl
end Go.Proofs.Ytklidannncajiaa.OW

namespace Go.Proofs.Ytklidannncajiaa.OW
open Go.RowKit Go.Proofs.YtklidannncajiaaW.PrintWords Go.Proofs.YtklidannncajiaaW.PrintLast Go.Proofs.YtklidannncajiaaW.PrintMore
set_option linter.unusedVariables false
set_option linter.unusedSimpArgs false

def bytesL (s : ByteArray) : List UInt8 := s.data.toList
def textL (l : List UInt8) : ByteArray := ⟨l.toArray⟩
theorem text_bytes (s : ByteArray) : textL (bytesL s) = s := bytes_ext (by simp [textL, bytesL])
def compactP (ys : List ByteArray) : List ByteArray := (Lib.compact (ys.map bytesL)).map textL
theorem arr_at (ys : List ByteArray) (i : Nat) (h : i < ys.length) : (ys.map bytesL).toArray[i]! = bytesL ys[i] := by
  rw [getElem!_pos _ i (by simpa using h)]
  simp
theorem compactP_eq (ys : List ByteArray) : compactP ys = ((List.range ys.length).filter (Lib.keeps (ys.map bytesL).toArray)).map (fun i => textL ((ys.map bytesL).toArray[i]!)) := by
  unfold compactP Lib.compact Lib.compactUpTo
  rw [List.map_map, List.length_map]
  rfl
theorem compactP_mem {ys : List ByteArray} {s : ByteArray} (h : s ∈ compactP ys) : s ∈ ys := by
  rw [compactP_eq] at h
  obtain ⟨i, hi, rfl⟩ := List.mem_map.1 h
  have hil : i < ys.length := List.mem_range.1 (List.mem_filter.1 hi).1
  rw [arr_at ys i hil, text_bytes]
  exact List.getElem_mem hil
theorem compactP_len (ys : List ByteArray) : (compactP ys).length ≤ ys.length := by
  rw [compactP_eq, List.length_map]
  exact Nat.le_trans (List.length_filter_le _ _) (by rw [List.length_range]; exact Nat.le_refl _)
theorem leB_trans {a b c : ByteArray} (h1 : ¬ ltB b a) (h2 : ltB b c) : ltB a c := by
  by_cases e : a = b
  · rw [e]; exact h2
  · exact (ltB.total h1 (fun h => e h.symm)).trans h2
theorem compactP_sorted {ys : List ByteArray} (h : ∀ i j, (hi : i < ys.length) → (hj : j < ys.length) → i < j → ¬ ltB ys[j] ys[i]) : (compactP ys).Pairwise ltB := by
  rw [compactP_eq]
  refine List.Pairwise.map (R := fun i j => i < j ∧ i < ys.length ∧ j < ys.length ∧ Lib.keeps (ys.map bytesL).toArray j = true) _ (fun i j hij => ?_) ?_
  · obtain ⟨hlt, hi, hj, hk⟩ := hij
    rw [arr_at ys i hi, arr_at ys j hj, text_bytes, text_bytes]
    have hk : ys[j - 1] ≠ ys[j] := by
      unfold Lib.keeps at hk
      rcases of_decide_eq_true hk with h0 | h0
      · omega
      · rw [arr_at ys j hj, arr_at ys (j - 1) (by omega)] at h0
        exact fun e => h0 (by rw [e])
    have h1 : ltB ys[j - 1] ys[j] := ltB.total (h (j - 1) j (by omega) hj (by omega)) (fun e => hk e.symm)
    rcases Nat.lt_or_ge i (j - 1) with h2 | h2
    · exact leB_trans (h i (j - 1) hi (by omega) h2) h1
    · obtain rfl : i = j - 1 := by omega
      exact h1
  · have h1 : (List.range ys.length).Pairwise (· < ·) := List.pairwise_lt_range
    have h2 := h1.filter (Lib.keeps (ys.map bytesL).toArray)
    refine List.Pairwise.imp_of_mem (fun {a b} ha hb hab => ?_) h2
    obtain ⟨a1, _⟩ := List.mem_filter.1 ha
    obtain ⟨b1, b2⟩ := List.mem_filter.1 hb
    exact ⟨hab, List.mem_range.1 a1, List.mem_range.1 b1, b2⟩
end Go.Proofs.Ytklidannncajiaa.OW
