/- What the row of the law WalkRenamed leans on: contracts of functions and plain laws, each for all inputs that its own theorem names. -/
import Derived.Test.YtklidannncajiaaProg
import Derived.Below
import Derived.Deep.Draws
import Derived.Deep.AppendLies
import Derived.Maps.AppendAt
import Derived.OwnWalk
import Derived.Laws.BytesArg
import Derived.Laws.MakeOwn
import Derived.Laws.OwnMore
import Derived.Deep.OwnRows
import Derived.Tactics
import Derived.Lib.ConvBytes
import Derived.Laws.Slices
import Derived.WalkKit
import Derived.KernelRfl
import Derived.RowKit3
import Derived.Deep.LoopGhost
import Derived.Deep.QuietTactic
import Derived.BigQuiet
import Derived.WideLaws
import Derived.Deep.DeepCutAuto
import Derived.Deep.CutBlock
import Derived.Deep.RegionHeld3
import Derived.Laws.Rows
import Derived.Lib.AppendStr
import Derived.ArgAppend
import Derived.Laws.IdiomCopy
import Derived.OrdersHeld
import Derived.Laws.BitsLemmas
import Derived.RowKit
import Derived.WalkSpells
import Derived.Test.YtklidannncajiaaWWords
import Derived.Test.YtklidannncajiaaWLast
import Derived.Test.YtklidannncajiaaWTab
import Derived.Test.YtklidannncajiaaWQPut
import Derived.Test.YtklidannncajiaaWApart
import Derived.Test.YtklidannncajiaaWArr
import Derived.Test.YtklidannncajiaaWZeros
import Derived.Test.YtklidannncajiaaWFoot
import Derived.Test.YtklidannncajiaaWKept
import Derived.Test.YtklidannncajiaaWShare
import Derived.Test.YtklidannncajiaaWN
import Derived.Test.YtklidannncajiaaWAt
import Derived.Test.YtklidannncajiaaWEqStruct
import Derived.Test.YtklidannncajiaaWRepsOne
import Derived.Test.YtklidannncajiaaWGuard
import Derived.Test.YtklidannncajiaaWNEv
import Derived.Test.YtklidannncajiaaWMore
import Derived.Laws.RangeAny
import Derived.Lib.MapLaws
import Derived.Outline
-- Laid by a program of this session (wip/ownprint.py, wip/hooks.py) over the seat's translation. Lean checks it.
namespace Go.Proofs.Ytklidannncajiaa.OW
open Go.RowKit Go.Proofs.YtklidannncajiaaW.PrintWords Go.Proofs.YtklidannncajiaaW.PrintLast Go.Proofs.YtklidannncajiaaW.PrintMore
attribute [local go_sem] max2_int min2_int max_two min_two max_three min_three max_four min_four   -- for this text's walks alone
set_option linter.unusedVariables false
set_option linter.unusedSimpArgs false



def errW : Option Int → Value
  | none => .nilIface
  | some c => .iface 0 (.int .i64 c)
theorem errW_none : errW none = .nilIface := rfl
theorem errW_some (c : Int) : errW (some c) = .iface 0 (.int .i64 c) := rfl

theorem info3 : (Try.prog.info? 3).map (fun i => (i.zero, i.size, i.bytes)) = some (some (.int .i64 0), 1, 8) := by kernel_rfl
theorem info9 : (Try.prog.info? 9).map (fun i => (i.zero, i.size, i.bytes)) = some (some (.string ⟨#[]⟩), 1, 16) := by kernel_rfl
theorem info21 : (Try.prog.info? 21).map (fun i => (i.zero, i.size, i.bytes)) = some (some (.int .i32 0), 1, 4) := by kernel_rfl
theorem info24 : (Try.prog.info? 24).map (fun i => (i.zero, i.size, i.bytes)) = some (some (.agg #[(.int .i64 0), (.string ⟨#[]⟩)]), 2, 24) := by kernel_rfl
theorem info72 : (Try.prog.info? 72).map (fun i => (i.zero, i.size, i.bytes)) = some (some (.agg #[(.bool false), (.slice none 0 0)]), 2, 32) := by kernel_rfl
theorem info91 : (Try.prog.info? 91).map (fun i => (i.zero, i.size, i.bytes)) = some (some (.agg #[(.int .i32 0), (.int .i64 0)]), 2, 16) := by kernel_rfl
theorem info96 : (Try.prog.info? 96).map (fun i => (i.zero, i.size, i.bytes)) = some (some (.agg #[(.int .i64 0), (.slice none 0 0), (.string ⟨#[]⟩)]), 3, 48) := by kernel_rfl
theorem info121 : (Try.prog.info? 121).map (fun i => (i.zero, i.size, i.bytes)) = some (some (.agg #[(.int .i64 0), (.int .i64 0)]), 2, 16) := by kernel_rfl
-- the values' own types
/-! #### struct type 121 -/
structure S121 where
  f0 : Int
  f1 : Int
def z121 : S121 := ⟨(0 : Int), (0 : Int)⟩
def k121 : Kd S121 := Kd.iso (Kd.pair (Kd.int .i64) (Kd.int .i64)) (fun x : S121 => (x.f0, x.f1))
theorem k121_open {w : World} {x : S121} {cs : List Value} (h : k121.K w x cs) : cs = [.int .i64 x.f0, .int .i64 x.f1] := by
  obtain ⟨_, _, rfl, rfl, rfl⟩ := h
  exact rfl
theorem k121_mkM (w : World) (base : Nat) (ok : Nat → Prop) (x : S121)  : k121.M w base ok x [.int .i64 x.f0, .int .i64 x.f1] := ⟨[.int .i64 x.f0], [.int .i64 x.f1], rfl, rfl, rfl⟩
def rd_T121 (xs : List S121) (i : Int) : S121 := xs.getD i.toNat z121
theorem at_T121 {w : World} {A : Option Addr} {n : Nat} {xs : List S121} (h : Kd.C k121 w A n xs) (i : Int) (h0 : 0 ≤ i) (h1 : i < n) : ∃ ad , A = some ad ∧ w.cell? (ad.add (i.toNat * 2)) = some (.int .i64 (rd_T121 xs i).f0) ∧ w.cell? ⟨(ad.add (i.toNat * 2)).block, (ad.add (i.toNat * 2)).off + 1, none⟩ = some (.int .i64 (rd_T121 xs i).f1) := by
  obtain ⟨ad, c, e, _, hK, hc0⟩ := Kd.C_get h z121 i h0 h1
  have hc : ∀ j u, c[j]? = some u → w.cell? (ad.add (i.toNat * 2 + j)) = some u := hc0
  obtain rfl := k121_open hK
  exact ⟨ad, e, hc 0 _ rfl, by rw [← add_field _ _ 1 (by omega)]; exact hc 1 _ rfl⟩

/-! #### struct type 91 -/
structure S91 where
  f0 : Int
  f1 : Int
def z91 : S91 := ⟨(0 : Int), (0 : Int)⟩
def k91 : Kd S91 := Kd.iso (Kd.pair (Kd.int .i32) (Kd.int .i64)) (fun x : S91 => (x.f0, x.f1))
theorem k91_open {w : World} {x : S91} {cs : List Value} (h : k91.K w x cs) : cs = [.int .i32 x.f0, .int .i64 x.f1] := by
  obtain ⟨_, _, rfl, rfl, rfl⟩ := h
  exact rfl
theorem k91_openM {w : World} {base : Nat} {ok : Nat → Prop} {x : S91} {cs : List Value} (h : k91.M w base ok x cs) : cs = [.int .i32 x.f0, .int .i64 x.f1] := by
  obtain ⟨_, _, rfl, rfl, rfl⟩ := h
  exact rfl
theorem k91_mkM (w : World) (base : Nat) (ok : Nat → Prop) (x : S91)  : k91.M w base ok x [.int .i32 x.f0, .int .i64 x.f1] := ⟨[.int .i32 x.f0], [.int .i64 x.f1], rfl, rfl, rfl⟩
def rd_T91 (xs : List S91) (i : Int) : S91 := xs.getD i.toNat z91
/-! #### struct type 72 -/
structure S72 where
  f0 : Bool
  f1 : (List S91)
def z72 : S72 := ⟨false, ([] : List S91)⟩
def k72 : Kd S72 := Kd.iso (Kd.pair Kd.bool (Kd.slice 91 k91)) (fun x : S72 => (x.f0, x.f1))
theorem k72_open {w : World} {x : S72} {cs : List Value} (h : k72.K w x cs) : ∃ A1 c1, cs = [.bool x.f0, .slice A1 x.f1.length c1] ∧ x.f1.length ≤ c1 ∧ k91.C w A1 x.f1.length x.f1 := by
  obtain ⟨_, _, rfl, rfl, ⟨A1, c1, rfl, l1, g1⟩⟩ := h
  exact ⟨A1, c1, rfl, l1, g1⟩
theorem k72_openM {w : World} {base : Nat} {ok : Nat → Prop} {x : S72} {cs : List Value} (h : k72.M w base ok x cs) : ∃ v1, cs = [.bool x.f0, v1] ∧ k91.R 91 w base ok v1 x.f1 := by
  obtain ⟨_, _, rfl, rfl, ⟨v1, rfl, g1⟩⟩ := h
  exact ⟨v1, rfl, g1⟩
theorem k72_mkM (w : World) (base : Nat) (ok : Nat → Prop) (x : S72) {v1 : Value} (g1 : k91.R 91 w base ok v1 x.f1) : k72.M w base ok x [.bool x.f0, v1] := ⟨[.bool x.f0], [v1], rfl, rfl, ⟨v1, rfl, g1⟩⟩
def rd_T72 (xs : List S72) (i : Int) : S72 := xs.getD i.toNat z72
theorem at_T72 {w : World} {A : Option Addr} {n : Nat} {xs : List S72} (h : Kd.C k72 w A n xs) (i : Int) (h0 : 0 ≤ i) (h1 : i < n) : ∃ ad A1 c1, A = some ad ∧ w.cell? (ad.add (i.toNat * 2)) = some (.bool (rd_T72 xs i).f0) ∧ w.cell? ⟨(ad.add (i.toNat * 2)).block, (ad.add (i.toNat * 2)).off + 1, none⟩ = some (.slice A1 (rd_T72 xs i).f1.length c1) ∧ (rd_T72 xs i).f1.length ≤ c1 ∧ k91.C w A1 (rd_T72 xs i).f1.length (rd_T72 xs i).f1 := by
  obtain ⟨ad, c, e, _, hK, hc0⟩ := Kd.C_get h z72 i h0 h1
  have hc : ∀ j u, c[j]? = some u → w.cell? (ad.add (i.toNat * 2 + j)) = some u := hc0
  obtain ⟨A1, c1, rfl, l1, g1⟩ := k72_open hK
  exact ⟨ad, A1, c1, e, hc 0 _ rfl, by rw [← add_field _ _ 1 (by omega)]; exact hc 1 _ rfl, l1, g1⟩

/-! #### struct type 96 -/
structure S96 where
  f0 : Int
  f1 : (List S121)
  f2 : ByteArray
def z96 : S96 := ⟨(0 : Int), ([] : List S121), (⟨#[]⟩ : ByteArray)⟩
def k96 : Kd S96 := Kd.iso (Kd.pair (Kd.int .i64) (Kd.pair (Kd.slice 121 k121) Kd.string)) (fun x : S96 => (x.f0, x.f1, x.f2))
theorem k96_openM {w : World} {base : Nat} {ok : Nat → Prop} {x : S96} {cs : List Value} (h : k96.M w base ok x cs) : ∃ v1, cs = [.int .i64 x.f0, v1, .string x.f2] ∧ k121.R 121 w base ok v1 x.f1 := by
  obtain ⟨_, _, rfl, rfl, ⟨_, _, rfl, ⟨v1, rfl, g1⟩, rfl⟩⟩ := h
  exact ⟨v1, rfl, g1⟩
theorem k96_mkM (w : World) (base : Nat) (ok : Nat → Prop) (x : S96) {v1 : Value} (g1 : k121.R 121 w base ok v1 x.f1) : k96.M w base ok x [.int .i64 x.f0, v1, .string x.f2] := ⟨[.int .i64 x.f0], [v1, .string x.f2], rfl, rfl, ⟨[v1], [.string x.f2], rfl, ⟨v1, rfl, g1⟩, rfl⟩⟩
def rd_T96 (xs : List S96) (i : Int) : S96 := xs.getD i.toNat z96
/-! #### struct type 24 -/
structure S24 where
  f0 : Int
  f1 : ByteArray
def z24 : S24 := ⟨(0 : Int), (⟨#[]⟩ : ByteArray)⟩
def k24 : Kd S24 := Kd.iso (Kd.pair (Kd.int .i64) Kd.string) (fun x : S24 => (x.f0, x.f1))
theorem k24_open {w : World} {x : S24} {cs : List Value} (h : k24.K w x cs) : cs = [.int .i64 x.f0, .string x.f1] := by
  obtain ⟨_, _, rfl, rfl, rfl⟩ := h
  exact rfl
theorem k24_openM {w : World} {base : Nat} {ok : Nat → Prop} {x : S24} {cs : List Value} (h : k24.M w base ok x cs) : cs = [.int .i64 x.f0, .string x.f1] := by
  obtain ⟨_, _, rfl, rfl, rfl⟩ := h
  exact rfl
theorem k24_mkM (w : World) (base : Nat) (ok : Nat → Prop) (x : S24)  : k24.M w base ok x [.int .i64 x.f0, .string x.f1] := ⟨[.int .i64 x.f0], [.string x.f1], rfl, rfl, rfl⟩
def rd_T24 (xs : List S24) (i : Int) : S24 := xs.getD i.toNat z24
theorem at_T24 {w : World} {A : Option Addr} {n : Nat} {xs : List S24} (h : Kd.C k24 w A n xs) (i : Int) (h0 : 0 ≤ i) (h1 : i < n) : ∃ ad , A = some ad ∧ w.cell? (ad.add (i.toNat * 2)) = some (.int .i64 (rd_T24 xs i).f0) ∧ w.cell? ⟨(ad.add (i.toNat * 2)).block, (ad.add (i.toNat * 2)).off + 1, none⟩ = some (.string (rd_T24 xs i).f1) := by
  obtain ⟨ad, c, e, _, hK, hc0⟩ := Kd.C_get h z24 i h0 h1
  have hc : ∀ j u, c[j]? = some u → w.cell? (ad.add (i.toNat * 2 + j)) = some u := hc0
  obtain rfl := k24_open hK
  exact ⟨ad, e, hc 0 _ rfl, by rw [← add_field _ _ 1 (by omega)]; exact hc 1 _ rfl⟩

end Go.Proofs.Ytklidannncajiaa.OW

namespace Go.Proofs.Ytklidannncajiaa.OW
open Go.RowKit Go.Proofs.YtklidannncajiaaW.PrintWords Go.Proofs.YtklidannncajiaaW.PrintLast Go.Proofs.YtklidannncajiaaW.PrintMore

/-- The graph at block g has these nodes. -/
structure GraphAt (w : World) (g : Nat) (ns : List S72) : Prop where
  row : ∃ A c, w.cell? ⟨g, 0, none⟩ = some (.slice A ns.length c) ∧ ns.length ≤ c ∧ Kd.C k72 w A ns.length ns
theorem GraphAt.below {w w1 : World} {g : Nat} {ns : List S72} (h : GraphAt w g ns) (hb : Below w.heap.size w w1) : GraphAt w1 g ns := by
  obtain ⟨A, c, h1, h2, h3⟩ := h.row
  exact ⟨A, c, pw_cell_below hb h1, h2, Kd.C_below h3 hb⟩
set_option maxHeartbeats 1000000 in
set_option maxRecDepth 100000 in
theorem graph_Nodes.calls (g : Nat) (ns : List S72) (w : World) (hG : GraphAt w g ns) :
    Calls Try.prog 33 #[.pointer (some ⟨g, 0, none⟩)] w fun e w' => e = .returned (.int .i64 ns.length) ∧ w' = w := by
  obtain ⟨A, c, h1, h2, h3⟩ := hG.row
  have H3 := Aside0.mk h3
  clear h3 hG
  go_enter Try.func33, Try.ntmps33
  go_wp2
  go_ret
  exact ⟨rfl, rfl⟩
def nodeAt (ns : List S72) (n : Int) : S72 := if 0 ≤ n then rd_T72 ns n else z72
set_option maxHeartbeats 1000000 in
set_option maxRecDepth 100000 in
theorem graph_get.calls (g : Nat) (ns : List S72) (n : Int) (w : World) (hG : GraphAt w g ns) :
    Calls Try.prog 78 #[.pointer (some ⟨g, 0, none⟩), .int .i64 n] w fun e w' => ∃ A c, e = .returned (.agg #[.bool (nodeAt ns n).f0, .slice A (nodeAt ns n).f1.length c]) ∧ (nodeAt ns n).f1.length ≤ c ∧ Kd.C k91 w' A (nodeAt ns n).f1.length (nodeAt ns n).f1 ∧ Below w.heap.size w w' := by
  obtain ⟨A, c, h1, h2, h3⟩ := hG.row
  have HG := Aside0.mk hG
  have H3 := Aside0.mk h3
  have HB0 := Aside0.mk ((Below.refl w.heap.size w).alloc (Nat.le_refl _) (.cells #[.bool false, .slice none 0 0] 72))
  clear h3 hG
  by_cases hn : 0 ≤ n ∧ n < ns.length
  · obtain ⟨hn0, hn1⟩ := hn
    have e : nodeAt ns n = rd_T72 ns n := if_pos hn0
    rw [e]
    clear e
    obtain ⟨ad, A1, c1, rfl, hx0, hx1, hl1, hC1⟩ := at_T72 H3.out n hn0 hn1
    have HC := Aside0.mk hC1
    have HL := Aside0.mk hl1
    clear hC1 hl1
    have h1' := pw_cell_below HB0.out h1
    have hx0' := pw_cell_below HB0.out hx0
    have hx1' := pw_cell_below HB0.out hx1
    have ne : ad.block ≠ w.heap.size := by
      have := World.block_lt_of_cell? w _ hx0
      rw [add_block] at this
      omega
    clear h1 hx0 hx1
    have d0 : decide (n < 0) = false := decide_eq_false (by omega)
    have d1 : decide ((ns.length : Int) ≤ n) = false := decide_eq_false (by omega)
    go_enter Try.func78, Try.ntmps78
    go_wp2_with ((with_reducible refine gate_callee (f := 33) rfl ?_); (try (refine gate_guard (by rfl) ?_; dsimp only)); refine goesL_ (some 10) rfl rfl Try.func33 (by kernel_rfl) rfl #[.pointer (some ⟨g, 0, none⟩)] rfl (by (try simp only [List.map_toArray, List.map_cons, List.map_nil]); first | done | rfl) ?_; (with_reducible refine (graph_Nodes.calls g ns _ (HG.out.below HB0.out)).mono ?_); rintro e w' ⟨rfl, rfl⟩; refine ⟨_, rfl, ?_⟩)
    exact bodyPost_ret (v := .agg #[.bool (rd_T72 ns n).f0, .slice A1 (rd_T72 ns n).f1.length c1]) (by simp [results, Try.results78, go_sem]) rfl ⟨A1, c1, rfl, HL.out, Kd.C_below HC.out ((Below.refl _ _).alloc (Nat.le_refl _) _), (Below.refl _ _).alloc (Nat.le_refl _) _⟩
  · have e : nodeAt ns n = z72 := by
      unfold nodeAt
      by_cases h0 : 0 ≤ n
      · rw [if_pos h0]
        unfold rd_T72
        rw [List.getD_eq_getElem?_getD, List.getElem?_eq_none (by omega)]
        rfl
      · rw [if_neg h0]
    rw [e]
    clear e
    by_cases h0 : n < 0
    · have d0 : decide (n < 0) = true := decide_eq_true h0
      go_enter Try.func78, Try.ntmps78
      go_wp2
      exact bodyPost_ret (v := .agg #[.bool false, .slice none 0 0]) (by simp [results, Try.results78, go_sem]) rfl ⟨none, 0, rfl, Nat.le_refl _, ⟨rfl, by simp [z72], fun h => absurd h (by simp [z72])⟩, (Below.refl _ _).alloc (Nat.le_refl _) _⟩
    · have d0 : decide (n < 0) = false := decide_eq_false h0
      have d1 : decide ((ns.length : Int) ≤ n) = true := decide_eq_true (by omega)
      go_enter Try.func78, Try.ntmps78
      go_wp2_with ((with_reducible refine gate_callee (f := 33) rfl ?_); (try (refine gate_guard (by rfl) ?_; dsimp only)); refine goesL_ (some 10) rfl rfl Try.func33 (by kernel_rfl) rfl #[.pointer (some ⟨g, 0, none⟩)] rfl (by (try simp only [List.map_toArray, List.map_cons, List.map_nil]); first | done | rfl) ?_; (with_reducible refine (graph_Nodes.calls g ns _ (HG.out.below HB0.out)).mono ?_); rintro e w' ⟨rfl, rfl⟩; refine ⟨_, rfl, ?_⟩)
      exact bodyPost_ret (v := .agg #[.bool false, .slice none 0 0]) (by simp [results, Try.results78, go_sem]) rfl ⟨none, 0, rfl, Nat.le_refl _, ⟨rfl, by simp [z72], fun h => absurd h (by simp [z72])⟩, (Below.refl _ _).alloc (Nat.le_refl _) _⟩
def api_Edge.f (l0 : List S91) : Option (List S91) := if l0.length < 8796093022208 then (some l0) else none
set_option maxHeartbeats 8000000 in
set_option maxRecDepth 100000 in
theorem api_Edge.calls (A0 : Option Addr) (c0 : Nat) (l0 : List S91) (r : List S91) (w : World) (hr0 : Kd.C k91 w A0 l0.length l0) (hc0 : l0.length ≤ c0) (h : api_Edge.f l0 = some r) :
    Calls Try.prog 79 #[.slice A0 l0.length c0] w fun e w' => ∃ v0_ : Value, e = .returned (v0_) ∧ Kd.R k91 91 w' w.heap.size (fun _ => True) v0_ r ∧ Below w.heap.size w w' := by
  have HR0 := Aside0.mk hr0
  have hnil : A0 = none → l0 = [] := by
    intro hA
    cases l0 with
    | nil => rfl
    | cons x xs =>
      obtain ⟨ad, e, _⟩ := hr0.2.2 (by simp)
      rw [hA] at e
      cases e
  clear hr0 hc0
  unfold api_Edge.f at h
  by_cases c : l0.length < 8796093022208
  · rw [if_pos c] at h
    obtain rfl := Option.some.inj h
    clear h
    have C := Aside0.mk c
    clear c
    cases A0 with
    | none =>
      obtain rfl := hnil rfl
      clear hnil
      have kq := fun W : World => Lib.run_eql_slice_nil (P := Try.prog) W 70 91 none 0 c0 0 0 Try.underlying70
      go_enter Try.func79, Try.ntmps79
      go_wp2
      go_ret
      exact ⟨_, rfl, Kd.R_nil _ _ _ _ _, Below.refl _ _⟩
    | some ad =>
      clear hnil
      have kq := fun W : World => Lib.run_eql_slice_nil (P := Try.prog) W 70 91 (some ad) l0.length c0 0 0 Try.underlying70
      go_enter Try.func79, Try.ntmps79
      go_wp2_with (first | ((with_reducible refine gate_dst (N := 5) rfl ?_); refine Kd.R_lit (w0 := w) k91 w.heap.size 91 ?hg (N := 5) ?hd (xs := ([] : List S91)) (inner := []) (ok := fun _ => True) (okp := fun _ => True) ?hr ?hp (fun _ hk => hk) trivial (Below.refl _ _) (Nat.le_refl _) (by simp) ?_; (case hd => rfl); (case hg => rfl); (case hr => first | (go_simp; done) | (go_simp; rfl)); (case hp => exact Reps.none _ _); intro v1 w1 ho1 hb1 _ _; have HO := Aside0.mk ho1; have HB := Aside0.mk hb1; clear ho1 hb1) | ((with_reducible refine gate_dst (N := 7) rfl ?_); refine Kd.R_append_rows (w0 := w) k91 w.heap.size rfl _ _ 70 91 (.agg #[.int .i32 0, .int .i64 0]) 16 rfl Try.underlying70 info91 rfl (by decide) (by decide) _ ([] : List S91) l0 (some ad) l0.length c0 (fun _ => True) (fun _ => False) rfl rfl HO.out (Kd.C_below HR0.out HB.out) (fun x cs hx => by rw [k91_open hx]; exact k91_mkM _ _ _ x) (fun _ hk => hk.elim) (fun _ _ => trivial) HB.out HB.out.size (by have := C.out; simp; omega) ?_; intro v2 w2 ho2 hb2 _ _; have HO2 := Aside0.mk ho2; have HB2 := Aside0.mk hb2; clear ho2 hb2))
      go_ret
      exact ⟨_, rfl, by have h := HO2.out; rwa [List.nil_append] at h, HB2.out⟩
  · rw [if_neg c] at h
    cases h


theorem field72_0 (a b : Value) (W : World) : (Instr.field 72 (.agg #[a, b]) 0).run Try.prog W = .ok a W := by
  have hu72 := Try.underlying72
  simp [Instr.field, run_underlying hu72, asAgg, part, Try.isAgg4]
theorem field72_1 (a b : Value) (W : World) : (Instr.field 72 (.agg #[a, b]) 1).run Try.prog W = .ok b W := by
  have hu72 := Try.underlying72
  simp [Instr.field, run_underlying hu72, asAgg, part, Try.isAgg70]
set_option maxHeartbeats 1000000 in
set_option maxRecDepth 100000 in
theorem graph_Final.calls (g : Nat) (ns : List S72) (n : Int) (w : World) (hG : GraphAt w g ns) :
    Calls Try.prog 56 #[.pointer (some ⟨g, 0, none⟩), .int .i64 n] w fun e w' => e = .returned (.bool (nodeAt ns n).f0) ∧ Below w.heap.size w w' := by
  have HG := Aside0.mk hG
  clear hG
  have kf := field72_0
  go_enter Try.func56, Try.ntmps56
  go_wp2_with ((with_reducible refine gate_callee (f := 78) rfl ?_); refine goesL_ (some 7) rfl rfl Try.func78 (by kernel_rfl) rfl #[.pointer (some ⟨g, 0, none⟩), .int .i64 n] rfl (by (try simp only [List.map_toArray, List.map_cons, List.map_nil]); first | done | rfl) ?_; (with_reducible refine (graph_get.calls g ns n _ HG.out).mono ?_); rintro e w1 ⟨A, c, rfl, hl, hC, hb⟩; refine ⟨_, rfl, ?_⟩; have HB := Aside0.mk hb; clear hl hC hb)
  go_ret
  exact ⟨rfl, HB.out⟩
def graph_Edges.f (ns : List S72) (n : Int) : Option (List S91) := api_Edge.f (nodeAt ns n).f1
set_option maxHeartbeats 1000000 in
set_option maxRecDepth 100000 in
theorem graph_Edges.calls (g : Nat) (ns : List S72) (n : Int) (r : List S91) (w : World) (hG : GraphAt w g ns) (h : graph_Edges.f ns n = some r) :
    Calls Try.prog 57 #[.pointer (some ⟨g, 0, none⟩), .int .i64 n] w fun e w' => ∃ v0_ : Value, e = .returned v0_ ∧ Kd.R k91 91 w' w.heap.size (fun _ => True) v0_ r ∧ Below w.heap.size w w' := by
  have HG := Aside0.mk hG
  have H := Aside0.mk (show api_Edge.f (nodeAt ns n).f1 = some r from h)
  clear hG h
  have kf := field72_1
  go_enter Try.func57, Try.ntmps57
  go_wp2_with (first | ((with_reducible refine gate_callee (f := 78) rfl ?_); refine goesL_ (some 7) rfl rfl Try.func78 (by kernel_rfl) rfl #[.pointer (some ⟨g, 0, none⟩), .int .i64 n] rfl (by (try simp only [List.map_toArray, List.map_cons, List.map_nil]); first | done | rfl) ?_; (with_reducible refine (graph_get.calls g ns n _ HG.out).mono ?_); rintro e w1 ⟨A, c, rfl, hl, hC, hb⟩; refine ⟨_, rfl, ?_⟩; have HB := Aside0.mk hb; have HL := Aside0.mk hl; have HC := Aside0.mk hC; clear hl hC hb) | ((with_reducible refine gate_callee (f := 79) rfl ?_); refine goesL_ (some 9) rfl rfl Try.func79 (by kernel_rfl) rfl #[.slice A (nodeAt ns n).f1.length c] rfl (by (try simp only [List.map_toArray, List.map_cons, List.map_nil]); first | done | rfl) ?_; (with_reducible refine (api_Edge.calls A c _ r _ HC.out HL.out H.out).mono ?_); rintro e w2 ⟨v, rfl, ho, hb⟩; refine ⟨_, rfl, ?_⟩; have HO := Aside0.mk ho; have HB2 := Aside0.mk (below_step HB.out hb); clear ho hb))
  go_ret
  exact ⟨_, rfl, Kd.R_lower HO.out HB.out.size, HB2.out⟩
end Go.Proofs.Ytklidannncajiaa.OW

namespace Go.Proofs.Ytklidannncajiaa.OW
open Go.RowKit Go.Proofs.YtklidannncajiaaW.PrintWords Go.Proofs.YtklidannncajiaaW.PrintLast Go.Proofs.YtklidannncajiaaW.PrintMore

/-- Block k holds cells of type t. -/
def Typed (w : World) (k t : Nat) : Prop := ∃ cells, w.heap[k]? = some (.cells cells t (0, 0))
theorem Typed.det {w : World} {k t t' : Nat} (h : Typed w k t) (h' : Typed w k t') : t = t' := by
  obtain ⟨c, hc⟩ := h
  obtain ⟨c', hc'⟩ := h'
  rw [hc] at hc'
  injection hc' with hc'
  injection hc' with _ h2
theorem Typed.lt {w : World} {k t : Nat} (h : Typed w k t) : k < w.heap.size := by
  obtain ⟨c, hc⟩ := h
  exact (Array.getElem?_eq_some_iff.1 hc).1
/-- Only blocks of which P tells were written (P k t: block k, of type t); others were made. -/
structure KeptBy (P : Nat → Nat → Prop) (w w' : World) : Prop where
  os : w'.os = w.os
  tape : w'.tape = w.tape
  output : w'.output = w.output
  size : w.heap.size ≤ w'.heap.size
  block : ∀ k, k < w.heap.size → (∀ t, Typed w k t → ¬ P k t) → w'.heap[k]? = w.heap[k]?
namespace KeptBy
variable {P P' : Nat → Nat → Prop} {w w1 w2 : World}
theorem refl (P : Nat → Nat → Prop) (w : World) : KeptBy P w w := ⟨rfl, rfl, rfl, Nat.le_refl _, fun _ _ _ => rfl⟩
theorem mono (h : KeptBy P w w1) (hp : ∀ k t, P k t → P' k t) : KeptBy P' w w1 := ⟨h.os, h.tape, h.output, h.size, fun k hk ht => h.block k hk (fun t h1 h2 => ht t h1 (hp k t h2))⟩
theorem trans (h : KeptBy P w w1) (h1 : KeptBy P w1 w2) : KeptBy P w w2 :=
  ⟨h1.os.trans h.os, h1.tape.trans h.tape, h1.output.trans h.output, Nat.le_trans h.size h1.size, fun k hk ht => by
    have e := h.block k hk ht
    exact (h1.block k (Nat.lt_of_lt_of_le hk h.size) (fun t ⟨c, hc⟩ => ht t ⟨c, e ▸ hc⟩)).trans e⟩
theorem of_below (h : Below w.heap.size w w1) : KeptBy P w w1 := ⟨h.os, h.tape, h.output, h.size, fun k hk _ => h.block k hk⟩
theorem of_grown {row : Option Nat} (h : w.grownBy w1 row) (hr : ∀ k, row = some k → ∃ t, Typed w k t ∧ P k t) : KeptBy P w w1 :=
  ⟨h.os, h.tape, h.output, h.size, fun k hk ht => h.block k hk (fun e => by
    obtain ⟨t, h1, h2⟩ := hr k e.symm
    exact ht t h1 h2)⟩
theorem to_below {B : Nat} (h : KeptBy P w w1) (hp : ∀ k t, P k t → B ≤ k) (hB : B ≤ w.heap.size) : Below B w w1 :=
  ⟨h.os, h.tape, h.output, h.size, fun k hk => h.block k (by omega) (fun t _ h2 => by have := hp k t h2; omega)⟩
theorem typed (h : KeptBy P w w1) {k t : Nat} (ht : Typed w k t) (hn : ¬ P k t) : w1.heap[k]? = w.heap[k]? :=
  h.block k ht.lt (fun t' h1 h2 => by rw [h1.det ht] at h2; exact hn h2)
theorem cell (h : KeptBy P w w1) {a : Addr} {v : Value} (hc : w.cell? a = some v) (hn : ∀ t, Typed w a.block t → ¬ P a.block t) : w1.cell? a = some v := by
  have := h.block a.block (World.block_lt_of_cell? w a hc) hn
  simpa [World.cell?, this] using hc
theorem row {α : Type} {d : Kd α} {e base : Nat} {v : Value} {xs : List α} {ok : Nat → Prop} (h : KeptBy P w w1) (ho : d.R e w base ok v xs) (hn : ∀ k t, t ∈ e :: d.E → base ≤ k → ¬ P k t) : d.R e w1 base ok v xs :=
  Kd.R_mono (Kd.R_step (Kd.R_bound ho) (fun k hk hlt => by
    obtain ⟨_, h1, h2, q, hq, hc⟩ := hk
    exact h.typed hc (hn k q hq h1))) (fun _ hk => hk.1)
theorem setCell (w : World) {a : Addr} {t : Nat} (ht : Typed w a.block t) (hp : P a.block t) (v : Value) : KeptBy P w (w.setCell a v) :=
  ⟨rfl, rfl, rfl, by simp [World.setCell], fun k hk hn => Below.heap_setCell w a v k (fun e => by subst e; exact hn t ht hp)⟩
end KeptBy
section
variable {P : Program} {ops : Array Oper} {Q : Exit → Act → World → Prop}
/-- A call of a function value: its captured pointers behind its arguments. -/
theorem goesV_ {rest : List Oper} {oi : Oper} {a : Act} {w : World} (N : Option Tmp) (hd : oi.dst = N) (hg : oi.guard = none) {f : FuncId} {fn : Func} {c : Operand} {ops_ : Array Operand} {ts : Array TypeId} {cap : Array Value} (hf : P.funcs[f]? = some fn) (hname : (fn.name == "runtime.NumGoroutine") = false) (hb : fn.body.isSome = true) (args : Array Value)
    (hop : oi.op = .call { callee := .value c, args := ops_, argTypes := ts }) (hc : a.eval c = .func (.func f) #[] cap) (hargs : ops_.map a.eval ++ cap = args)
    (h : Calls P f args w fun e w' => ∃ v, e = .returned v ∧ wpList P ops Q rest (a.put N v) w') : wpList P ops Q (oi :: rest) a w := by
  refine wpList_plain hg fun K hK => ?_
  have he := enters_ hf hname hb args w
  have hrun : (execOp a.eval oi).run P w = .ok (.enter f args) w := by
    unfold execOp
    simp [hop, resolve, Deferred.ofValue, invoke, hc, hargs, he]
  unfold Oper.wp
  rw [hrun, Oper.upon_enter]
  refine h.mono fun e w'' hh => ?_
  obtain ⟨v, rfl, hk⟩ := hh
  subst hd
  exact hK _ _ hk
theorem gate_value {rest : List Oper} {o : Oper} {a : Act} {W : World} {t : Tmp} {ops_ : Array Operand} {ts : Array TypeId} (_ho : o.op = .call { callee := .value (.tmp t), args := ops_, argTypes := ts }) (h : wpList P ops Q (o :: rest) a W) : wpList P ops Q (o :: rest) a W := h
end
/-- A function value (function gf, what it captured) that takes a text and tells whether to go on: step by step, as 'step' says; Inv holds of the world from step to step; it writes what Pc tells. -/
structure YieldsBy {α : Type} (gf : FuncId) (cap : Array Value) (Pc : Nat → Nat → Prop) (Inv : α → World → Prop) (step : α → ByteArray → Option (α × Bool)) : Prop where
  fn : ∃ fn, Try.prog.funcs[gf]? = some fn ∧ (fn.name == "runtime.NumGoroutine") = false ∧ fn.body.isSome = true
  call : ∀ a s a' go W, step a s = some (a', go) → Inv a W → Calls Try.prog gf (#[.string s] ++ cap) W fun e W' => e = .returned (.bool go) ∧ Inv a' W' ∧ KeptBy Pc W W'
  keep : ∀ a W W', Inv a W → KeptBy (fun _ t => t = 96) W W' → Inv a W'
  pc : ∀ k t, Pc k t → t ≠ 96 ∧ t ≠ 121
end Go.Proofs.Ytklidannncajiaa.OW

namespace Go.Proofs.Ytklidannncajiaa.OW
open Go.RowKit Go.Proofs.YtklidannncajiaaW.PrintWords Go.Proofs.YtklidannncajiaaW.PrintLast Go.Proofs.YtklidannncajiaaW.PrintMore

/-- The iterator at block g stands at pos. -/
def IterAt (w : World) (g : Nat) (s : ByteArray) (pos : Nat) : Prop := w.heap[g]? = some (.stringIter s pos)
def stepIter (w : World) (g : Nat) (s : ByteArray) (pos : Nat) : World := { w with heap := w.heap.setIfInBounds g (.stringIter s pos) }
section
variable {P : Program}
theorem run_next_at {W : World} {g : Nat} {s : ByteArray} {pos : Nat} (h : IterAt W g s pos) (ty : TypeId) (hp : pos < s.size) :
    (Instr.next (.pointer (some ⟨g, 0, none⟩)) true ty).run P W = .ok (.tuple #[.bool true, .int .i64 pos, .int .i32 (Utf8.decode s pos).1]) (stepIter W g s (pos + (Utf8.decode s pos).2)) := by
  unfold IterAt at h
  simp only [Instr.next, getObj, setObj, Sem.run_bind, Sem.run, h, Result.andThen, hp, if_true]
  simp [goInt, stepIter]
theorem run_next_stop {W : World} {g : Nat} {s : ByteArray} {pos : Nat} (h : IterAt W g s pos) (ty : TypeId) (hp : ¬ pos < s.size) :
    (Instr.next (.pointer (some ⟨g, 0, none⟩)) true ty).run P W = .ok (.tuple #[.bool false]) W := by
  unfold IterAt at h
  simp [Instr.next, getObj, Sem.run, h, hp]
end
theorem IterAt.lt {w : World} {g : Nat} {s : ByteArray} {pos : Nat} (h : IterAt w g s pos) : g < w.heap.size := (Array.getElem?_eq_some_iff.1 h).1
theorem IterAt.step {w : World} {g : Nat} {s : ByteArray} {pos : Nat} (h : IterAt w g s pos) (pos' : Nat) : IterAt (stepIter w g s pos') g s pos' := by
  unfold IterAt stepIter
  rw [Array.getElem?_setIfInBounds]
  simp [h.lt]
theorem IterAt.below {w w1 : World} {g : Nat} {s : ByteArray} {pos : Nat} (h : IterAt w g s pos) (hb : Below w.heap.size w w1) : IterAt w1 g s pos := (hb.block g h.lt).trans h
theorem step_below {B : Nat} {w W : World} {g : Nat} (h : Below B w W) (hg : B ≤ g) (s : ByteArray) (pos : Nat) : Below B w (stepIter W g s pos) :=
  ⟨h.os, h.tape, h.output, by simpa [stepIter] using h.size, fun i hi => by
    unfold stepIter
    rw [Array.getElem?_setIfInBounds, if_neg (by omega)]
    exact h.block i hi⟩
/-- The runes from a place on. -/
def runesFrom (s : ByteArray) : Nat → Nat → List Int
  | 0, _ => []
  | f + 1, pos => if pos < s.size then ((Utf8.decode s pos).1 : Int) :: runesFrom s f (pos + (Utf8.decode s pos).2) else []
theorem decode_pos (s : ByteArray) (pos : Nat) (h : pos < s.size) : 1 ≤ (Utf8.decode s pos).2 := by
  by_cases ha : (s[pos]'h).toNat < 128
  · rw [decode_ascii s pos h ha]
    exact Nat.le_refl 1
  · exact (decode_high s pos h (by omega)).2
theorem runesFrom_fuel (s : ByteArray) : ∀ (f f' pos : Nat), s.size ≤ f + pos → s.size ≤ f' + pos → runesFrom s f pos = runesFrom s f' pos := by
  intro f
  induction f with
  | zero =>
    intro f' pos h h'
    cases f' with
    | zero => rfl
    | succ f' => simp only [runesFrom]; rw [if_neg (by omega)]
  | succ f ih =>
    intro f' pos h h'
    by_cases hp : pos < s.size
    · cases f' with
      | zero => omega
      | succ f' =>
        have := decode_pos s pos hp
        simp only [runesFrom]
        rw [if_pos hp, if_pos hp, ih f' _ (by omega) (by omega)]
    · cases f' with
      | zero => simp only [runesFrom]; rw [if_neg hp]
      | succ f' => simp only [runesFrom]; rw [if_neg hp, if_neg hp]
/-- All runes of a string as a range tells them. -/
def runes (s : ByteArray) (pos : Nat) : List Int := runesFrom s s.size pos
theorem runes_end (s : ByteArray) (pos : Nat) (h : ¬ pos < s.size) : runes s pos = [] := by
  unfold runes
  cases hs : s.size with
  | zero => rfl
  | succ n => simp only [runesFrom]; rw [if_neg h]
theorem runes_next (s : ByteArray) (pos : Nat) (h : pos < s.size) : runes s pos = ((Utf8.decode s pos).1 : Int) :: runes s (pos + (Utf8.decode s pos).2) := by
  have h1 := decode_pos s pos h
  unfold runes
  obtain ⟨n, hn⟩ : ∃ n, s.size = n + 1 := ⟨s.size - 1, by omega⟩
  conv => lhs; rw [hn]
  simp only [runesFrom]
  rw [if_pos h, runesFrom_fuel s n s.size _ (by omega) (by omega)]
theorem runes_len (s : ByteArray) : ∀ (d pos : Nat), s.size - pos ≤ d → (runes s pos).length ≤ s.size - pos := by
  intro d
  induction d with
  | zero => intro pos h; rw [runes_end s pos (by omega)]; simp
  | succ d ih =>
    intro pos h
    by_cases hp : pos < s.size
    · have h1 := decode_pos s pos hp
      have := ih (pos + (Utf8.decode s pos).2) (by omega)
      rw [runes_next s pos hp, List.length_cons]
      omega
    · rw [runes_end s pos hp]; simp
end Go.Proofs.Ytklidannncajiaa.OW

namespace Go.Proofs.Ytklidannncajiaa.OW
open Go.RowKit

theorem size_list (s : ByteArray) : s.size = s.data.toList.length := Lib.size_eq s
theorem bytes_ext {a b : ByteArray} (h : a.data.toList = b.data.toList) : a = b := by
  cases a with | mk x => cases b with | mk y => simp only at h; rw [Array.toList_inj.1 h]
/-- What is left of a text from a place on. -/
def cut (s : ByteArray) (n : Nat) : ByteArray := s.extract n s.size
theorem cut_data (s : ByteArray) (n : Nat) : (cut s n).data.toList = s.data.toList.drop n := by
  unfold cut
  rw [Lib.extract_data, List.take_of_length_le (by rw [List.length_drop, ← size_list]; exact Nat.le_refl _)]
theorem cut_size (s : ByteArray) (n : Nat) : (cut s n).size = s.size - n := by rw [size_list, cut_data, List.length_drop, size_list]
theorem head_data (s : ByteArray) (n : Nat) : (s.extract 0 n).data.toList = s.data.toList.take n := by
  rw [Lib.extract_data]; simp
theorem decode_cut (s : ByteArray) (n pos : Nat) : Utf8.decode (cut s n) pos = Utf8.decode s (n + pos) := by
  rw [← Lib.decodeL_drop, ← Lib.decodeL_drop, cut_data, List.drop_drop]
theorem decode_le_size (s : ByteArray) (pos : Nat) (h : pos < s.size) : pos + (Utf8.decode s pos).2 ≤ s.size := by
  have h1 : s.data.toList.drop pos ≠ [] := by
    intro e
    have := congrArg List.length e
    rw [List.length_drop, ← size_list] at this
    simp at this
    omega
  have h2 := Lib.decodeL_le _ h1
  rw [Lib.decodeL_drop, List.length_drop, ← size_list] at h2
  omega
theorem runes_cut_at (s : ByteArray) (n : Nat) : ∀ (d pos : Nat), s.size ≤ n + pos + d → runes (cut s n) pos = runes s (n + pos) := by
  intro d
  induction d with
  | zero =>
    intro pos h
    rw [runes_end _ _ (by rw [cut_size]; omega), runes_end _ _ (by omega)]
  | succ d ih =>
    intro pos h
    by_cases hp : n + pos < s.size
    · have h1 := decode_pos s (n + pos) hp
      rw [runes_next _ _ (by rw [cut_size]; omega), runes_next _ _ hp, decode_cut, ih _ (by omega), Nat.add_assoc]
    · rw [runes_end _ _ (by rw [cut_size]; omega), runes_end _ _ (by omega)]
theorem runes_cut (s : ByteArray) (n : Nat) : runes (cut s n) 0 = runes s n := runes_cut_at s n s.size 0 (by omega)
/-- No bytes that are none. -/
def Clean (s : ByteArray) : Prop := (65533 : Int) ∉ runes s 0
instance (s : ByteArray) : Decidable (Clean s) := inferInstanceAs (Decidable (¬ _))
theorem runes_first (s : ByteArray) (h : 0 < s.size) : runes s 0 = ((Utf8.decode s 0).1 : Int) :: runes (cut s (Utf8.decode s 0).2) 0 := by
  rw [runes_next s 0 h, runes_cut, Nat.zero_add]
theorem Clean.cut_ {s : ByteArray} (h : Clean s) (h0 : 0 < s.size) : Clean (cut s (Utf8.decode s 0).2) := by
  unfold Clean at h ⊢
  rw [runes_first s h0] at h
  exact fun hm => h (List.mem_cons_of_mem _ hm)
theorem Clean.first_ {s : ByteArray} (h : Clean s) (h0 : 0 < s.size) : (Utf8.decode s 0).1 ≠ 65533 := by
  unfold Clean at h
  rw [runes_first s h0] at h
  intro e
  exact h (by rw [e]; exact List.mem_cons_self)
theorem encode_rune (r : Nat) (hv : r ≤ 1114111) (hs : r < 55296 ∨ 57343 < r) : (Utf8.encode (r : Int)).data.toList = Lib.encodeRune (r : Int) := by
  have hval : Utf8.valid (r : Int) = true := by simp [Utf8.valid]; omega
  unfold Utf8.encode Lib.encodeRune
  simp only [hval, if_true, Int.toNat_natCast]
  have key : ∀ n : Nat, ∀ z : Int, z = n → UInt8.ofNat n = z.toNat.toUInt8 := by
    intro n z hz
    subst hz
    simp
  by_cases c1 : r < 128
  · rw [if_pos c1, Lib.encodeRuneZ_one (by omega) (by omega)]
    simp
  · rw [if_neg c1]
    by_cases c2 : r < 2048
    · rw [if_pos c2, Lib.encodeRuneZ_two (by omega) (by omega)]
      simp only [List.map_cons, List.map_nil]
      rw [key (192 + r / 64) (192 + (r : Int) / 64) (by omega), key (128 + r % 64) (128 + (r : Int) % 64) (by omega)]
    · rw [if_neg c2]
      by_cases c3 : r < 65536
      · rw [if_pos c3, Lib.encodeRuneZ_three (by omega)]
        simp only [List.map_cons, List.map_nil]
        rw [key (224 + r / 4096) (224 + (r : Int) / 4096) (by omega), key (128 + r / 64 % 64) (128 + (r : Int) / 64 % 64) (by omega), key (128 + r % 64) (128 + (r : Int) % 64) (by omega)]
      · rw [if_neg c3, Lib.encodeRuneZ_four (by omega) (by omega)]
        simp only [List.map_cons, List.map_nil]
        rw [key (240 + r / 262144) (240 + (r : Int) / 262144) (by omega), key (128 + r / 4096 % 64) (128 + (r : Int) / 4096 % 64) (by omega), key (128 + r / 64 % 64) (128 + (r : Int) / 64 % 64) (by omega), key (128 + r % 64) (128 + (r : Int) % 64) (by omega)]
theorem decodeN_ok (n b0 b1 b2 b3 : Nat) (hn : (Lib.decodeN n b0 b1 b2 b3).1 ≠ 65533) : (Lib.decodeN n b0 b1 b2 b3).1 ≤ 1114111 ∧ ((Lib.decodeN n b0 b1 b2 b3).1 < 55296 ∨ 57343 < (Lib.decodeN n b0 b1 b2 b3).1) := by
  have h := hn
  clear hn
  rcases Lib.decodeN_shape n b0 b1 b2 b3 with ⟨c, e⟩ | ⟨c1, c2, c3, cv, e⟩ | ⟨c1, c2, c3, c4, cv, cs, e⟩ | ⟨c1, c2, c3, c4, c5, cv, cw, e⟩ | e
  all_goals rw [e] at h ⊢
  all_goals dsimp only at h ⊢
  all_goals omega
theorem decode_ok (s : ByteArray) (pos : Nat) (h : (Utf8.decode s pos).1 ≠ 65533) : (Utf8.decode s pos).1 ≤ 1114111 ∧ ((Utf8.decode s pos).1 < 55296 ∨ 57343 < (Utf8.decode s pos).1) := by
  rw [Lib.decode_N] at h ⊢
  exact decodeN_ok _ _ _ _ _ h
/-- A rune of a text, written anew, is the bytes that it was read from. -/
theorem encode_first (s : ByteArray) (h0 : 0 < s.size) (h : (Utf8.decode s 0).1 ≠ 65533) : Utf8.encode ((Utf8.decode s 0).1 : Int) ++ cut s (Utf8.decode s 0).2 = s := by
  have hd : Lib.decodeL s.data.toList = Utf8.decode s 0 := by have := Lib.decodeL_drop s 0; rwa [List.drop_zero] at this
  have hne : s.data.toList ≠ [] := by intro e; rw [size_list, e] at h0; simp at h0
  have he := Lib.encode_decode s.data.toList hne (by rw [hd]; exact fun hc => h hc.1)
  obtain ⟨h1, h2⟩ := decode_ok s 0 h
  apply bytes_ext
  have happ : ∀ a b : ByteArray, (a ++ b).data.toList = a.data.toList ++ b.data.toList := by intro a b; simp
  rw [happ, encode_rune _ h1 h2, cut_data]
  rw [hd] at he
  rw [he, List.take_append_drop]
theorem encode_size (s : ByteArray) (h0 : 0 < s.size) (h : (Utf8.decode s 0).1 ≠ 65533) : (Utf8.encode ((Utf8.decode s 0).1 : Int)).size = (Utf8.decode s 0).2 := by
  have h1 := congrArg ByteArray.size (encode_first s h0 h)
  rw [ByteArray.size_append, cut_size] at h1
  have h2 := decode_le_size s 0 h0
  omega
theorem runes_empty : runes ⟨#[]⟩ 0 = [] := runes_end _ _ (by decide)
theorem runes_nil_iff (s : ByteArray) : runes s 0 = [] ↔ s.size = 0 := by
  constructor
  · intro h
    by_cases h0 : 0 < s.size
    · rw [runes_first s h0] at h; cases h
    · omega
  · intro h
    exact runes_end _ _ (by omega)
end Go.Proofs.Ytklidannncajiaa.OW

namespace Go.Proofs.Ytklidannncajiaa.OW
open Go.RowKit Go.Proofs.YtklidannncajiaaW.PrintWords Go.Proofs.YtklidannncajiaaW.PrintLast Go.Proofs.YtklidannncajiaaW.PrintMore

theorem IterAt.pos {w : World} {g : Nat} {s : ByteArray} {pos : Nat} (h : IterAt w g s pos) : w.iterPos g = pos := by
  unfold IterAt at h
  simp [World.iterPos, h]
theorem iter_new (w : World) (s : ByteArray) : IterAt (w.iter s 0) w.heap.size s 0 := World.iter_heap w s 0
theorem iter_below (w : World) (s : ByteArray) : Below w.heap.size w (w.iter s 0) := (Below.refl _ _).alloc (Nat.le_refl _) _

def text_Len.f (a0 : ByteArray) : Option Int := if a0.size ≤ 140737488351232 then (if 65533 ∈ runes a0 0 then some (-1) else some ((runes a0 0).length : Int)) else none
set_option maxHeartbeats 1000000 in
theorem text_Len.calls (s : ByteArray) (r : Int) (w : World) (h : text_Len.f s = some r) :
    Calls Try.prog 26 #[.string s] w fun e w' => e = .returned (.int .i64 r) ∧ Below w.heap.size w w' := by
  unfold text_Len.f at h
  by_cases hs : s.size ≤ 140737488351232
  case neg => rw [if_neg hs] at h; cases h
  rw [if_pos hs] at h
  have H := Aside0.mk h
  clear h
  have hrl := runes_len s s.size 0 (by omega)
  go_enter Try.func26, Try.ntmps26
  have IT := Aside0.mk (iter_new w s)
  have HB := Aside0.mk (iter_below w s)
  go_wp2_with fail
  generalize hg : w.heap.size = g at IT ⊢
  have GE := Aside0.mk (Nat.le_of_eq hg)
  clear hg
  generalize w.iter s 0 = w1 at IT HB ⊢
  go_loopw [3] (fun v3 wr => ∃ (pos : Nat) (pre : List Int), v3 = .int .i64 pre.length ∧ Aside0 (IterAt wr g s pos) ∧ Aside0 (runes s 0 = pre ++ runes s pos ∧ 65533 ∉ pre) ∧ Aside0 (Below w.heap.size w wr)) (fun _ wr => s.size - wr.iterPos g)
  case atStart => exact ⟨0, [], rfl, IT, ⟨rfl, by simp⟩, HB⟩
  case round =>
    clear IT HB
    obtain ⟨pos, pre, rfl, IT, HR, HB⟩ := hrel
    have hle : pre.length ≤ 140737488351232 := by have := congrArg List.length HR.out.1; rw [List.length_append] at this; omega
    by_cases hp : pos < s.size
    · have hn := runes_next s pos hp
      have hdp := decode_pos s pos hp
      have IT2 := Aside0.mk (IT.out.step (pos + (Utf8.decode s pos).2))
      have HB2 := Aside0.mk (step_below HB.out GE.out s (pos + (Utf8.decode s pos).2))
      have hrun := run_next_at (P := Try.prog) IT.out 0 hp
      have hpos := IT.out.pos
      generalize (Utf8.decode s pos).2 = sz at hn hdp IT2 HB2 hrun
      generalize stepIter wr g s (pos + sz) = w2 at IT2 HB2 hrun
      generalize hc : (Utf8.decode s pos).1 = c at hn hrun
      have HN := Aside0.mk hn
      have HD := Aside0.mk hdp
      have HP := Aside0.mk hpos
      clear hn hdp hpos hc
      by_cases hodd : c = 65533
      · subst hodd
        go_wp2
        go_ret
        have hin : 65533 ∈ runes s 0 := by rw [HR.out.1, HN.out]; simp
        have hr := H.out
        rw [if_pos hin] at hr
        obtain rfl := Option.some.inj hr
        exact ⟨rfl, HB2.out⟩
      · have hce : ((c : Int) == 65533) = false := by simp; omega
        go_wp2
        go_roundw
        case rel => exact ⟨pos + sz, pre ++ [(c : Int)], by rw [List.length_append]; rfl, IT2, ⟨by rw [HR.out.1, HN.out, List.append_assoc]; rfl, by
          intro hm
          rcases List.mem_append.1 hm with hm | hm
          · exact HR.out.2 hm
          · have : (65533 : Int) = c := by simpa using hm
            omega⟩, HB2⟩
        case measure => have h1 := IT2.out.pos; have h2 := HP.out; have h3 := HD.out; rw [h1, h2]; omega
    · have hrun := run_next_stop (P := Try.prog) IT.out 0 hp
      go_wp2
      go_ret
      have he := HR.out.1
      rw [runes_end s pos hp, List.append_nil] at he
      have hr := H.out
      rw [he, if_neg HR.out.2] at hr
      obtain rfl := Option.some.inj hr
      exact ⟨rfl, HB.out⟩

theorem iter_ne {w : World} {g base n : Nat} {s : ByteArray} {pos : Nat} {e size : Nat} {v : Value} {xs : List Value} (h : IterAt w g s pos) (ho : w.ownsRow base e size v n xs) : some g ≠ v.ownBlock := by
  intro hk
  obtain ⟨cells, hc⟩ := own_typed ho g hk.symm
  unfold IterAt at h
  rw [h] at hc
  cases hc
theorem iter_grown {w w1 : World} {g : Nat} {s : ByteArray} {pos : Nat} {row : Option Nat} (h : IterAt w g s pos) (hg : w.grownBy w1 row) (hne : some g ≠ row) : IterAt w1 g s pos := (hg.block g h.lt hne).trans h
theorem own_step {W : World} {g base n e size : Nat} {s : ByteArray} {pos : Nat} {v : Value} {xs : List Value} (h : IterAt W g s pos) (ho : W.ownsRow base e size v n xs) (pos' : Nat) : (stepIter W g s pos').ownsRow base e size v n xs := by
  refine own_move ho (fun k hk => ?_)
  have hne := iter_ne h ho
  unfold stepIter
  rw [Array.getElem?_setIfInBounds, if_neg (by intro e; subst e; exact hne hk.symm)]
def text_Runes.f (a0 : ByteArray) : Option (List Int × Bool) := if a0.size ≤ 35184372087808 then (if 65533 ∈ runes a0 0 then some ([], false) else some (runes a0 0, true)) else none
set_option maxHeartbeats 2000000 in
theorem text_Runes.calls (s : ByteArray) (r1 : List Int) (r2 : Bool) (w : World) (h : text_Runes.f s = some (r1, r2)) :
    Calls Try.prog 53 #[.string s] w fun e w' => ∃ v0_ : Value, e = .returned (.tuple #[v0_, .bool r2]) ∧ Kd.R (Kd.int .i32) 21 w' w.heap.size (fun _ => True) v0_ r1 ∧ Below w.heap.size w w' := by
  unfold text_Runes.f at h
  by_cases hs : s.size ≤ 35184372087808
  case neg => rw [if_neg hs] at h; cases h
  rw [if_pos hs] at h
  have H := Aside0.mk h
  clear h
  have hrl := runes_len s s.size 0 (by omega)
  go_enter Try.func53, Try.ntmps53
  have IT := Aside0.mk (iter_new w s)
  have HB := Aside0.mk (iter_below w s)
  go_wp2_with fail
  generalize hg : w.heap.size = g at IT ⊢
  have GE := Aside0.mk (Nat.le_of_eq hg)
  clear hg
  generalize w.iter s 0 = w1 at IT HB ⊢
  go_loopw [4] (fun v4 wr => ∃ (pos : Nat) (pre : List Int), Aside0 (wr.ownsRow w.heap.size 21 1 v4 pre.length (nums .i32 pre)) ∧ Aside0 (IterAt wr g s pos) ∧ Aside0 (runes s 0 = pre ++ runes s pos ∧ 65533 ∉ pre) ∧ Aside0 (Below w.heap.size w wr)) (fun _ wr => s.size - wr.iterPos g)
  case atStart => exact ⟨0, [], ⟨own_nil _ _ _ _⟩, IT, ⟨rfl, by simp⟩, HB⟩
  case round =>
    clear IT HB
    obtain ⟨pos, pre, HO, IT, HR, HB⟩ := hrel
    have hle : pre.length ≤ 35184372087808 := by have := congrArg List.length HR.out.1; rw [List.length_append] at this; omega
    have HLE := Aside0.mk hle
    clear hle
    by_cases hp : pos < s.size
    · have hn := runes_next s pos hp
      have hdp := decode_pos s pos hp
      have IT2 := Aside0.mk (IT.out.step (pos + (Utf8.decode s pos).2))
      have HB2 := Aside0.mk (step_below HB.out GE.out s (pos + (Utf8.decode s pos).2))
      have HO2 := Aside0.mk (own_step IT.out HO.out (pos + (Utf8.decode s pos).2))
      have hrun := run_next_at (P := Try.prog) IT.out 0 hp
      have hpos := IT.out.pos
      generalize (Utf8.decode s pos).2 = sz at hn hdp IT2 HB2 HO2 hrun
      generalize stepIter wr g s (pos + sz) = w2 at IT2 HB2 HO2 hrun
      generalize hc : (Utf8.decode s pos).1 = c at hn hrun
      have HN := Aside0.mk hn
      have HD := Aside0.mk hdp
      have HP := Aside0.mk hpos
      clear hn hdp hpos hc
      by_cases hodd : c = 65533
      · subst hodd
        go_wp2
        go_ret2
        have hin : 65533 ∈ runes s 0 := by rw [HR.out.1, HN.out]; simp
        have hr := H.out
        rw [if_pos hin] at hr
        obtain ⟨rfl, rfl⟩ := Prod.mk.inj (Option.some.inj hr)
        exact ⟨_, rfl, Kd.R_nil _ _ _ _ _, HB2.out⟩
      · have hce : ((c : Int) == 65533) = false := by simp; omega
        go_wp2_with (at_builtin; refine print_append_num (w0 := w) w.heap.size rfl (.tmp 14) (.tmp 16) 74 21 .i32 4 rfl Try.underlying74 info21 (by decide) u4 pre (c : Int) rfl rfl HO2.out HB2.out HB2.out.size (by have := HLE.out; omega) ?_; intro v1 w3 ho hb hg3 _; have HO3 := Aside0.mk ho; have HB3 := Aside0.mk hb; have IT3 := Aside0.mk (iter_grown IT2.out hg3 (iter_ne IT2.out HO2.out)); clear ho hb hg3)
        go_roundw
        case rel => exact ⟨pos + sz, pre ++ [(c : Int)], HO3, IT3, ⟨by rw [HR.out.1, HN.out, List.append_assoc]; rfl, by
          intro hm
          rcases List.mem_append.1 hm with hm | hm
          · exact HR.out.2 hm
          · have : (65533 : Int) = c := by simpa using hm
            omega⟩, HB3⟩
        case measure => have h1 := IT3.out.pos; have h2 := HP.out; have h3 := HD.out; rw [h1, h2]; omega
    · have hrun := run_next_stop (P := Try.prog) IT.out 0 hp
      go_wp2
      go_ret2
      have he := HR.out.1
      rw [runes_end s pos hp, List.append_nil] at he
      have hr := H.out
      rw [he, if_neg HR.out.2] at hr
      obtain ⟨rfl, rfl⟩ := Prod.mk.inj (Option.some.inj hr)
      exact ⟨_, rfl, Kd.R_of_own HO.out (fun _ _ => trivial), HB.out⟩

theorem decode_in (s : ByteArray) (pos : Nat) (h : pos < s.size) : pos + (Utf8.decode s pos).2 ≤ s.size := by
  unfold Utf8.decode
  simp only
  split
  · simp only; omega
  · split
    · rename_i h2
      simp only [Bool.and_eq_true, decide_eq_true_eq] at h2
      split <;> simp only <;> omega
    · split
      · rename_i h2
        simp only [Bool.and_eq_true, decide_eq_true_eq] at h2
        split <;> simp only <;> omega
      · split
        · rename_i h2
          simp only [Bool.and_eq_true, decide_eq_true_eq] at h2
          split <;> simp only <;> omega
        · simp only; omega
def graph_first.f (a0 : ByteArray) : Option (Int × Int) := if a0.size ≤ 140737488351232 then (if a0.size = 0 then some (0, 0) else some (((Utf8.decode a0 0).1 : Int), ((Utf8.decode a0 0).2 : Int))) else none
set_option maxHeartbeats 2000000 in
theorem graph_first.calls (s : ByteArray) (r1 r2 : Int) (w : World) (h : graph_first.f s = some (r1, r2)) :
    Calls Try.prog 51 #[.string s] w fun e w' => e = .returned (.tuple #[.int .i32 r1, .int .i64 r2]) ∧ Below w.heap.size w w' := by
  unfold graph_first.f at h
  by_cases hs : s.size ≤ 140737488351232
  case neg => rw [if_neg hs] at h; cases h
  rw [if_pos hs] at h
  have H := Aside0.mk h
  clear h
  go_enter Try.func51, Try.ntmps51
  have IT := Aside0.mk (iter_new w s)
  have HB := Aside0.mk (iter_below w s)
  go_wp2_with fail
  generalize hg : w.heap.size = g at IT ⊢
  have GE := Aside0.mk (Nat.le_of_eq hg)
  clear hg
  generalize w.iter s 0 = w1 at IT HB ⊢
  go_loopw [4] (fun v4 wr => ∃ (pos : Nat) (c : Nat), v4 = .int .i32 c ∧ Aside0 (IterAt wr g s pos) ∧ Aside0 ((pos = 0 ∧ c = 0) ∨ (0 < s.size ∧ pos = (Utf8.decode s 0).2 ∧ c = (Utf8.decode s 0).1)) ∧ Aside0 (Below w.heap.size w wr)) (fun _ wr => s.size - wr.iterPos g)
  case atStart => exact ⟨0, 0, rfl, IT, ⟨.inl ⟨rfl, rfl⟩⟩, HB⟩
  case round =>
    clear IT HB
    obtain ⟨pos, c, rfl, IT, HR, HB⟩ := hrel
    by_cases hp : pos < s.size
    · have hdp := decode_pos s pos hp
      have IT2 := Aside0.mk (IT.out.step (pos + (Utf8.decode s pos).2))
      have HB2 := Aside0.mk (step_below HB.out GE.out s (pos + (Utf8.decode s pos).2))
      have hrun := run_next_at (P := Try.prog) IT.out 0 hp
      have HP := Aside0.mk IT.out.pos
      have HD := Aside0.mk hdp
      clear hdp
      generalize hw2 : stepIter wr g s (pos + (Utf8.decode s pos).2) = w2 at IT2 HB2 hrun
      clear hw2
      rcases HR.out with ⟨rfl, rfl⟩ | ⟨h0, hpos, hc⟩
      · go_wp2
        go_roundw
        case rel => exact ⟨0 + (Utf8.decode s 0).2, (Utf8.decode s 0).1, rfl, IT2, ⟨.inr ⟨hp, by omega, rfl⟩⟩, HB2⟩
        case measure => have h1 := IT2.out.pos; have h2 := HP.out; have h3 := HD.out; rw [h1, h2]; omega
      · have hpp : 0 < pos := by have := decode_pos s 0 h0; omega
        have hr := H.out
        rw [if_neg (by omega), ← hpos, ← hc] at hr
        obtain ⟨rfl, rfl⟩ := Prod.mk.inj (Option.some.inj hr)
        clear hr hpos hc h0
        have hpi : (0 : Int) < (pos : Int) := by omega
        go_wp2
        go_ret2
        exact ⟨rfl, HB2.out⟩
    · have hrun := run_next_stop (P := Try.prog) IT.out 0 hp
      have he : some ((c : Int), (s.size : Int)) = some (r1, r2) := by
        have hr := H.out
        rcases HR.out with ⟨rfl, rfl⟩ | ⟨h0, hpos, hc⟩
        · rw [if_pos (by omega)] at hr
          rw [← hr, show s.size = 0 by omega]
          rfl
        · have := decode_in s 0 h0
          rw [if_neg (by omega), ← hpos, ← hc] at hr
          rw [← hr, show s.size = pos by omega]
      obtain ⟨rfl, rfl⟩ := Prod.mk.inj (Option.some.inj he)
      clear he
      go_wp2
      go_ret2
      exact ⟨rfl, HB.out⟩
end Go.Proofs.Ytklidannncajiaa.OW
