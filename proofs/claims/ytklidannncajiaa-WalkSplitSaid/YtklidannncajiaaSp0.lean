/- What the row of the law WalkSplit leans on: contracts of functions and plain laws, each for all inputs that its own theorem names. -/
import Derived.Test.YtklidannncajiaaProg
import Derived.Below
import Derived.Deep.Draws
import Derived.Deep.AppendLies
import Derived.Maps.AppendAt
import Derived.OwnWalk
import Derived.Laws.BytesArg
import Derived.Laws.MakeOwn
import Derived.Laws.OwnMore
import Derived.Deep.OwnRows
import Derived.Tactics
import Derived.Lib.ConvBytes
import Derived.Laws.Slices
import Derived.WalkKit
import Derived.KernelRfl
import Derived.RowKit3
import Derived.Deep.LoopGhost
import Derived.Deep.QuietTactic
import Derived.BigQuiet
import Derived.WideLaws
import Derived.Deep.DeepCutAuto
import Derived.Deep.CutBlock
import Derived.Deep.RegionHeld3
import Derived.Laws.Rows
import Derived.Lib.AppendStr
import Derived.ArgAppend
import Derived.Laws.IdiomCopy
import Derived.OrdersHeld
import Derived.Laws.BitsLemmas
import Derived.RowKit
import Derived.WalkSpells
import Derived.Test.YtklidannncajiaaWWords
import Derived.Test.YtklidannncajiaaWLast
import Derived.Test.YtklidannncajiaaWTab
import Derived.Test.YtklidannncajiaaWFour
import Derived.Test.YtklidannncajiaaWQPut
import Derived.Test.YtklidannncajiaaWApart
import Derived.Test.YtklidannncajiaaWArr
import Derived.Test.YtklidannncajiaaWZeros
import Derived.Test.YtklidannncajiaaWFoot
import Derived.Test.YtklidannncajiaaWKept
import Derived.Test.YtklidannncajiaaWShare
import Derived.Test.YtklidannncajiaaWN
import Derived.Test.YtklidannncajiaaWFootNe
import Derived.Test.YtklidannncajiaaWAt
import Derived.Test.YtklidannncajiaaWEqStruct
import Derived.Test.YtklidannncajiaaWRepsOne
import Derived.Test.YtklidannncajiaaWInv
import Derived.Test.YtklidannncajiaaWInvWords
import Derived.Test.YtklidannncajiaaWGuard
import Derived.Test.YtklidannncajiaaWNEv
import Derived.Test.YtklidannncajiaaWMore
import Derived.Laws.RangeAny
import Derived.Lib.MapLaws
import Derived.Outline
import Derived.Shelf.Strings.Builder1
import Derived.Shelf.Strings.Builder2
import Derived.Shelf.Strings.OnBuilder
import Derived.Shelf.Small.Bits
import Derived.Shelf.Small.Strs
import Derived.Shelf.Small.Wraps
import Derived.Shelf.Strings.BuilderF
import Derived.Shelf.Strings.BuilderK
import Derived.Shelf.Strings.Builder2Cap
import Derived.Shelf.Strconv.Itoa0
import Derived.Shelf.Strings.Prefix
import Derived.Ground.Names2Prog
import Derived.Shelf.Slices.Clone
import Derived.Shelf.Slices.CompactS
import Derived.Shelf.Slices.SearchI
import Derived.Shelf.Slices.Cells
import Derived.Ground.SlgnProg
import Derived.Shelf.SlicesE.Clone
import Derived.Maps.OwnSet
import Derived.Maps.Views
-- Laid by a program of this session (wip/ownprint.py, wip/hooks.py) over the seat's translation. Lean checks it.
namespace Go.Proofs.Ytklidannncajiaa.OW
open Go.RowKit Go.Proofs.YtklidannncajiaaW.PrintWords Go.Proofs.YtklidannncajiaaW.PrintLast Go.Proofs.YtklidannncajiaaW.PrintMore
attribute [local go_sem] max2_int min2_int max_two min_two max_three min_three max_four min_four   -- for this text's walks alone
set_option linter.unusedVariables false
set_option linter.unusedSimpArgs false



def errW : Option Int → Value
  | none => .nilIface
  | some c => .iface 0 (.int .i64 c)
theorem errW_none : errW none = .nilIface := rfl
theorem errW_some (c : Int) : errW (some c) = .iface 0 (.int .i64 c) := rfl

theorem info3 : (Try.prog.info? 3).map (fun i => (i.zero, i.size, i.bytes)) = some (some (.int .i64 0), 1, 8) := by kernel_rfl
theorem info9 : (Try.prog.info? 9).map (fun i => (i.zero, i.size, i.bytes)) = some (some (.string ⟨#[]⟩), 1, 16) := by kernel_rfl
theorem info21 : (Try.prog.info? 21).map (fun i => (i.zero, i.size, i.bytes)) = some (some (.int .i32 0), 1, 4) := by kernel_rfl
theorem info24 : (Try.prog.info? 24).map (fun i => (i.zero, i.size, i.bytes)) = some (some (.agg #[(.int .i64 0), (.string ⟨#[]⟩)]), 2, 24) := by kernel_rfl
theorem info72 : (Try.prog.info? 72).map (fun i => (i.zero, i.size, i.bytes)) = some (some (.agg #[(.bool false), (.slice none 0 0)]), 2, 32) := by kernel_rfl
theorem info91 : (Try.prog.info? 91).map (fun i => (i.zero, i.size, i.bytes)) = some (some (.agg #[(.int .i32 0), (.int .i64 0)]), 2, 16) := by kernel_rfl
theorem info96 : (Try.prog.info? 96).map (fun i => (i.zero, i.size, i.bytes)) = some (some (.agg #[(.int .i64 0), (.slice none 0 0), (.string ⟨#[]⟩)]), 3, 48) := by kernel_rfl
theorem info121 : (Try.prog.info? 121).map (fun i => (i.zero, i.size, i.bytes)) = some (some (.agg #[(.int .i64 0), (.int .i64 0)]), 2, 16) := by kernel_rfl
-- the values' own types
/-! #### struct type 121 -/
structure S121 where
  f0 : Int
  f1 : Int
def z121 : S121 := ⟨(0 : Int), (0 : Int)⟩
def k121 : Kd S121 := Kd.iso (Kd.pair (Kd.int .i64) (Kd.int .i64)) (fun x : S121 => (x.f0, x.f1))
theorem k121_open {w : World} {x : S121} {cs : List Value} (h : k121.K w x cs) : cs = [.int .i64 x.f0, .int .i64 x.f1] := by
  obtain ⟨_, _, rfl, rfl, rfl⟩ := h
  exact rfl
theorem k121_mkM (w : World) (base : Nat) (ok : Nat → Prop) (x : S121)  : k121.M w base ok x [.int .i64 x.f0, .int .i64 x.f1] := ⟨[.int .i64 x.f0], [.int .i64 x.f1], rfl, rfl, rfl⟩
def rd_T121 (xs : List S121) (i : Int) : S121 := xs.getD i.toNat z121
theorem at_T121 {w : World} {A : Option Addr} {n : Nat} {xs : List S121} (h : Kd.C k121 w A n xs) (i : Int) (h0 : 0 ≤ i) (h1 : i < n) : ∃ ad , A = some ad ∧ w.cell? (ad.add (i.toNat * 2)) = some (.int .i64 (rd_T121 xs i).f0) ∧ w.cell? ⟨(ad.add (i.toNat * 2)).block, (ad.add (i.toNat * 2)).off + 1, none⟩ = some (.int .i64 (rd_T121 xs i).f1) := by
  obtain ⟨ad, c, e, _, hK, hc0⟩ := Kd.C_get h z121 i h0 h1
  have hc : ∀ j u, c[j]? = some u → w.cell? (ad.add (i.toNat * 2 + j)) = some u := hc0
  obtain rfl := k121_open hK
  exact ⟨ad, e, hc 0 _ rfl, by rw [← add_field _ _ 1 (by omega)]; exact hc 1 _ rfl⟩

/-! #### struct type 91 -/
structure S91 where
  f0 : Int
  f1 : Int
def z91 : S91 := ⟨(0 : Int), (0 : Int)⟩
def k91 : Kd S91 := Kd.iso (Kd.pair (Kd.int .i32) (Kd.int .i64)) (fun x : S91 => (x.f0, x.f1))
theorem k91_open {w : World} {x : S91} {cs : List Value} (h : k91.K w x cs) : cs = [.int .i32 x.f0, .int .i64 x.f1] := by
  obtain ⟨_, _, rfl, rfl, rfl⟩ := h
  exact rfl
theorem k91_openM {w : World} {base : Nat} {ok : Nat → Prop} {x : S91} {cs : List Value} (h : k91.M w base ok x cs) : cs = [.int .i32 x.f0, .int .i64 x.f1] := by
  obtain ⟨_, _, rfl, rfl, rfl⟩ := h
  exact rfl
theorem k91_mkM (w : World) (base : Nat) (ok : Nat → Prop) (x : S91)  : k91.M w base ok x [.int .i32 x.f0, .int .i64 x.f1] := ⟨[.int .i32 x.f0], [.int .i64 x.f1], rfl, rfl, rfl⟩
def rd_T91 (xs : List S91) (i : Int) : S91 := xs.getD i.toNat z91
/-! #### struct type 72 -/
structure S72 where
  f0 : Bool
  f1 : (List S91)
def z72 : S72 := ⟨false, ([] : List S91)⟩
def k72 : Kd S72 := Kd.iso (Kd.pair Kd.bool (Kd.slice 91 k91)) (fun x : S72 => (x.f0, x.f1))
theorem k72_open {w : World} {x : S72} {cs : List Value} (h : k72.K w x cs) : ∃ A1 c1, cs = [.bool x.f0, .slice A1 x.f1.length c1] ∧ x.f1.length ≤ c1 ∧ k91.C w A1 x.f1.length x.f1 := by
  obtain ⟨_, _, rfl, rfl, ⟨A1, c1, rfl, l1, g1⟩⟩ := h
  exact ⟨A1, c1, rfl, l1, g1⟩
theorem k72_openM {w : World} {base : Nat} {ok : Nat → Prop} {x : S72} {cs : List Value} (h : k72.M w base ok x cs) : ∃ v1, cs = [.bool x.f0, v1] ∧ k91.R 91 w base ok v1 x.f1 := by
  obtain ⟨_, _, rfl, rfl, ⟨v1, rfl, g1⟩⟩ := h
  exact ⟨v1, rfl, g1⟩
theorem k72_mkM (w : World) (base : Nat) (ok : Nat → Prop) (x : S72) {v1 : Value} (g1 : k91.R 91 w base ok v1 x.f1) : k72.M w base ok x [.bool x.f0, v1] := ⟨[.bool x.f0], [v1], rfl, rfl, ⟨v1, rfl, g1⟩⟩
def rd_T72 (xs : List S72) (i : Int) : S72 := xs.getD i.toNat z72
theorem at_T72 {w : World} {A : Option Addr} {n : Nat} {xs : List S72} (h : Kd.C k72 w A n xs) (i : Int) (h0 : 0 ≤ i) (h1 : i < n) : ∃ ad A1 c1, A = some ad ∧ w.cell? (ad.add (i.toNat * 2)) = some (.bool (rd_T72 xs i).f0) ∧ w.cell? ⟨(ad.add (i.toNat * 2)).block, (ad.add (i.toNat * 2)).off + 1, none⟩ = some (.slice A1 (rd_T72 xs i).f1.length c1) ∧ (rd_T72 xs i).f1.length ≤ c1 ∧ k91.C w A1 (rd_T72 xs i).f1.length (rd_T72 xs i).f1 := by
  obtain ⟨ad, c, e, _, hK, hc0⟩ := Kd.C_get h z72 i h0 h1
  have hc : ∀ j u, c[j]? = some u → w.cell? (ad.add (i.toNat * 2 + j)) = some u := hc0
  obtain ⟨A1, c1, rfl, l1, g1⟩ := k72_open hK
  exact ⟨ad, A1, c1, e, hc 0 _ rfl, by rw [← add_field _ _ 1 (by omega)]; exact hc 1 _ rfl, l1, g1⟩

/-! #### struct type 96 -/
structure S96 where
  f0 : Int
  f1 : (List S121)
  f2 : ByteArray
def z96 : S96 := ⟨(0 : Int), ([] : List S121), (⟨#[]⟩ : ByteArray)⟩
def k96 : Kd S96 := Kd.iso (Kd.pair (Kd.int .i64) (Kd.pair (Kd.slice 121 k121) Kd.string)) (fun x : S96 => (x.f0, x.f1, x.f2))
theorem k96_openM {w : World} {base : Nat} {ok : Nat → Prop} {x : S96} {cs : List Value} (h : k96.M w base ok x cs) : ∃ v1, cs = [.int .i64 x.f0, v1, .string x.f2] ∧ k121.R 121 w base ok v1 x.f1 := by
  obtain ⟨_, _, rfl, rfl, ⟨_, _, rfl, ⟨v1, rfl, g1⟩, rfl⟩⟩ := h
  exact ⟨v1, rfl, g1⟩
theorem k96_mkM (w : World) (base : Nat) (ok : Nat → Prop) (x : S96) {v1 : Value} (g1 : k121.R 121 w base ok v1 x.f1) : k96.M w base ok x [.int .i64 x.f0, v1, .string x.f2] := ⟨[.int .i64 x.f0], [v1, .string x.f2], rfl, rfl, ⟨[v1], [.string x.f2], rfl, ⟨v1, rfl, g1⟩, rfl⟩⟩
def rd_T96 (xs : List S96) (i : Int) : S96 := xs.getD i.toNat z96
/-! #### struct type 24 -/
structure S24 where
  f0 : Int
  f1 : ByteArray
def z24 : S24 := ⟨(0 : Int), (⟨#[]⟩ : ByteArray)⟩
def k24 : Kd S24 := Kd.iso (Kd.pair (Kd.int .i64) Kd.string) (fun x : S24 => (x.f0, x.f1))
theorem k24_open {w : World} {x : S24} {cs : List Value} (h : k24.K w x cs) : cs = [.int .i64 x.f0, .string x.f1] := by
  obtain ⟨_, _, rfl, rfl, rfl⟩ := h
  exact rfl
theorem k24_openM {w : World} {base : Nat} {ok : Nat → Prop} {x : S24} {cs : List Value} (h : k24.M w base ok x cs) : cs = [.int .i64 x.f0, .string x.f1] := by
  obtain ⟨_, _, rfl, rfl, rfl⟩ := h
  exact rfl
theorem k24_mkM (w : World) (base : Nat) (ok : Nat → Prop) (x : S24)  : k24.M w base ok x [.int .i64 x.f0, .string x.f1] := ⟨[.int .i64 x.f0], [.string x.f1], rfl, rfl, rfl⟩
def rd_T24 (xs : List S24) (i : Int) : S24 := xs.getD i.toNat z24
theorem at_T24 {w : World} {A : Option Addr} {n : Nat} {xs : List S24} (h : Kd.C k24 w A n xs) (i : Int) (h0 : 0 ≤ i) (h1 : i < n) : ∃ ad , A = some ad ∧ w.cell? (ad.add (i.toNat * 2)) = some (.int .i64 (rd_T24 xs i).f0) ∧ w.cell? ⟨(ad.add (i.toNat * 2)).block, (ad.add (i.toNat * 2)).off + 1, none⟩ = some (.string (rd_T24 xs i).f1) := by
  obtain ⟨ad, c, e, _, hK, hc0⟩ := Kd.C_get h z24 i h0 h1
  have hc : ∀ j u, c[j]? = some u → w.cell? (ad.add (i.toNat * 2 + j)) = some u := hc0
  obtain rfl := k24_open hK
  exact ⟨ad, e, hc 0 _ rfl, by rw [← add_field _ _ 1 (by omega)]; exact hc 1 _ rfl⟩

end Go.Proofs.Ytklidannncajiaa.OW

namespace Go.Proofs.Ytklidannncajiaa.OW
open Go.RowKit Go.Proofs.YtklidannncajiaaW.PrintWords Go.Proofs.YtklidannncajiaaW.PrintLast Go.Proofs.YtklidannncajiaaW.PrintMore

/-- The graph at block g has these nodes. -/
structure GraphAt (w : World) (g : Nat) (ns : List S72) : Prop where
  row : ∃ A c, w.cell? ⟨g, 0, none⟩ = some (.slice A ns.length c) ∧ ns.length ≤ c ∧ Kd.C k72 w A ns.length ns
theorem GraphAt.below {w w1 : World} {g : Nat} {ns : List S72} (h : GraphAt w g ns) (hb : Below w.heap.size w w1) : GraphAt w1 g ns := by
  obtain ⟨A, c, h1, h2, h3⟩ := h.row
  exact ⟨A, c, pw_cell_below hb h1, h2, Kd.C_below h3 hb⟩
set_option maxHeartbeats 1000000 in
set_option maxRecDepth 100000 in
theorem graph_Nodes.calls (g : Nat) (ns : List S72) (w : World) (hG : GraphAt w g ns) :
    Calls Try.prog 33 #[.pointer (some ⟨g, 0, none⟩)] w fun e w' => e = .returned (.int .i64 ns.length) ∧ w' = w := by
  obtain ⟨A, c, h1, h2, h3⟩ := hG.row
  have H3 := Aside0.mk h3
  clear h3 hG
  go_enter Try.func33, Try.ntmps33
  go_wp2
  go_ret
  exact ⟨rfl, rfl⟩
def nodeAt (ns : List S72) (n : Int) : S72 := if 0 ≤ n then rd_T72 ns n else z72
set_option maxHeartbeats 1000000 in
set_option maxRecDepth 100000 in
theorem graph_get.calls (g : Nat) (ns : List S72) (n : Int) (w : World) (hG : GraphAt w g ns) :
    Calls Try.prog 78 #[.pointer (some ⟨g, 0, none⟩), .int .i64 n] w fun e w' => ∃ A c, e = .returned (.agg #[.bool (nodeAt ns n).f0, .slice A (nodeAt ns n).f1.length c]) ∧ (nodeAt ns n).f1.length ≤ c ∧ Kd.C k91 w' A (nodeAt ns n).f1.length (nodeAt ns n).f1 ∧ Below w.heap.size w w' := by
  obtain ⟨A, c, h1, h2, h3⟩ := hG.row
  have HG := Aside0.mk hG
  have H3 := Aside0.mk h3
  have HB0 := Aside0.mk ((Below.refl w.heap.size w).alloc (Nat.le_refl _) (.cells #[.bool false, .slice none 0 0] 72))
  clear h3 hG
  by_cases hn : 0 ≤ n ∧ n < ns.length
  · obtain ⟨hn0, hn1⟩ := hn
    have e : nodeAt ns n = rd_T72 ns n := if_pos hn0
    rw [e]
    clear e
    obtain ⟨ad, A1, c1, rfl, hx0, hx1, hl1, hC1⟩ := at_T72 H3.out n hn0 hn1
    have HC := Aside0.mk hC1
    have HL := Aside0.mk hl1
    clear hC1 hl1
    have h1' := pw_cell_below HB0.out h1
    have hx0' := pw_cell_below HB0.out hx0
    have hx1' := pw_cell_below HB0.out hx1
    have ne : ad.block ≠ w.heap.size := by
      have := World.block_lt_of_cell? w _ hx0
      rw [add_block] at this
      omega
    clear h1 hx0 hx1
    have d0 : decide (n < 0) = false := decide_eq_false (by omega)
    have d1 : decide ((ns.length : Int) ≤ n) = false := decide_eq_false (by omega)
    go_enter Try.func78, Try.ntmps78
    go_wp2_with ((with_reducible refine gate_callee (f := 33) rfl ?_); (try (refine gate_guard (by rfl) ?_; dsimp only)); refine goesL_ (some 10) rfl rfl Try.func33 (by kernel_rfl) rfl #[.pointer (some ⟨g, 0, none⟩)] rfl (by (try simp only [List.map_toArray, List.map_cons, List.map_nil]); first | done | rfl) ?_; (with_reducible refine (graph_Nodes.calls g ns _ (HG.out.below HB0.out)).mono ?_); rintro e w' ⟨rfl, rfl⟩; refine ⟨_, rfl, ?_⟩)
    exact bodyPost_ret (v := .agg #[.bool (rd_T72 ns n).f0, .slice A1 (rd_T72 ns n).f1.length c1]) (by simp [results, Try.results78, go_sem]) rfl ⟨A1, c1, rfl, HL.out, Kd.C_below HC.out ((Below.refl _ _).alloc (Nat.le_refl _) _), (Below.refl _ _).alloc (Nat.le_refl _) _⟩
  · have e : nodeAt ns n = z72 := by
      unfold nodeAt
      by_cases h0 : 0 ≤ n
      · rw [if_pos h0]
        unfold rd_T72
        rw [List.getD_eq_getElem?_getD, List.getElem?_eq_none (by omega)]
        rfl
      · rw [if_neg h0]
    rw [e]
    clear e
    by_cases h0 : n < 0
    · have d0 : decide (n < 0) = true := decide_eq_true h0
      go_enter Try.func78, Try.ntmps78
      go_wp2
      exact bodyPost_ret (v := .agg #[.bool false, .slice none 0 0]) (by simp [results, Try.results78, go_sem]) rfl ⟨none, 0, rfl, Nat.le_refl _, ⟨rfl, by simp [z72], fun h => absurd h (by simp [z72])⟩, (Below.refl _ _).alloc (Nat.le_refl _) _⟩
    · have d0 : decide (n < 0) = false := decide_eq_false h0
      have d1 : decide ((ns.length : Int) ≤ n) = true := decide_eq_true (by omega)
      go_enter Try.func78, Try.ntmps78
      go_wp2_with ((with_reducible refine gate_callee (f := 33) rfl ?_); (try (refine gate_guard (by rfl) ?_; dsimp only)); refine goesL_ (some 10) rfl rfl Try.func33 (by kernel_rfl) rfl #[.pointer (some ⟨g, 0, none⟩)] rfl (by (try simp only [List.map_toArray, List.map_cons, List.map_nil]); first | done | rfl) ?_; (with_reducible refine (graph_Nodes.calls g ns _ (HG.out.below HB0.out)).mono ?_); rintro e w' ⟨rfl, rfl⟩; refine ⟨_, rfl, ?_⟩)
      exact bodyPost_ret (v := .agg #[.bool false, .slice none 0 0]) (by simp [results, Try.results78, go_sem]) rfl ⟨none, 0, rfl, Nat.le_refl _, ⟨rfl, by simp [z72], fun h => absurd h (by simp [z72])⟩, (Below.refl _ _).alloc (Nat.le_refl _) _⟩
def api_Edge.f (l0 : List S91) : Option (List S91) := if l0.length < 8796093022208 then (some l0) else none
set_option maxHeartbeats 8000000 in
set_option maxRecDepth 100000 in
theorem api_Edge.calls (A0 : Option Addr) (c0 : Nat) (l0 : List S91) (r : List S91) (w : World) (hr0 : Kd.C k91 w A0 l0.length l0) (hc0 : l0.length ≤ c0) (h : api_Edge.f l0 = some r) :
    Calls Try.prog 79 #[.slice A0 l0.length c0] w fun e w' => ∃ v0_ : Value, e = .returned (v0_) ∧ Kd.R k91 91 w' w.heap.size (fun _ => True) v0_ r ∧ Below w.heap.size w w' := by
  have HR0 := Aside0.mk hr0
  have hnil : A0 = none → l0 = [] := by
    intro hA
    cases l0 with
    | nil => rfl
    | cons x xs =>
      obtain ⟨ad, e, _⟩ := hr0.2.2 (by simp)
      rw [hA] at e
      cases e
  clear hr0 hc0
  unfold api_Edge.f at h
  by_cases c : l0.length < 8796093022208
  · rw [if_pos c] at h
    obtain rfl := Option.some.inj h
    clear h
    have C := Aside0.mk c
    clear c
    cases A0 with
    | none =>
      obtain rfl := hnil rfl
      clear hnil
      have kq := fun W : World => Lib.run_eql_slice_nil (P := Try.prog) W 70 91 none 0 c0 0 0 Try.underlying70
      go_enter Try.func79, Try.ntmps79
      go_wp2
      go_ret
      exact ⟨_, rfl, Kd.R_nil _ _ _ _ _, Below.refl _ _⟩
    | some ad =>
      clear hnil
      have kq := fun W : World => Lib.run_eql_slice_nil (P := Try.prog) W 70 91 (some ad) l0.length c0 0 0 Try.underlying70
      go_enter Try.func79, Try.ntmps79
      go_wp2_with (first | ((with_reducible refine gate_dst (N := 5) rfl ?_); refine Kd.R_lit (w0 := w) k91 w.heap.size 91 ?hg (N := 5) ?hd (xs := ([] : List S91)) (inner := []) (ok := fun _ => True) (okp := fun _ => True) ?hr ?hp (fun _ hk => hk) trivial (Below.refl _ _) (Nat.le_refl _) (by simp) ?_; (case hd => rfl); (case hg => rfl); (case hr => first | (go_simp; done) | (go_simp; rfl)); (case hp => exact Reps.none _ _); intro v1 w1 ho1 hb1 _ _; have HO := Aside0.mk ho1; have HB := Aside0.mk hb1; clear ho1 hb1) | ((with_reducible refine gate_dst (N := 7) rfl ?_); refine Kd.R_append_rows (w0 := w) k91 w.heap.size rfl _ _ 70 91 (.agg #[.int .i32 0, .int .i64 0]) 16 rfl Try.underlying70 info91 rfl (by decide) (by decide) _ ([] : List S91) l0 (some ad) l0.length c0 (fun _ => True) (fun _ => False) rfl rfl HO.out (Kd.C_below HR0.out HB.out) (fun x cs hx => by rw [k91_open hx]; exact k91_mkM _ _ _ x) (fun _ hk => hk.elim) (fun _ _ => trivial) HB.out HB.out.size (by have := C.out; simp; omega) ?_; intro v2 w2 ho2 hb2 _ _; have HO2 := Aside0.mk ho2; have HB2 := Aside0.mk hb2; clear ho2 hb2))
      go_ret
      exact ⟨_, rfl, by have h := HO2.out; rwa [List.nil_append] at h, HB2.out⟩
  · rw [if_neg c] at h
    cases h


theorem field72_0 (a b : Value) (W : World) : (Instr.field 72 (.agg #[a, b]) 0).run Try.prog W = .ok a W := by
  have hu72 := Try.underlying72
  simp [Instr.field, run_underlying hu72, asAgg, part, Try.isAgg4]
theorem field72_1 (a b : Value) (W : World) : (Instr.field 72 (.agg #[a, b]) 1).run Try.prog W = .ok b W := by
  have hu72 := Try.underlying72
  simp [Instr.field, run_underlying hu72, asAgg, part, Try.isAgg70]
set_option maxHeartbeats 1000000 in
set_option maxRecDepth 100000 in
theorem graph_Final.calls (g : Nat) (ns : List S72) (n : Int) (w : World) (hG : GraphAt w g ns) :
    Calls Try.prog 56 #[.pointer (some ⟨g, 0, none⟩), .int .i64 n] w fun e w' => e = .returned (.bool (nodeAt ns n).f0) ∧ Below w.heap.size w w' := by
  have HG := Aside0.mk hG
  clear hG
  have kf := field72_0
  go_enter Try.func56, Try.ntmps56
  go_wp2_with ((with_reducible refine gate_callee (f := 78) rfl ?_); refine goesL_ (some 7) rfl rfl Try.func78 (by kernel_rfl) rfl #[.pointer (some ⟨g, 0, none⟩), .int .i64 n] rfl (by (try simp only [List.map_toArray, List.map_cons, List.map_nil]); first | done | rfl) ?_; (with_reducible refine (graph_get.calls g ns n _ HG.out).mono ?_); rintro e w1 ⟨A, c, rfl, hl, hC, hb⟩; refine ⟨_, rfl, ?_⟩; have HB := Aside0.mk hb; clear hl hC hb)
  go_ret
  exact ⟨rfl, HB.out⟩
def graph_Edges.f (ns : List S72) (n : Int) : Option (List S91) := api_Edge.f (nodeAt ns n).f1
set_option maxHeartbeats 1000000 in
set_option maxRecDepth 100000 in
theorem graph_Edges.calls (g : Nat) (ns : List S72) (n : Int) (r : List S91) (w : World) (hG : GraphAt w g ns) (h : graph_Edges.f ns n = some r) :
    Calls Try.prog 57 #[.pointer (some ⟨g, 0, none⟩), .int .i64 n] w fun e w' => ∃ v0_ : Value, e = .returned v0_ ∧ Kd.R k91 91 w' w.heap.size (fun _ => True) v0_ r ∧ Below w.heap.size w w' := by
  have HG := Aside0.mk hG
  have H := Aside0.mk (show api_Edge.f (nodeAt ns n).f1 = some r from h)
  clear hG h
  have kf := field72_1
  go_enter Try.func57, Try.ntmps57
  go_wp2_with (first | ((with_reducible refine gate_callee (f := 78) rfl ?_); refine goesL_ (some 7) rfl rfl Try.func78 (by kernel_rfl) rfl #[.pointer (some ⟨g, 0, none⟩), .int .i64 n] rfl (by (try simp only [List.map_toArray, List.map_cons, List.map_nil]); first | done | rfl) ?_; (with_reducible refine (graph_get.calls g ns n _ HG.out).mono ?_); rintro e w1 ⟨A, c, rfl, hl, hC, hb⟩; refine ⟨_, rfl, ?_⟩; have HB := Aside0.mk hb; have HL := Aside0.mk hl; have HC := Aside0.mk hC; clear hl hC hb) | ((with_reducible refine gate_callee (f := 79) rfl ?_); refine goesL_ (some 9) rfl rfl Try.func79 (by kernel_rfl) rfl #[.slice A (nodeAt ns n).f1.length c] rfl (by (try simp only [List.map_toArray, List.map_cons, List.map_nil]); first | done | rfl) ?_; (with_reducible refine (api_Edge.calls A c _ r _ HC.out HL.out H.out).mono ?_); rintro e w2 ⟨v, rfl, ho, hb⟩; refine ⟨_, rfl, ?_⟩; have HO := Aside0.mk ho; have HB2 := Aside0.mk (below_step HB.out hb); clear ho hb))
  go_ret
  exact ⟨_, rfl, Kd.R_lower HO.out HB.out.size, HB2.out⟩
end Go.Proofs.Ytklidannncajiaa.OW

namespace Go.Proofs.Ytklidannncajiaa.OW
open Go.RowKit Go.Proofs.YtklidannncajiaaW.PrintWords Go.Proofs.YtklidannncajiaaW.PrintLast Go.Proofs.YtklidannncajiaaW.PrintMore

/-- Block k holds cells of type t. -/
def Typed (w : World) (k t : Nat) : Prop := ∃ cells, w.heap[k]? = some (.cells cells t (0, 0))
theorem Typed.det {w : World} {k t t' : Nat} (h : Typed w k t) (h' : Typed w k t') : t = t' := by
  obtain ⟨c, hc⟩ := h
  obtain ⟨c', hc'⟩ := h'
  rw [hc] at hc'
  injection hc' with hc'
  injection hc' with _ h2
theorem Typed.lt {w : World} {k t : Nat} (h : Typed w k t) : k < w.heap.size := by
  obtain ⟨c, hc⟩ := h
  exact (Array.getElem?_eq_some_iff.1 hc).1
/-- Only blocks of which P tells were written (P k t: block k, of type t); others were made. -/
structure KeptBy (P : Nat → Nat → Prop) (w w' : World) : Prop where
  os : w'.os = w.os
  tape : w'.tape = w.tape
  output : w'.output = w.output
  size : w.heap.size ≤ w'.heap.size
  block : ∀ k, k < w.heap.size → (∀ t, Typed w k t → ¬ P k t) → w'.heap[k]? = w.heap[k]?
namespace KeptBy
variable {P P' : Nat → Nat → Prop} {w w1 w2 : World}
theorem refl (P : Nat → Nat → Prop) (w : World) : KeptBy P w w := ⟨rfl, rfl, rfl, Nat.le_refl _, fun _ _ _ => rfl⟩
theorem mono (h : KeptBy P w w1) (hp : ∀ k t, P k t → P' k t) : KeptBy P' w w1 := ⟨h.os, h.tape, h.output, h.size, fun k hk ht => h.block k hk (fun t h1 h2 => ht t h1 (hp k t h2))⟩
theorem trans (h : KeptBy P w w1) (h1 : KeptBy P w1 w2) : KeptBy P w w2 :=
  ⟨h1.os.trans h.os, h1.tape.trans h.tape, h1.output.trans h.output, Nat.le_trans h.size h1.size, fun k hk ht => by
    have e := h.block k hk ht
    exact (h1.block k (Nat.lt_of_lt_of_le hk h.size) (fun t ⟨c, hc⟩ => ht t ⟨c, e ▸ hc⟩)).trans e⟩
theorem of_below (h : Below w.heap.size w w1) : KeptBy P w w1 := ⟨h.os, h.tape, h.output, h.size, fun k hk _ => h.block k hk⟩
theorem of_grown {row : Option Nat} (h : w.grownBy w1 row) (hr : ∀ k, row = some k → ∃ t, Typed w k t ∧ P k t) : KeptBy P w w1 :=
  ⟨h.os, h.tape, h.output, h.size, fun k hk ht => h.block k hk (fun e => by
    obtain ⟨t, h1, h2⟩ := hr k e.symm
    exact ht t h1 h2)⟩
theorem to_below {B : Nat} (h : KeptBy P w w1) (hp : ∀ k t, P k t → B ≤ k) (hB : B ≤ w.heap.size) : Below B w w1 :=
  ⟨h.os, h.tape, h.output, h.size, fun k hk => h.block k (by omega) (fun t _ h2 => by have := hp k t h2; omega)⟩
theorem typed (h : KeptBy P w w1) {k t : Nat} (ht : Typed w k t) (hn : ¬ P k t) : w1.heap[k]? = w.heap[k]? :=
  h.block k ht.lt (fun t' h1 h2 => by rw [h1.det ht] at h2; exact hn h2)
theorem cell (h : KeptBy P w w1) {a : Addr} {v : Value} (hc : w.cell? a = some v) (hn : ∀ t, Typed w a.block t → ¬ P a.block t) : w1.cell? a = some v := by
  have := h.block a.block (World.block_lt_of_cell? w a hc) hn
  simpa [World.cell?, this] using hc
theorem row {α : Type} {d : Kd α} {e base : Nat} {v : Value} {xs : List α} {ok : Nat → Prop} (h : KeptBy P w w1) (ho : d.R e w base ok v xs) (hn : ∀ k t, t ∈ e :: d.E → base ≤ k → ¬ P k t) : d.R e w1 base ok v xs :=
  Kd.R_mono (Kd.R_step (Kd.R_bound ho) (fun k hk hlt => by
    obtain ⟨_, h1, h2, q, hq, hc⟩ := hk
    exact h.typed hc (hn k q hq h1))) (fun _ hk => hk.1)
theorem setCell (w : World) {a : Addr} {t : Nat} (ht : Typed w a.block t) (hp : P a.block t) (v : Value) : KeptBy P w (w.setCell a v) :=
  ⟨rfl, rfl, rfl, by simp [World.setCell], fun k hk hn => Below.heap_setCell w a v k (fun e => by subst e; exact hn t ht hp)⟩
end KeptBy
section
variable {P : Program} {ops : Array Oper} {Q : Exit → Act → World → Prop}
/-- A call of a function value: its captured pointers behind its arguments. -/
theorem goesV_ {rest : List Oper} {oi : Oper} {a : Act} {w : World} (N : Option Tmp) (hd : oi.dst = N) (hg : oi.guard = none) {f : FuncId} {fn : Func} {c : Operand} {ops_ : Array Operand} {ts : Array TypeId} {cap : Array Value} (hf : P.funcs[f]? = some fn) (hname : (fn.name == "runtime.NumGoroutine") = false) (hb : fn.body.isSome = true) (args : Array Value)
    (hop : oi.op = .call { callee := .value c, args := ops_, argTypes := ts }) (hc : a.eval c = .func (.func f) #[] cap) (hargs : ops_.map a.eval ++ cap = args)
    (h : Calls P f args w fun e w' => ∃ v, e = .returned v ∧ wpList P ops Q rest (a.put N v) w') : wpList P ops Q (oi :: rest) a w := by
  refine wpList_plain hg fun K hK => ?_
  have he := enters_ hf hname hb args w
  have hrun : (execOp a.eval oi).run P w = .ok (.enter f args) w := by
    unfold execOp
    simp [hop, resolve, Deferred.ofValue, invoke, hc, hargs, he]
  unfold Oper.wp
  rw [hrun, Oper.upon_enter]
  refine h.mono fun e w'' hh => ?_
  obtain ⟨v, rfl, hk⟩ := hh
  subst hd
  exact hK _ _ hk
theorem gate_value {rest : List Oper} {o : Oper} {a : Act} {W : World} {t : Tmp} {ops_ : Array Operand} {ts : Array TypeId} (_ho : o.op = .call { callee := .value (.tmp t), args := ops_, argTypes := ts }) (h : wpList P ops Q (o :: rest) a W) : wpList P ops Q (o :: rest) a W := h
end
/-- A function value (function gf, what it captured) that takes a text and tells whether to go on: step by step, as 'step' says; Inv holds of the world from step to step; it writes what Pc tells. -/
structure YieldsBy {α : Type} (gf : FuncId) (cap : Array Value) (Pc : Nat → Nat → Prop) (Inv : α → World → Prop) (step : α → ByteArray → Option (α × Bool)) : Prop where
  fn : ∃ fn, Try.prog.funcs[gf]? = some fn ∧ (fn.name == "runtime.NumGoroutine") = false ∧ fn.body.isSome = true
  call : ∀ a s a' go W, step a s = some (a', go) → Inv a W → Calls Try.prog gf (#[.string s] ++ cap) W fun e W' => e = .returned (.bool go) ∧ Inv a' W' ∧ KeptBy Pc W W'
  keep : ∀ a W W', Inv a W → KeptBy (fun _ t => t = 96) W W' → Inv a W'
  pc : ∀ k t, Pc k t → t ≠ 96 ∧ t ≠ 121
end Go.Proofs.Ytklidannncajiaa.OW

namespace Go.Proofs.Ytklidannncajiaa.OW
open Go.RowKit Go.Proofs.YtklidannncajiaaW.PrintWords Go.Proofs.YtklidannncajiaaW.PrintLast Go.Proofs.YtklidannncajiaaW.PrintMore

/-- The iterator at block g stands at pos. -/
def IterAt (w : World) (g : Nat) (s : ByteArray) (pos : Nat) : Prop := w.heap[g]? = some (.stringIter s pos)
def stepIter (w : World) (g : Nat) (s : ByteArray) (pos : Nat) : World := { w with heap := w.heap.setIfInBounds g (.stringIter s pos) }
section
variable {P : Program}
theorem run_next_at {W : World} {g : Nat} {s : ByteArray} {pos : Nat} (h : IterAt W g s pos) (ty : TypeId) (hp : pos < s.size) :
    (Instr.next (.pointer (some ⟨g, 0, none⟩)) true ty).run P W = .ok (.tuple #[.bool true, .int .i64 pos, .int .i32 (Utf8.decode s pos).1]) (stepIter W g s (pos + (Utf8.decode s pos).2)) := by
  unfold IterAt at h
  simp only [Instr.next, getObj, setObj, Sem.run_bind, Sem.run, h, Result.andThen, hp, if_true]
  simp [goInt, stepIter]
theorem run_next_stop {W : World} {g : Nat} {s : ByteArray} {pos : Nat} (h : IterAt W g s pos) (ty : TypeId) (hp : ¬ pos < s.size) :
    (Instr.next (.pointer (some ⟨g, 0, none⟩)) true ty).run P W = .ok (.tuple #[.bool false]) W := by
  unfold IterAt at h
  simp [Instr.next, getObj, Sem.run, h, hp]
end
theorem IterAt.lt {w : World} {g : Nat} {s : ByteArray} {pos : Nat} (h : IterAt w g s pos) : g < w.heap.size := (Array.getElem?_eq_some_iff.1 h).1
theorem IterAt.step {w : World} {g : Nat} {s : ByteArray} {pos : Nat} (h : IterAt w g s pos) (pos' : Nat) : IterAt (stepIter w g s pos') g s pos' := by
  unfold IterAt stepIter
  rw [Array.getElem?_setIfInBounds]
  simp [h.lt]
theorem IterAt.below {w w1 : World} {g : Nat} {s : ByteArray} {pos : Nat} (h : IterAt w g s pos) (hb : Below w.heap.size w w1) : IterAt w1 g s pos := (hb.block g h.lt).trans h
theorem step_below {B : Nat} {w W : World} {g : Nat} (h : Below B w W) (hg : B ≤ g) (s : ByteArray) (pos : Nat) : Below B w (stepIter W g s pos) :=
  ⟨h.os, h.tape, h.output, by simpa [stepIter] using h.size, fun i hi => by
    unfold stepIter
    rw [Array.getElem?_setIfInBounds, if_neg (by omega)]
    exact h.block i hi⟩
/-- The runes from a place on. -/
def runesFrom (s : ByteArray) : Nat → Nat → List Int
  | 0, _ => []
  | f + 1, pos => if pos < s.size then ((Utf8.decode s pos).1 : Int) :: runesFrom s f (pos + (Utf8.decode s pos).2) else []
theorem decode_pos (s : ByteArray) (pos : Nat) (h : pos < s.size) : 1 ≤ (Utf8.decode s pos).2 := by
  by_cases ha : (s[pos]'h).toNat < 128
  · rw [decode_ascii s pos h ha]
    exact Nat.le_refl 1
  · exact (decode_high s pos h (by omega)).2
theorem runesFrom_fuel (s : ByteArray) : ∀ (f f' pos : Nat), s.size ≤ f + pos → s.size ≤ f' + pos → runesFrom s f pos = runesFrom s f' pos := by
  intro f
  induction f with
  | zero =>
    intro f' pos h h'
    cases f' with
    | zero => rfl
    | succ f' => simp only [runesFrom]; rw [if_neg (by omega)]
  | succ f ih =>
    intro f' pos h h'
    by_cases hp : pos < s.size
    · cases f' with
      | zero => omega
      | succ f' =>
        have := decode_pos s pos hp
        simp only [runesFrom]
        rw [if_pos hp, if_pos hp, ih f' _ (by omega) (by omega)]
    · cases f' with
      | zero => simp only [runesFrom]; rw [if_neg hp]
      | succ f' => simp only [runesFrom]; rw [if_neg hp, if_neg hp]
/-- All runes of a string as a range tells them. -/
def runes (s : ByteArray) (pos : Nat) : List Int := runesFrom s s.size pos
theorem runes_end (s : ByteArray) (pos : Nat) (h : ¬ pos < s.size) : runes s pos = [] := by
  unfold runes
  cases hs : s.size with
  | zero => rfl
  | succ n => simp only [runesFrom]; rw [if_neg h]
theorem runes_next (s : ByteArray) (pos : Nat) (h : pos < s.size) : runes s pos = ((Utf8.decode s pos).1 : Int) :: runes s (pos + (Utf8.decode s pos).2) := by
  have h1 := decode_pos s pos h
  unfold runes
  obtain ⟨n, hn⟩ : ∃ n, s.size = n + 1 := ⟨s.size - 1, by omega⟩
  conv => lhs; rw [hn]
  simp only [runesFrom]
  rw [if_pos h, runesFrom_fuel s n s.size _ (by omega) (by omega)]
theorem runes_len (s : ByteArray) : ∀ (d pos : Nat), s.size - pos ≤ d → (runes s pos).length ≤ s.size - pos := by
  intro d
  induction d with
  | zero => intro pos h; rw [runes_end s pos (by omega)]; simp
  | succ d ih =>
    intro pos h
    by_cases hp : pos < s.size
    · have h1 := decode_pos s pos hp
      have := ih (pos + (Utf8.decode s pos).2) (by omega)
      rw [runes_next s pos hp, List.length_cons]
      omega
    · rw [runes_end s pos hp]; simp
end Go.Proofs.Ytklidannncajiaa.OW

namespace Go.Proofs.Ytklidannncajiaa.OW
open Go.RowKit

theorem size_list (s : ByteArray) : s.size = s.data.toList.length := Lib.size_eq s
theorem bytes_ext {a b : ByteArray} (h : a.data.toList = b.data.toList) : a = b := by
  cases a with | mk x => cases b with | mk y => simp only at h; rw [Array.toList_inj.1 h]
/-- What is left of a text from a place on. -/
def cut (s : ByteArray) (n : Nat) : ByteArray := s.extract n s.size
theorem cut_data (s : ByteArray) (n : Nat) : (cut s n).data.toList = s.data.toList.drop n := by
  unfold cut
  rw [Lib.extract_data, List.take_of_length_le (by rw [List.length_drop, ← size_list]; exact Nat.le_refl _)]
theorem cut_size (s : ByteArray) (n : Nat) : (cut s n).size = s.size - n := by rw [size_list, cut_data, List.length_drop, size_list]
theorem head_data (s : ByteArray) (n : Nat) : (s.extract 0 n).data.toList = s.data.toList.take n := by
  rw [Lib.extract_data]; simp
theorem decode_cut (s : ByteArray) (n pos : Nat) : Utf8.decode (cut s n) pos = Utf8.decode s (n + pos) := by
  rw [← Lib.decodeL_drop, ← Lib.decodeL_drop, cut_data, List.drop_drop]
theorem decode_le_size (s : ByteArray) (pos : Nat) (h : pos < s.size) : pos + (Utf8.decode s pos).2 ≤ s.size := by
  have h1 : s.data.toList.drop pos ≠ [] := by
    intro e
    have := congrArg List.length e
    rw [List.length_drop, ← size_list] at this
    simp at this
    omega
  have h2 := Lib.decodeL_le _ h1
  rw [Lib.decodeL_drop, List.length_drop, ← size_list] at h2
  omega
theorem runes_cut_at (s : ByteArray) (n : Nat) : ∀ (d pos : Nat), s.size ≤ n + pos + d → runes (cut s n) pos = runes s (n + pos) := by
  intro d
  induction d with
  | zero =>
    intro pos h
    rw [runes_end _ _ (by rw [cut_size]; omega), runes_end _ _ (by omega)]
  | succ d ih =>
    intro pos h
    by_cases hp : n + pos < s.size
    · have h1 := decode_pos s (n + pos) hp
      rw [runes_next _ _ (by rw [cut_size]; omega), runes_next _ _ hp, decode_cut, ih _ (by omega), Nat.add_assoc]
    · rw [runes_end _ _ (by rw [cut_size]; omega), runes_end _ _ (by omega)]
theorem runes_cut (s : ByteArray) (n : Nat) : runes (cut s n) 0 = runes s n := runes_cut_at s n s.size 0 (by omega)
/-- No bytes that are none. -/
def Clean (s : ByteArray) : Prop := (65533 : Int) ∉ runes s 0
instance (s : ByteArray) : Decidable (Clean s) := inferInstanceAs (Decidable (¬ _))
theorem runes_first (s : ByteArray) (h : 0 < s.size) : runes s 0 = ((Utf8.decode s 0).1 : Int) :: runes (cut s (Utf8.decode s 0).2) 0 := by
  rw [runes_next s 0 h, runes_cut, Nat.zero_add]
theorem Clean.cut_ {s : ByteArray} (h : Clean s) (h0 : 0 < s.size) : Clean (cut s (Utf8.decode s 0).2) := by
  unfold Clean at h ⊢
  rw [runes_first s h0] at h
  exact fun hm => h (List.mem_cons_of_mem _ hm)
theorem Clean.first_ {s : ByteArray} (h : Clean s) (h0 : 0 < s.size) : (Utf8.decode s 0).1 ≠ 65533 := by
  unfold Clean at h
  rw [runes_first s h0] at h
  intro e
  exact h (by rw [e]; exact List.mem_cons_self)
theorem encode_rune (r : Nat) (hv : r ≤ 1114111) (hs : r < 55296 ∨ 57343 < r) : (Utf8.encode (r : Int)).data.toList = Lib.encodeRune (r : Int) := by
  have hval : Utf8.valid (r : Int) = true := by simp [Utf8.valid]; omega
  unfold Utf8.encode Lib.encodeRune
  simp only [hval, if_true, Int.toNat_natCast]
  have key : ∀ n : Nat, ∀ z : Int, z = n → UInt8.ofNat n = z.toNat.toUInt8 := by
    intro n z hz
    subst hz
    simp
  by_cases c1 : r < 128
  · rw [if_pos c1, Lib.encodeRuneZ_one (by omega) (by omega)]
    simp
  · rw [if_neg c1]
    by_cases c2 : r < 2048
    · rw [if_pos c2, Lib.encodeRuneZ_two (by omega) (by omega)]
      simp only [List.map_cons, List.map_nil]
      rw [key (192 + r / 64) (192 + (r : Int) / 64) (by omega), key (128 + r % 64) (128 + (r : Int) % 64) (by omega)]
    · rw [if_neg c2]
      by_cases c3 : r < 65536
      · rw [if_pos c3, Lib.encodeRuneZ_three (by omega)]
        simp only [List.map_cons, List.map_nil]
        rw [key (224 + r / 4096) (224 + (r : Int) / 4096) (by omega), key (128 + r / 64 % 64) (128 + (r : Int) / 64 % 64) (by omega), key (128 + r % 64) (128 + (r : Int) % 64) (by omega)]
      · rw [if_neg c3, Lib.encodeRuneZ_four (by omega) (by omega)]
        simp only [List.map_cons, List.map_nil]
        rw [key (240 + r / 262144) (240 + (r : Int) / 262144) (by omega), key (128 + r / 4096 % 64) (128 + (r : Int) / 4096 % 64) (by omega), key (128 + r / 64 % 64) (128 + (r : Int) / 64 % 64) (by omega), key (128 + r % 64) (128 + (r : Int) % 64) (by omega)]
theorem decodeN_ok (n b0 b1 b2 b3 : Nat) (hn : (Lib.decodeN n b0 b1 b2 b3).1 ≠ 65533) : (Lib.decodeN n b0 b1 b2 b3).1 ≤ 1114111 ∧ ((Lib.decodeN n b0 b1 b2 b3).1 < 55296 ∨ 57343 < (Lib.decodeN n b0 b1 b2 b3).1) := by
  have h := hn
  clear hn
  rcases Lib.decodeN_shape n b0 b1 b2 b3 with ⟨c, e⟩ | ⟨c1, c2, c3, cv, e⟩ | ⟨c1, c2, c3, c4, cv, cs, e⟩ | ⟨c1, c2, c3, c4, c5, cv, cw, e⟩ | e
  all_goals rw [e] at h ⊢
  all_goals dsimp only at h ⊢
  all_goals omega
theorem decode_ok (s : ByteArray) (pos : Nat) (h : (Utf8.decode s pos).1 ≠ 65533) : (Utf8.decode s pos).1 ≤ 1114111 ∧ ((Utf8.decode s pos).1 < 55296 ∨ 57343 < (Utf8.decode s pos).1) := by
  rw [Lib.decode_N] at h ⊢
  exact decodeN_ok _ _ _ _ _ h
/-- A rune of a text, written anew, is the bytes that it was read from. -/
theorem encode_first (s : ByteArray) (h0 : 0 < s.size) (h : (Utf8.decode s 0).1 ≠ 65533) : Utf8.encode ((Utf8.decode s 0).1 : Int) ++ cut s (Utf8.decode s 0).2 = s := by
  have hd : Lib.decodeL s.data.toList = Utf8.decode s 0 := by have := Lib.decodeL_drop s 0; rwa [List.drop_zero] at this
  have hne : s.data.toList ≠ [] := by intro e; rw [size_list, e] at h0; simp at h0
  have he := Lib.encode_decode s.data.toList hne (by rw [hd]; exact fun hc => h hc.1)
  obtain ⟨h1, h2⟩ := decode_ok s 0 h
  apply bytes_ext
  have happ : ∀ a b : ByteArray, (a ++ b).data.toList = a.data.toList ++ b.data.toList := by intro a b; simp
  rw [happ, encode_rune _ h1 h2, cut_data]
  rw [hd] at he
  rw [he, List.take_append_drop]
theorem encode_size (s : ByteArray) (h0 : 0 < s.size) (h : (Utf8.decode s 0).1 ≠ 65533) : (Utf8.encode ((Utf8.decode s 0).1 : Int)).size = (Utf8.decode s 0).2 := by
  have h1 := congrArg ByteArray.size (encode_first s h0 h)
  rw [ByteArray.size_append, cut_size] at h1
  have h2 := decode_le_size s 0 h0
  omega
theorem runes_empty : runes ⟨#[]⟩ 0 = [] := runes_end _ _ (by decide)
end Go.Proofs.Ytklidannncajiaa.OW

namespace Go.Proofs.Ytklidannncajiaa.OW
open Go.RowKit Go.Proofs.YtklidannncajiaaW.PrintWords Go.Proofs.YtklidannncajiaaW.PrintLast Go.Proofs.YtklidannncajiaaW.PrintMore

theorem IterAt.pos {w : World} {g : Nat} {s : ByteArray} {pos : Nat} (h : IterAt w g s pos) : w.iterPos g = pos := by
  unfold IterAt at h
  simp [World.iterPos, h]
theorem iter_new (w : World) (s : ByteArray) : IterAt (w.iter s 0) w.heap.size s 0 := World.iter_heap w s 0
theorem iter_below (w : World) (s : ByteArray) : Below w.heap.size w (w.iter s 0) := (Below.refl _ _).alloc (Nat.le_refl _) _

def text_Len.f (a0 : ByteArray) : Option Int := if a0.size ≤ 140737488351232 then (if 65533 ∈ runes a0 0 then some (-1) else some ((runes a0 0).length : Int)) else none
set_option maxHeartbeats 1000000 in
theorem text_Len.calls (s : ByteArray) (r : Int) (w : World) (h : text_Len.f s = some r) :
    Calls Try.prog 26 #[.string s] w fun e w' => e = .returned (.int .i64 r) ∧ Below w.heap.size w w' := by
  unfold text_Len.f at h
  by_cases hs : s.size ≤ 140737488351232
  case neg => rw [if_neg hs] at h; cases h
  rw [if_pos hs] at h
  have H := Aside0.mk h
  clear h
  have hrl := runes_len s s.size 0 (by omega)
  go_enter Try.func26, Try.ntmps26
  have IT := Aside0.mk (iter_new w s)
  have HB := Aside0.mk (iter_below w s)
  go_wp2_with fail
  generalize hg : w.heap.size = g at IT ⊢
  have GE := Aside0.mk (Nat.le_of_eq hg)
  clear hg
  generalize w.iter s 0 = w1 at IT HB ⊢
  go_loopw [3] (fun v3 wr => ∃ (pos : Nat) (pre : List Int), v3 = .int .i64 pre.length ∧ Aside0 (IterAt wr g s pos) ∧ Aside0 (runes s 0 = pre ++ runes s pos ∧ 65533 ∉ pre) ∧ Aside0 (Below w.heap.size w wr)) (fun _ wr => s.size - wr.iterPos g)
  case atStart => exact ⟨0, [], rfl, IT, ⟨rfl, by simp⟩, HB⟩
  case round =>
    clear IT HB
    obtain ⟨pos, pre, rfl, IT, HR, HB⟩ := hrel
    have hle : pre.length ≤ 140737488351232 := by have := congrArg List.length HR.out.1; rw [List.length_append] at this; omega
    by_cases hp : pos < s.size
    · have hn := runes_next s pos hp
      have hdp := decode_pos s pos hp
      have IT2 := Aside0.mk (IT.out.step (pos + (Utf8.decode s pos).2))
      have HB2 := Aside0.mk (step_below HB.out GE.out s (pos + (Utf8.decode s pos).2))
      have hrun := run_next_at (P := Try.prog) IT.out 0 hp
      have hpos := IT.out.pos
      generalize (Utf8.decode s pos).2 = sz at hn hdp IT2 HB2 hrun
      generalize stepIter wr g s (pos + sz) = w2 at IT2 HB2 hrun
      generalize hc : (Utf8.decode s pos).1 = c at hn hrun
      have HN := Aside0.mk hn
      have HD := Aside0.mk hdp
      have HP := Aside0.mk hpos
      clear hn hdp hpos hc
      by_cases hodd : c = 65533
      · subst hodd
        go_wp2
        go_ret
        have hin : 65533 ∈ runes s 0 := by rw [HR.out.1, HN.out]; simp
        have hr := H.out
        rw [if_pos hin] at hr
        obtain rfl := Option.some.inj hr
        exact ⟨rfl, HB2.out⟩
      · have hce : ((c : Int) == 65533) = false := by simp; omega
        go_wp2
        go_roundw
        case rel => exact ⟨pos + sz, pre ++ [(c : Int)], by rw [List.length_append]; rfl, IT2, ⟨by rw [HR.out.1, HN.out, List.append_assoc]; rfl, by
          intro hm
          rcases List.mem_append.1 hm with hm | hm
          · exact HR.out.2 hm
          · have : (65533 : Int) = c := by simpa using hm
            omega⟩, HB2⟩
        case measure => have h1 := IT2.out.pos; have h2 := HP.out; have h3 := HD.out; rw [h1, h2]; omega
    · have hrun := run_next_stop (P := Try.prog) IT.out 0 hp
      go_wp2
      go_ret
      have he := HR.out.1
      rw [runes_end s pos hp, List.append_nil] at he
      have hr := H.out
      rw [he, if_neg HR.out.2] at hr
      obtain rfl := Option.some.inj hr
      exact ⟨rfl, HB.out⟩

theorem iter_ne {w : World} {g base n : Nat} {s : ByteArray} {pos : Nat} {e size : Nat} {v : Value} {xs : List Value} (h : IterAt w g s pos) (ho : w.ownsRow base e size v n xs) : some g ≠ v.ownBlock := by
  intro hk
  obtain ⟨cells, hc⟩ := own_typed ho g hk.symm
  unfold IterAt at h
  rw [h] at hc
  cases hc
theorem iter_grown {w w1 : World} {g : Nat} {s : ByteArray} {pos : Nat} {row : Option Nat} (h : IterAt w g s pos) (hg : w.grownBy w1 row) (hne : some g ≠ row) : IterAt w1 g s pos := (hg.block g h.lt hne).trans h
theorem own_step {W : World} {g base n e size : Nat} {s : ByteArray} {pos : Nat} {v : Value} {xs : List Value} (h : IterAt W g s pos) (ho : W.ownsRow base e size v n xs) (pos' : Nat) : (stepIter W g s pos').ownsRow base e size v n xs := by
  refine own_move ho (fun k hk => ?_)
  have hne := iter_ne h ho
  unfold stepIter
  rw [Array.getElem?_setIfInBounds, if_neg (by intro e; subst e; exact hne hk.symm)]
def text_Runes.f (a0 : ByteArray) : Option (List Int × Bool) := if a0.size ≤ 35184372087808 then (if 65533 ∈ runes a0 0 then some ([], false) else some (runes a0 0, true)) else none
set_option maxHeartbeats 2000000 in
theorem text_Runes.calls (s : ByteArray) (r1 : List Int) (r2 : Bool) (w : World) (h : text_Runes.f s = some (r1, r2)) :
    Calls Try.prog 53 #[.string s] w fun e w' => ∃ v0_ : Value, e = .returned (.tuple #[v0_, .bool r2]) ∧ Kd.R (Kd.int .i32) 21 w' w.heap.size (fun _ => True) v0_ r1 ∧ Below w.heap.size w w' := by
  unfold text_Runes.f at h
  by_cases hs : s.size ≤ 35184372087808
  case neg => rw [if_neg hs] at h; cases h
  rw [if_pos hs] at h
  have H := Aside0.mk h
  clear h
  have hrl := runes_len s s.size 0 (by omega)
  go_enter Try.func53, Try.ntmps53
  have IT := Aside0.mk (iter_new w s)
  have HB := Aside0.mk (iter_below w s)
  go_wp2_with fail
  generalize hg : w.heap.size = g at IT ⊢
  have GE := Aside0.mk (Nat.le_of_eq hg)
  clear hg
  generalize w.iter s 0 = w1 at IT HB ⊢
  go_loopw [4] (fun v4 wr => ∃ (pos : Nat) (pre : List Int), Aside0 (wr.ownsRow w.heap.size 21 1 v4 pre.length (nums .i32 pre)) ∧ Aside0 (IterAt wr g s pos) ∧ Aside0 (runes s 0 = pre ++ runes s pos ∧ 65533 ∉ pre) ∧ Aside0 (Below w.heap.size w wr)) (fun _ wr => s.size - wr.iterPos g)
  case atStart => exact ⟨0, [], ⟨own_nil _ _ _ _⟩, IT, ⟨rfl, by simp⟩, HB⟩
  case round =>
    clear IT HB
    obtain ⟨pos, pre, HO, IT, HR, HB⟩ := hrel
    have hle : pre.length ≤ 35184372087808 := by have := congrArg List.length HR.out.1; rw [List.length_append] at this; omega
    have HLE := Aside0.mk hle
    clear hle
    by_cases hp : pos < s.size
    · have hn := runes_next s pos hp
      have hdp := decode_pos s pos hp
      have IT2 := Aside0.mk (IT.out.step (pos + (Utf8.decode s pos).2))
      have HB2 := Aside0.mk (step_below HB.out GE.out s (pos + (Utf8.decode s pos).2))
      have HO2 := Aside0.mk (own_step IT.out HO.out (pos + (Utf8.decode s pos).2))
      have hrun := run_next_at (P := Try.prog) IT.out 0 hp
      have hpos := IT.out.pos
      generalize (Utf8.decode s pos).2 = sz at hn hdp IT2 HB2 HO2 hrun
      generalize stepIter wr g s (pos + sz) = w2 at IT2 HB2 HO2 hrun
      generalize hc : (Utf8.decode s pos).1 = c at hn hrun
      have HN := Aside0.mk hn
      have HD := Aside0.mk hdp
      have HP := Aside0.mk hpos
      clear hn hdp hpos hc
      by_cases hodd : c = 65533
      · subst hodd
        go_wp2
        go_ret2
        have hin : 65533 ∈ runes s 0 := by rw [HR.out.1, HN.out]; simp
        have hr := H.out
        rw [if_pos hin] at hr
        obtain ⟨rfl, rfl⟩ := Prod.mk.inj (Option.some.inj hr)
        exact ⟨_, rfl, Kd.R_nil _ _ _ _ _, HB2.out⟩
      · have hce : ((c : Int) == 65533) = false := by simp; omega
        go_wp2_with (at_builtin; refine print_append_num (w0 := w) w.heap.size rfl (.tmp 14) (.tmp 16) 74 21 .i32 4 rfl Try.underlying74 info21 (by decide) u4 pre (c : Int) rfl rfl HO2.out HB2.out HB2.out.size (by have := HLE.out; omega) ?_; intro v1 w3 ho hb hg3 _; have HO3 := Aside0.mk ho; have HB3 := Aside0.mk hb; have IT3 := Aside0.mk (iter_grown IT2.out hg3 (iter_ne IT2.out HO2.out)); clear ho hb hg3)
        go_roundw
        case rel => exact ⟨pos + sz, pre ++ [(c : Int)], HO3, IT3, ⟨by rw [HR.out.1, HN.out, List.append_assoc]; rfl, by
          intro hm
          rcases List.mem_append.1 hm with hm | hm
          · exact HR.out.2 hm
          · have : (65533 : Int) = c := by simpa using hm
            omega⟩, HB3⟩
        case measure => have h1 := IT3.out.pos; have h2 := HP.out; have h3 := HD.out; rw [h1, h2]; omega
    · have hrun := run_next_stop (P := Try.prog) IT.out 0 hp
      go_wp2
      go_ret2
      have he := HR.out.1
      rw [runes_end s pos hp, List.append_nil] at he
      have hr := H.out
      rw [he, if_neg HR.out.2] at hr
      obtain ⟨rfl, rfl⟩ := Prod.mk.inj (Option.some.inj hr)
      exact ⟨_, rfl, Kd.R_of_own HO.out (fun _ _ => trivial), HB.out⟩

theorem decode_in (s : ByteArray) (pos : Nat) (h : pos < s.size) : pos + (Utf8.decode s pos).2 ≤ s.size := by
  unfold Utf8.decode
  simp only
  split
  · simp only; omega
  · split
    · rename_i h2
      simp only [Bool.and_eq_true, decide_eq_true_eq] at h2
      split <;> simp only <;> omega
    · split
      · rename_i h2
        simp only [Bool.and_eq_true, decide_eq_true_eq] at h2
        split <;> simp only <;> omega
      · split
        · rename_i h2
          simp only [Bool.and_eq_true, decide_eq_true_eq] at h2
          split <;> simp only <;> omega
        · simp only; omega
def graph_first.f (a0 : ByteArray) : Option (Int × Int) := if a0.size ≤ 140737488351232 then (if a0.size = 0 then some (0, 0) else some (((Utf8.decode a0 0).1 : Int), ((Utf8.decode a0 0).2 : Int))) else none
set_option maxHeartbeats 2000000 in
theorem graph_first.calls (s : ByteArray) (r1 r2 : Int) (w : World) (h : graph_first.f s = some (r1, r2)) :
    Calls Try.prog 51 #[.string s] w fun e w' => e = .returned (.tuple #[.int .i32 r1, .int .i64 r2]) ∧ Below w.heap.size w w' := by
  unfold graph_first.f at h
  by_cases hs : s.size ≤ 140737488351232
  case neg => rw [if_neg hs] at h; cases h
  rw [if_pos hs] at h
  have H := Aside0.mk h
  clear h
  go_enter Try.func51, Try.ntmps51
  have IT := Aside0.mk (iter_new w s)
  have HB := Aside0.mk (iter_below w s)
  go_wp2_with fail
  generalize hg : w.heap.size = g at IT ⊢
  have GE := Aside0.mk (Nat.le_of_eq hg)
  clear hg
  generalize w.iter s 0 = w1 at IT HB ⊢
  go_loopw [4] (fun v4 wr => ∃ (pos : Nat) (c : Nat), v4 = .int .i32 c ∧ Aside0 (IterAt wr g s pos) ∧ Aside0 ((pos = 0 ∧ c = 0) ∨ (0 < s.size ∧ pos = (Utf8.decode s 0).2 ∧ c = (Utf8.decode s 0).1)) ∧ Aside0 (Below w.heap.size w wr)) (fun _ wr => s.size - wr.iterPos g)
  case atStart => exact ⟨0, 0, rfl, IT, ⟨.inl ⟨rfl, rfl⟩⟩, HB⟩
  case round =>
    clear IT HB
    obtain ⟨pos, c, rfl, IT, HR, HB⟩ := hrel
    by_cases hp : pos < s.size
    · have hdp := decode_pos s pos hp
      have IT2 := Aside0.mk (IT.out.step (pos + (Utf8.decode s pos).2))
      have HB2 := Aside0.mk (step_below HB.out GE.out s (pos + (Utf8.decode s pos).2))
      have hrun := run_next_at (P := Try.prog) IT.out 0 hp
      have HP := Aside0.mk IT.out.pos
      have HD := Aside0.mk hdp
      clear hdp
      generalize hw2 : stepIter wr g s (pos + (Utf8.decode s pos).2) = w2 at IT2 HB2 hrun
      clear hw2
      rcases HR.out with ⟨rfl, rfl⟩ | ⟨h0, hpos, hc⟩
      · go_wp2
        go_roundw
        case rel => exact ⟨0 + (Utf8.decode s 0).2, (Utf8.decode s 0).1, rfl, IT2, ⟨.inr ⟨hp, by omega, rfl⟩⟩, HB2⟩
        case measure => have h1 := IT2.out.pos; have h2 := HP.out; have h3 := HD.out; rw [h1, h2]; omega
      · have hpp : 0 < pos := by have := decode_pos s 0 h0; omega
        have hr := H.out
        rw [if_neg (by omega), ← hpos, ← hc] at hr
        obtain ⟨rfl, rfl⟩ := Prod.mk.inj (Option.some.inj hr)
        clear hr hpos hc h0
        have hpi : (0 : Int) < (pos : Int) := by omega
        go_wp2
        go_ret2
        exact ⟨rfl, HB2.out⟩
    · have hrun := run_next_stop (P := Try.prog) IT.out 0 hp
      have he : some ((c : Int), (s.size : Int)) = some (r1, r2) := by
        have hr := H.out
        rcases HR.out with ⟨rfl, rfl⟩ | ⟨h0, hpos, hc⟩
        · rw [if_pos (by omega)] at hr
          rw [← hr, show s.size = 0 by omega]
          rfl
        · have := decode_in s 0 h0
          rw [if_neg (by omega), ← hpos, ← hc] at hr
          rw [← hr, show s.size = pos by omega]
      obtain ⟨rfl, rfl⟩ := Prod.mk.inj (Option.some.inj he)
      clear he
      go_wp2
      go_ret2
      exact ⟨rfl, HB.out⟩
end Go.Proofs.Ytklidannncajiaa.OW

namespace Go.Proofs
open Go.Shelf
def Try.lays156_ren : Go.Shelf.Ren := ⟨fun | 156 => 50 | 165 => 72 | 166 => 73 | 169 => 74 | 240 => 98 | 241 => 99 | 276 => 112 | 277 => 113 | n => n, fun | 31 => 22 | 9 => 9 | 3 => 3 | 4 => 4 | 0 => 0 | 20 => 20 | 72 => 113 | 76 => 117 | 70 => 110 | 37 => 111 | 75 => 116 | 127 => 141 | 164 => 154 | 5 => 5 | 80 => 119 | n => n, fun | n => n⟩
theorem Try.lays156 : Go.Proofs.Lays.n156 Try.prog Try.lays156_ren := {
  mixed := by kernel_rfl
  f156 := Try.func50.trans (congrArg some (by kernel_rfl))
  f165 := Try.func72.trans (congrArg some (by kernel_rfl))
  f166 := Try.func73.trans (congrArg some (by kernel_rfl))
  f169 := Try.func74.trans (congrArg some (by kernel_rfl))
  f240 := Try.func98.trans (congrArg some (by kernel_rfl))
  f241 := Try.func99.trans (congrArg some (by kernel_rfl))
  f276 := Try.func112.trans (congrArg some (by kernel_rfl))
  f277 := Try.func113.trans (congrArg some (by kernel_rfl))
  t0 := Try.underlying0
  a0 := Try.isAgg0
  z0 := Try.sizeOf0
  v0 := Try.zeroValue0
  t3 := Try.underlying3
  a3 := Try.isAgg3
  z3 := Try.sizeOf3
  v3 := Try.zeroValue3
  t4 := Try.underlying4
  a4 := Try.isAgg4
  z4 := Try.sizeOf4
  v4 := Try.zeroValue4
  t9 := Try.underlying9
  a9 := Try.isAgg9
  z9 := Try.sizeOf9
  v9 := Try.zeroValue9
  t20 := Try.underlying20
  a20 := Try.isAgg20
  z20 := Try.sizeOf20
  v20 := Try.zeroValue20
  t31 := Try.underlying22
  a31 := Try.isAgg22
  z31 := Try.sizeOf22
  v31 := Try.zeroValue22
  t37 := Try.underlying111
  a37 := Try.isAgg111
  z37 := Try.sizeOf111
  v37 := Try.zeroValue111
  t70 := Try.underlying110
  a70 := Try.isAgg110
  z70 := Try.sizeOf110
  v70 := Try.zeroValue110
  t72 := Try.underlying113
  a72 := Try.isAgg113
  z72 := Try.sizeOf113
  v72 := Try.zeroValue113
  t75 := Try.underlying116
  a75 := Try.isAgg116
  z75 := Try.sizeOf116
  v75 := Try.zeroValue116
  t76 := Try.underlying117
  a76 := Try.isAgg117
  z76 := Try.sizeOf117
  v76 := Try.zeroValue117
  t127 := Try.underlying141
  a127 := Try.isAgg141
  z127 := Try.sizeOf141
  v127 := Try.zeroValue141
  t164 := Try.underlying154
  a164 := Try.isAgg154
  z164 := Try.sizeOf154
  v164 := Try.zeroValue154 }
theorem Try.Builder_Extra_156 : Builder.Extra Try.prog Try.lays156_ren := {
  sizeBuilder := by kernel_rfl
  liesBuilder := by kernel_rfl
  t5 := Try.underlying5
  a5 := Try.isAgg5
  z5 := Try.sizeOf5
  v5 := Try.zeroValue5
  infoByte := by kernel_rfl
  cellsByte := by kernel_rfl
  sizeByte := by kernel_rfl
  neB5 := by decide }
open Go.RowKit in
/-- strings.Join: "Join concatenates the elements of its first argument to create a single string. The separator string sep is placed between elements in the resulting string.": HOWEVER MANY ELEMENTS. Below the heap's end the world is as it was. (LAID: no walk: one application.) -/
theorem Try.strings_Join (bk o c : Nat) (xs : List ByteArray) (sep : ByteArray) (w : World) (hcells : ∀ (j : Nat) x, xs[j]? = some x → w.cell? ⟨bk, o + j, none⟩ = some (.string x)) (hbk : bk < w.heap.size) (hN : xs.length ≤ 140737488355328) (hcap : xs.length ≤ c) (hlen : (Lib.join (xs.map (·.data.toList)) sep.data.toList).length ≤ 140737488355328) :
    Calls Try.prog 50 #[.slice (some ⟨bk, o, none⟩) xs.length c, .string sep] w fun e w' => e = .returned (.string ⟨(Lib.join (xs.map (·.data.toList)) sep.data.toList).toArray⟩) ∧ Below w.heap.size w w' := Any.strings_Join Try.lays156 Try.Builder_Extra_156 bk o c xs sep w hcells hbk hN hcap hlen
def Try.lays128_ren : Go.Shelf.Ren := ⟨fun | 128 => 96 | n => n, fun | 51 => 138 | 3 => 3 | 4 => 4 | 46 => 79 | 5 => 5 | 9 => 9 | n => n, fun | n => n⟩
theorem Try.lays128 : Go.Proofs.Lays.n128 Try.prog Try.lays128_ren := {
  mixed := by kernel_rfl
  f128 := Try.func96.trans (congrArg some (by kernel_rfl))
  t3 := Try.underlying3
  a3 := Try.isAgg3
  z3 := Try.sizeOf3
  v3 := Try.zeroValue3
  t4 := Try.underlying4
  a4 := Try.isAgg4
  z4 := Try.sizeOf4
  v4 := Try.zeroValue4
  t5 := Try.underlying5
  a5 := Try.isAgg5
  z5 := Try.sizeOf5
  v5 := Try.zeroValue5
  t9 := Try.underlying9
  a9 := Try.isAgg9
  z9 := Try.sizeOf9
  v9 := Try.zeroValue9
  t46 := Try.underlying79
  a46 := Try.isAgg79
  z46 := Try.sizeOf79
  v46 := Try.zeroValue79
  t51 := Try.underlying138
  a51 := Try.isAgg138
  z51 := Try.sizeOf138
  v51 := Try.zeroValue138 }
/-- bits.Len32: "Len32 returns the minimum number of bits required to represent x; the result is 0 for x == 0.": IT RETURNS 'Lib.bitLen x'; the world is as it was. ('h0', 'h1': x is a uint32.) (LAID: no walk: one application.) -/
theorem Try.bits_Len32 (x : Int) (w : World) (h0 : 0 ≤ x) (h1 : x ≤ 4294967295) :
    Calls Try.prog 96 #[.int .u32 x] w fun e w' => e = .returned (.int .i64 (Lib.bitLen x.toNat)) ∧ w' = w := Any.bits_Len32 Try.lays128 x w h0 h1
def Try.lays125_ren : Go.Shelf.Ren := ⟨fun | 125 => 71 | 128 => 96 | 129 => 97 | n => n, fun | 46 => 79 | 3 => 3 | 51 => 138 | 53 => 140 | 4 => 4 | 5 => 5 | 9 => 9 | n => n, fun | n => n⟩
theorem Try.lays125 : Go.Proofs.Lays.n125 Try.prog Try.lays125_ren := {
  mixed := by kernel_rfl
  f125 := Try.func71.trans (congrArg some (by kernel_rfl))
  f128 := Try.func96.trans (congrArg some (by kernel_rfl))
  f129 := Try.func97.trans (congrArg some (by kernel_rfl))
  t3 := Try.underlying3
  a3 := Try.isAgg3
  z3 := Try.sizeOf3
  v3 := Try.zeroValue3
  t4 := Try.underlying4
  a4 := Try.isAgg4
  z4 := Try.sizeOf4
  v4 := Try.zeroValue4
  t5 := Try.underlying5
  a5 := Try.isAgg5
  z5 := Try.sizeOf5
  v5 := Try.zeroValue5
  t9 := Try.underlying9
  a9 := Try.isAgg9
  z9 := Try.sizeOf9
  v9 := Try.zeroValue9
  t46 := Try.underlying79
  a46 := Try.isAgg79
  z46 := Try.sizeOf79
  v46 := Try.zeroValue79
  t51 := Try.underlying138
  a51 := Try.isAgg138
  z51 := Try.sizeOf138
  v51 := Try.zeroValue138
  t53 := Try.underlying140
  a53 := Try.isAgg140
  z53 := Try.sizeOf140
  v53 := Try.zeroValue140 }
/-- bits.Len: "Len returns the minimum number of bits required to represent x; the result is 0 for x == 0.": IT RETURNS 'Lib.bitLen x'; the world is as it was. (A uint has 64 bits in the model.) ITS CALLEE bits.Len64 IS MET BY ITS OWN CONTRACT OFF THE SHELF (lay that first). (LAID: no walk: one application.) -/
theorem Try.bits_Len (x : Int) (w : World) (h0 : 0 ≤ x) (h1 : x ≤ 18446744073709551615) :
    Calls Try.prog 71 #[.int .u64 x] w fun e w' => e = .returned (.int .i64 (Lib.bitLen x.toNat)) ∧ w' = w := Any.bits_Len Try.lays125 x w h0 h1
def Try.lays213_ren : Go.Shelf.Ren := ⟨fun | 213 => 86 | 265 => 104 | n => n, fun | 9 => 9 | 3 => 3 | n => n, fun | n => n⟩
theorem Try.lays213 : Go.Proofs.Lays.n213 Try.prog Try.lays213_ren := {
  mixed := by kernel_rfl
  f213 := Try.func86.trans (congrArg some (by kernel_rfl))
  f265 := Try.func104.trans (congrArg some (by kernel_rfl))
  t3 := Try.underlying3
  a3 := Try.isAgg3
  z3 := Try.sizeOf3
  v3 := Try.zeroValue3
  t9 := Try.underlying9
  a9 := Try.isAgg9
  z9 := Try.sizeOf9
  v9 := Try.zeroValue9 }
open Go.RowKit in
/-- internal/bytealg.CompareString (what strings.Compare calls): IT RETURNS 'Lib.compareBytes a b'; the world is as it was. (LAID: no walk: one application.) -/
theorem Try.bytealg_CompareString (a b : ByteArray) (w : World) :
    Calls Try.prog 86 #[.string a, .string b] w fun e w' => e = .returned (.int .i64 (Lib.compareBytes a.data.toList b.data.toList)) ∧ w' = w := Any.bytealg_CompareString Try.lays213 a b w
def Try.lays106_ren : Go.Shelf.Ren := ⟨fun | 106 => 65 | 213 => 86 | 265 => 104 | n => n, fun | 9 => 9 | 3 => 3 | n => n, fun | n => n⟩
theorem Try.lays106 : Go.Proofs.Lays.n106 Try.prog Try.lays106_ren := {
  mixed := by kernel_rfl
  f106 := Try.func65.trans (congrArg some (by kernel_rfl))
  f213 := Try.func86.trans (congrArg some (by kernel_rfl))
  f265 := Try.func104.trans (congrArg some (by kernel_rfl))
  t3 := Try.underlying3
  a3 := Try.isAgg3
  z3 := Try.sizeOf3
  v3 := Try.zeroValue3
  t9 := Try.underlying9
  a9 := Try.isAgg9
  z9 := Try.sizeOf9
  v9 := Try.zeroValue9 }
open Go.RowKit in
/-- strings.Compare: "Compare returns an integer comparing two strings lexicographically. The result will be 0 if a == b, -1 if a < b, and +1 if a > b.": IT RETURNS 'Lib.compareBytes a b'; the world is as it was. (LAID: no walk: one application.) -/
theorem Try.strings_Compare (a b : ByteArray) (w : World) :
    Calls Try.prog 65 #[.string a, .string b] w fun e w' => e = .returned (.int .i64 (Lib.compareBytes a.data.toList b.data.toList)) ∧ w' = w := Any.strings_Compare Try.lays106 a b w
def Try.lays215_ren : Go.Shelf.Ren := ⟨fun | 215 => 100 | n => n, fun | 3 => 3 | 4 => 4 | n => n, fun | n => n⟩
theorem Try.lays215 : Go.Proofs.Lays.n215 Try.prog Try.lays215_ren := {
  mixed := by kernel_rfl
  f215 := Try.func100.trans (congrArg some (by kernel_rfl))
  t3 := Try.underlying3
  a3 := Try.isAgg3
  z3 := Try.sizeOf3
  v3 := Try.zeroValue3
  t4 := Try.underlying4
  a4 := Try.isAgg4
  z4 := Try.sizeOf4
  v4 := Try.zeroValue4 }
open Go.RowKit in
/-- cmp.isNaN at int: 'x != x': false. (LAID: no walk: one application.) -/
theorem Try.cmp_isNaN_int (x : Int) (w : World) :
    Calls Try.prog 100 #[.int .i64 x] w fun e w' => e = .returned (.bool false) ∧ w' = w := Any.cmp_isNaN_int Try.lays215 x w
def Try.lays122_ren : Go.Shelf.Ren := ⟨fun | 122 => 83 | 215 => 100 | n => n, fun | 3 => 3 | 4 => 4 | n => n, fun | n => n⟩
theorem Try.lays122 : Go.Proofs.Lays.n122 Try.prog Try.lays122_ren := {
  mixed := by kernel_rfl
  f122 := Try.func83.trans (congrArg some (by kernel_rfl))
  f215 := Try.func100.trans (congrArg some (by kernel_rfl))
  t3 := Try.underlying3
  a3 := Try.isAgg3
  z3 := Try.sizeOf3
  v3 := Try.zeroValue3
  t4 := Try.underlying4
  a4 := Try.isAgg4
  z4 := Try.sizeOf4
  v4 := Try.zeroValue4 }
open Go.RowKit in
/-- cmp.Compare at int: "Compare returns -1 if x is less than y, 0 if x equals y, +1 if x is greater than y.": IT RETURNS 'Lib.compareInt x y'; the world is as it was. (LAID: no walk: one application.) -/
theorem Try.cmp_Compare_int (x y : Int) (w : World) :
    Calls Try.prog 83 #[.int .i64 x, .int .i64 y] w fun e w' => e = .returned (.int .i64 (Lib.compareInt x y)) ∧ w' = w := Any.cmp_Compare_int Try.lays122 x y w
def Try.lays129_ren : Go.Shelf.Ren := ⟨fun | 129 => 97 | n => n, fun | 53 => 140 | 3 => 3 | 4 => 4 | 46 => 79 | 5 => 5 | 9 => 9 | n => n, fun | n => n⟩
theorem Try.lays129 : Go.Proofs.Lays.n129 Try.prog Try.lays129_ren := {
  mixed := by kernel_rfl
  f129 := Try.func97.trans (congrArg some (by kernel_rfl))
  t3 := Try.underlying3
  a3 := Try.isAgg3
  z3 := Try.sizeOf3
  v3 := Try.zeroValue3
  t4 := Try.underlying4
  a4 := Try.isAgg4
  z4 := Try.sizeOf4
  v4 := Try.zeroValue4
  t5 := Try.underlying5
  a5 := Try.isAgg5
  z5 := Try.sizeOf5
  v5 := Try.zeroValue5
  t9 := Try.underlying9
  a9 := Try.isAgg9
  z9 := Try.sizeOf9
  v9 := Try.zeroValue9
  t46 := Try.underlying79
  a46 := Try.isAgg79
  z46 := Try.sizeOf79
  v46 := Try.zeroValue79
  t53 := Try.underlying140
  a53 := Try.isAgg140
  z53 := Try.sizeOf140
  v53 := Try.zeroValue140 }
/-- bits.Len64: "Len64 returns the minimum number of bits required to represent x; the result is 0 for x == 0.": IT RETURNS 'Lib.bitLen x'; the world is as it was. ('h0', 'h1': x is a uint64.) (LAID: no walk: one application.) -/
theorem Try.bits_Len64 (x : Int) (w : World) (h0 : 0 ≤ x) (h1 : x ≤ 18446744073709551615) :
    Calls Try.prog 97 #[.int .u64 x] w fun e w' => e = .returned (.int .i64 (Lib.bitLen x.toNat)) ∧ w' = w := Any.bits_Len64 Try.lays129 x w h0 h1
def Try.lays206_ren : Go.Shelf.Ren := ⟨fun | 206 => 75 | n => n, fun | 9 => 9 | 4 => 4 | 3 => 3 | n => n, fun | n => n⟩
theorem Try.lays206 : Go.Proofs.Lays.n206 Try.prog Try.lays206_ren := {
  mixed := by kernel_rfl
  f206 := Try.func75.trans (congrArg some (by kernel_rfl))
  t3 := Try.underlying3
  a3 := Try.isAgg3
  z3 := Try.sizeOf3
  v3 := Try.zeroValue3
  t4 := Try.underlying4
  a4 := Try.isAgg4
  z4 := Try.sizeOf4
  v4 := Try.zeroValue4
  t9 := Try.underlying9
  a9 := Try.isAgg9
  z9 := Try.sizeOf9
  v9 := Try.zeroValue9 }
open Go.RowKit Go.Lib in
/-- internal/stringslite.HasPrefix (what strings.HasPrefix calls). (LAID: no walk: one application.) -/
theorem Try.stringslite_HasPrefix (s p : ByteArray) (w : World) :
    Calls Try.prog 75 #[.string s, .string p] w fun e w' => e = .returned (.bool (Lib.hasPrefix s.data.toList p.data.toList)) ∧ w' = w := Any.stringslite_HasPrefix Try.lays206 s p w
def Try.lays99_ren : Go.Shelf.Ren := ⟨fun | 99 => 52 | 206 => 75 | n => n, fun | 9 => 9 | 4 => 4 | 3 => 3 | n => n, fun | n => n⟩
theorem Try.lays99 : Go.Proofs.Lays.n99 Try.prog Try.lays99_ren := {
  mixed := by kernel_rfl
  f99 := Try.func52.trans (congrArg some (by kernel_rfl))
  f206 := Try.func75.trans (congrArg some (by kernel_rfl))
  t3 := Try.underlying3
  a3 := Try.isAgg3
  z3 := Try.sizeOf3
  v3 := Try.zeroValue3
  t4 := Try.underlying4
  a4 := Try.isAgg4
  z4 := Try.sizeOf4
  v4 := Try.zeroValue4
  t9 := Try.underlying9
  a9 := Try.isAgg9
  z9 := Try.sizeOf9
  v9 := Try.zeroValue9 }
open Go.RowKit Go.Lib in
/-- strings.HasPrefix: "HasPrefix reports whether the string s begins with prefix.": IT RETURNS 'Lib.hasPrefix s prefix'; the world is as it was. (LAID: no walk: one application.) -/
theorem Try.strings_HasPrefix (s p : ByteArray) (w : World) :
    Calls Try.prog 52 #[.string s, .string p] w fun e w' => e = .returned (.bool (Lib.hasPrefix s.data.toList p.data.toList)) ∧ w' = w := Any.strings_HasPrefix Try.lays99 s p w
end Go.Proofs

namespace Go.Proofs.Ytklidannncajiaa.OW
open Go.RowKit Go.Proofs.YtklidannncajiaaW.PrintWords Go.Proofs.YtklidannncajiaaW.PrintLast Go.Proofs.YtklidannncajiaaW.PrintMore
open Go.Maps (Keyed has IsMap)

/-- Block b is a map from texts to numbers: F tells it, at most n entries. -/
def MapAt (w : World) (b n : Nat) (F : ByteArray → Option Int) : Prop :=
  ∃ D : DataW Unit, w.ownsMap Try.prog 9 (plainElem Try.prog 3) b n D ∧ IsMap D ∧ ∀ s : ByteArray, s.size ≤ maxLen → has D (.string s.data.toList) = (F s).isSome ∧ ∀ v, F s = some v → D.atKey (.string s.data.toList) (.lit (.int .i64 0)) = .lit (.int .i64 v)
theorem keyed9 : Keyed Try.prog 9 := Go.Maps.string_keyed Try.underlying9
theorem zero3 (w : World) : (zeroValue 3).run Try.prog w = .ok (.int .i64 0) w := by kernel_rfl
theorem MapAt.made (w : World) : MapAt (w.alloc (.map #[] 0)) w.heap.size 0 (fun _ => none) :=
  ⟨.map [], World.ownsMap_made _ _ _ _, Go.Maps.isMap_empty, fun _ _ => ⟨rfl, fun _ h => by cases h⟩⟩
theorem MapAt.lt {w : World} {b n : Nat} {F : ByteArray → Option Int} (h : MapAt w b n F) : b < w.heap.size := by
  obtain ⟨D, h1, _⟩ := h
  exact h1.lt
theorem MapAt.move {w w' : World} {b n : Nat} {F : ByteArray → Option Int} (h : MapAt w b n F) (hb : w'.heap[b]? = w.heap[b]?) : MapAt w' b n F := by
  obtain ⟨D, ⟨es, clock, h1, h2⟩, h3⟩ := h
  exact ⟨D, ⟨es, clock, hb.trans h1, h2⟩, h3⟩
section
variable {ops : Array Oper} {rest : List Oper} {o : Oper} {a : Act} {Q : Exit → Act → World → Prop}
theorem MapAt.look {w : World} {b n : Nat} {F : ByteArray → Option Int} (h : MapAt w b n F) (hg : o.guard = none) (m x : Operand) (hop : o.op = Op.lookup 67 m x true) (s : ByteArray) (hs : s.size ≤ maxLen) (hm : a.eval m = .map (some b)) (hx : a.eval x = .string s)
    (hK : ∀ c : Int, (∀ v, F s = some v → c = v) → wpList Try.prog ops Q rest (a.put o.dst (.tuple #[.int .i64 c, .bool (F s).isSome])) w) : wpList Try.prog ops Q (o :: rest) a w := by
  obtain ⟨D, h1, h2, h3⟩ := h
  refine wpList_lookup_own_ok_int w hg m x 67 hop 9 3 .i64 keyed9 Try.underlying67 Try.underlying3 (zero3 w) b n D hm h1 _ (.string s.data.toList) hx (Go.WideMaps.keyOf_string_mk Try.underlying9 hs) ?_
  intro c hat _
  rw [(h3 s hs).1]
  refine hK c fun v hv => ?_
  have := (h3 s hs).2 v hv
  rw [hat] at this
  injection this with this
  injection this
theorem MapAt.put {w : World} {b n : Nat} {F : ByteArray → Option Int} (h : MapAt w b n F) (hn : n < maxLen) (hg : o.guard = none) (hdst : o.dst = none) (m x v : Operand) (hop : o.op = Op.mapUpdate 67 m x v) (s : ByteArray) (hs : s.size ≤ maxLen) (i : Int) (hi : (Lit.int .i64 i).wf = true) (hm : a.eval m = .map (some b)) (hx : a.eval x = .string s) (hv : a.eval v = .int .i64 i)
    (hK : ∀ w', MapAt w' b (n + 1) (fun t => if t = s then some i else F t) → w.grownBy w' (some b) → wpList Try.prog ops Q rest a w') : wpList Try.prog ops Q (o :: rest) a w := by
  obtain ⟨D, h1, h2, h3⟩ := h
  refine wpList_mapUpdate_own w hg m x v 67 hop 9 3 keyed9 Try.underlying67 (plainElem Try.prog 3) b n D hm h1 hn _ _ (.string s.data.toList) hx hv (Go.WideMaps.keyOf_string_mk Try.underlying9 hs) (.lit (.int .i64 i)) [] (plainElem_int Try.underlying3 hi) ?_
  intro w' h4 h5
  rw [hdst]
  refine hK w' ⟨_, h4, h2.put _ _, fun t ht => ?_⟩ h5
  dsimp only
  by_cases e : t = s
  · subst e
    rw [if_pos rfl]
    refine ⟨Go.Maps.has_put_same h2 (k := .string t.data.toList) True.intro _, fun v hv => ?_⟩
    rw [Go.Maps.atKey_put_same h2 (k := .string t.data.toList) True.intro, Option.some.inj hv]
  · rw [if_neg e]
    have hne : (Lit.string t.data.toList) ≠ Lit.string s.data.toList := fun h => e (bytes_ext (by injection h))
    rw [Go.Maps.has_put_other hne, Go.Maps.atKey_put_other hne]
    exact h3 t ht
end
/-- What a builder has made so far: nodes, and which rests are which. -/
structure Bld where
  ns : List S72
  F : ByteArray → Option Int
def restsKey (l : List ByteArray) : ByteArray := ⟨(Lib.join (l.map (·.data.toList)) [255]).toArray⟩
/-- The rests behind the first rune p (n bytes) of those, from the first on, that begin so. -/
def grp (p : ByteArray) (n : Nat) : List ByteArray → List ByteArray
  | [] => []
  | s :: t => if Lib.hasPrefix s.data.toList p.data.toList = true then cut s n :: grp p n t else []
def isEnd (l : List ByteArray) : Bool := match l with | [] => false | s :: _ => decide (s = ⟨#[]⟩)
def restsOf (l : List ByteArray) : List ByteArray := if isEnd l = true then l.drop 1 else l
def Bld.open_ (st : Bld) (key : ByteArray) : Bld := ⟨st.ns ++ [z72], fun t => if t = key then some (st.ns.length : Int) else st.F t⟩
def Bld.shut (st : Bld) (n : Nat) (x : S72) : Bld := ⟨st.ns.set n x, st.F⟩
mutual
def node : Nat → List ByteArray → Bld → Option (Int × Bld)
  | 0, _, _ => none
  | f + 1, l, st => if l ≠ [] ∧ (Lib.join (l.map (·.data.toList)) [255]).length ≤ 1000000 ∧ st.ns.length ≤ 1000000 ∧ l.length ≤ 1000000 then
      match st.F (restsKey l) with
      | some n => some (n, st)
      | none => (edges f (restsOf l) [] (st.open_ (restsKey l))).bind fun y => if st.ns.length < y.2.ns.length then some ((st.ns.length : Int), y.2.shut st.ns.length ⟨isEnd l, y.1⟩) else none
    else none
def edges : Nat → List ByteArray → List S91 → Bld → Option (List S91 × Bld)
  | 0, _, _, _ => none
  | f + 1, l, es, st => match l with
    | [] => some (es, st)
    | s :: t => if s.size ≤ 1000000 ∧ 0 < s.size ∧ es.length ≤ 1000000 ∧ (s :: t).length ≤ 1000000 then
        (node f (grp (s.extract 0 (Utf8.decode s 0).2) (Utf8.decode s 0).2 (s :: t)) st).bind fun y => edges f ((s :: t).drop (grp (s.extract 0 (Utf8.decode s 0).2) (Utf8.decode s 0).2 (s :: t)).length) (es ++ [⟨((Utf8.decode s 0).1 : Int), y.1⟩]) y.2
      else none
end
/-- The builder at block b, its graph at gB, its map at mB: all made since B; ok: which blocks its rows of nodes and edges may be. -/
structure BuilderAt (w : World) (B b gB mB : Nat) (ok : Nat → Prop) (st : Bld) : Prop where
  blk : w.heap[b]? = some (.cells #[.pointer (some ⟨gB, 0, none⟩), .map (some mB)] 69 (0, 0))
  leG : B ≤ gB
  leM : B ≤ mB
  size : B ≤ w.heap.size
  graph : ∃ v, w.heap[gB]? = some (.cells #[v] 66 (0, 0)) ∧ Kd.R k72 72 w B ok v st.ns
  map : MapAt w mB st.ns.length st.F
/-- What the building of a node writes: the graph's variable, its row of nodes, the map. -/
structure NodeKept (B mB : Nat) (w w' : World) : Prop where
  os : w'.os = w.os
  tape : w'.tape = w.tape
  output : w'.output = w.output
  size : w.heap.size ≤ w'.heap.size
  block : ∀ k, k < w.heap.size → k ≠ mB → (∀ t, Typed w k t → ¬ (B ≤ k ∧ (t = 66 ∨ t = 72))) → w'.heap[k]? = w.heap[k]?
namespace NodeKept
variable {B mB : Nat} {w w1 w2 : World}
theorem refl (B mB : Nat) (w : World) : NodeKept B mB w w := ⟨rfl, rfl, rfl, Nat.le_refl _, fun _ _ _ _ => rfl⟩
theorem trans (h : NodeKept B mB w w1) (h1 : NodeKept B mB w1 w2) : NodeKept B mB w w2 :=
  ⟨h1.os.trans h.os, h1.tape.trans h.tape, h1.output.trans h.output, Nat.le_trans h.size h1.size, fun k hk hm ht => by
    have e := h.block k hk hm ht
    exact (h1.block k (Nat.lt_of_lt_of_le hk h.size) hm (fun t ⟨c, hc⟩ => ht t ⟨c, e ▸ hc⟩)).trans e⟩
theorem of_below (h : Below w.heap.size w w1) : NodeKept B mB w w1 := ⟨h.os, h.tape, h.output, h.size, fun k hk _ _ => h.block k hk⟩
theorem of_grown {row : Option Nat} (h : w.grownBy w1 row) (hr : ∀ k, row = some k → k = mB ∨ ∃ t, Typed w k t ∧ (B ≤ k ∧ (t = 66 ∨ t = 72))) : NodeKept B mB w w1 :=
  ⟨h.os, h.tape, h.output, h.size, fun k hk hm ht => h.block k hk (fun e => by
    rcases hr k e.symm with h1 | ⟨t, h1, h2⟩
    · exact hm h1
    · exact ht t h1 h2)⟩
theorem typed (h : NodeKept B mB w w1) {k t : Nat} (ht : Typed w k t) (hm : k ≠ mB) (hn : ¬ (B ≤ k ∧ (t = 66 ∨ t = 72))) : w1.heap[k]? = w.heap[k]? :=
  h.block k ht.lt hm (fun t' h1 h2 => by rw [h1.det ht] at h2; exact hn h2)
theorem to_below (h : NodeKept B mB w w1) (hm : B ≤ mB) (hB : B ≤ w.heap.size) : Below B w w1 := ⟨h.os, h.tape, h.output, h.size, fun k hk => h.block k (by omega) (by omega) (fun t _ h2 => by omega)⟩
theorem row {α : Type} {d : Kd α} {e base : Nat} {v : Value} {xs : List α} {ok : Nat → Prop} (h : NodeKept B mB w w1) (hM : ∃ es clock, w.heap[mB]? = some (.map es clock)) (ho : d.R e w base ok v xs) (hn : ∀ t, t ∈ e :: d.E → t ≠ 66 ∧ t ≠ 72) : d.R e w1 base ok v xs :=
  Kd.R_mono (Kd.R_step (Kd.R_bound ho) (fun k hk hlt => by
    obtain ⟨_, h1, h2, q, hq, c, hc⟩ := hk
    refine h.typed ⟨c, hc⟩ (fun e => ?_) (fun h3 => by have := hn q hq; omega)
    obtain ⟨es, clock, hM⟩ := hM
    rw [e, hM] at hc
    injection hc with hc
    cases hc)) (fun _ hk => hk.1)
end NodeKept
theorem MapAt.is {w : World} {b n : Nat} {F : ByteArray → Option Int} (h : MapAt w b n F) : ∃ es clock, w.heap[b]? = some (.map es clock) := by
  obtain ⟨D, ⟨es, clock, h1, _⟩, _⟩ := h
  exact ⟨es, clock, h1⟩
end Go.Proofs.Ytklidannncajiaa.OW

namespace Go.Proofs.Ytklidannncajiaa.OW
open Go.RowKit

theorem cmp_self : ∀ l : List UInt8, Lib.compareBytes l l = 0
  | [] => rfl
  | a :: t => by
    unfold Lib.compareBytes
    rw [if_neg (UInt8.lt_irrefl a), if_neg (UInt8.lt_irrefl a)]
    exact cmp_self t
theorem cmp_nil {a : List UInt8} : ¬ Lib.compareBytes a [] < 0 := by cases a <;> simp [Lib.compareBytes]
theorem cmp_trans : ∀ {a b c : List UInt8}, Lib.compareBytes a b < 0 → Lib.compareBytes b c < 0 → Lib.compareBytes a c < 0
  | [], _, [], _, h2 => absurd h2 cmp_nil
  | [], _, _ :: _, _, _ => by simp [Lib.compareBytes]
  | _ :: _, [], _, h1, _ => by simp [Lib.compareBytes] at h1
  | _ :: _, _ :: _, [], _, h2 => by simp [Lib.compareBytes] at h2
  | x :: a, y :: b, z :: c, h1, h2 => by
    unfold Lib.compareBytes at h1 h2 ⊢
    by_cases xy : x < y
    · by_cases yz : y < z
      · rw [if_pos (UInt8.lt_trans xy yz)]; omega
      · rw [if_neg yz] at h2
        by_cases zy : z < y
        · rw [if_pos zy] at h2; omega
        · have : y = z := UInt8.le_antisymm (UInt8.not_lt.1 zy) (UInt8.not_lt.1 yz)
          rw [if_pos (this ▸ xy)]; omega
    · rw [if_neg xy] at h1
      by_cases yx : y < x
      · rw [if_pos yx] at h1; omega
      · rw [if_neg yx] at h1
        have e : x = y := UInt8.le_antisymm (UInt8.not_lt.1 yx) (UInt8.not_lt.1 xy)
        subst e
        by_cases yz : x < z
        · rw [if_pos yz]; omega
        · rw [if_neg yz] at h2 ⊢
          by_cases zy : z < x
          · rw [if_pos zy] at h2; omega
          · rw [if_neg zy] at h2 ⊢
            exact cmp_trans h1 h2
theorem cmp_app : ∀ p a b : List UInt8, Lib.compareBytes (p ++ a) (p ++ b) = Lib.compareBytes a b
  | [], _, _ => rfl
  | x :: p, a, b => by
    show Lib.compareBytes (x :: (p ++ a)) (x :: (p ++ b)) = _
    conv => lhs; unfold Lib.compareBytes
    rw [if_neg (UInt8.lt_irrefl x), if_neg (UInt8.lt_irrefl x)]
    exact cmp_app p a b
/-- The order of texts. -/
def ltB (a b : ByteArray) : Prop := Lib.compareBytes a.data.toList b.data.toList < 0
instance (a b : ByteArray) : Decidable (ltB a b) := inferInstanceAs (Decidable (_ < _))
theorem ltB.trans {a b c : ByteArray} (h : ltB a b) (h' : ltB b c) : ltB a c := cmp_trans h h'
theorem ltB.irrefl (a : ByteArray) : ¬ ltB a a := by unfold ltB; rw [cmp_self]; omega
theorem ltB.ne_empty {a b : ByteArray} (h : ltB a b) : 0 < b.size := by
  rw [size_list]
  cases hb : b.data.toList with
  | nil => unfold ltB at h; rw [hb] at h; exact absurd h cmp_nil
  | cons x t => simp
/-! ### a clean text has no byte 255; keys -/
theorem encode_small (r : Int) (x : UInt8) (hx : x ∈ Lib.encodeRune r) : x ≠ 255 := by
  unfold Lib.encodeRune at hx
  obtain ⟨z, hz, rfl⟩ := List.mem_map.1 hx
  have hb : 0 ≤ z ∧ z < 255 := by
    unfold Lib.encodeRuneZ at hz
    split at hz
    · simp only [List.mem_cons, List.not_mem_nil, or_false] at hz; omega
    · split at hz
      · simp only [List.mem_cons, List.not_mem_nil, or_false] at hz; omega
      · split at hz
        · simp only [List.mem_cons, List.not_mem_nil, or_false] at hz; omega
        · split at hz
          · simp only [List.mem_cons, List.not_mem_nil, or_false] at hz; omega
          · simp only [List.mem_cons, List.not_mem_nil, or_false] at hz; omega
  intro e
  have h1 := congrArg UInt8.toNat e
  have h2 : (z.toNat.toUInt8).toNat = z.toNat % 256 := by simp
  rw [h2] at h1
  have : (255 : UInt8).toNat = 255 := rfl
  omega
theorem Clean.no255 : ∀ (d : Nat) (s : ByteArray), s.size ≤ d → Clean s → (255 : UInt8) ∉ s.data.toList := by
  intro d
  induction d with
  | zero =>
    intro s hs _ h
    rw [size_list] at hs
    have : s.data.toList = [] := List.length_eq_zero_iff.1 (by omega)
    rw [this] at h
    cases h
  | succ d ih =>
    intro s hs hc h
    by_cases h0 : 0 < s.size
    · have h1 := hc.first_ h0
      have h2 := decode_pos s 0 h0
      have h3 := ih (cut s (Utf8.decode s 0).2) (by rw [cut_size]; omega) (hc.cut_ h0)
      have hd : Lib.decodeL s.data.toList = Utf8.decode s 0 := by have := Lib.decodeL_drop s 0; rwa [List.drop_zero] at this
      have hne : s.data.toList ≠ [] := by intro e; rw [size_list, e] at h0; simp at h0
      have he := Lib.encode_decode s.data.toList hne (by rw [hd]; exact fun hc => h1 hc.1)
      rw [hd] at he
      rw [← List.take_append_drop (Utf8.decode s 0).2 s.data.toList] at h
      rcases List.mem_append.1 h with h | h
      · rw [← he] at h
        exact encode_small _ _ h rfl
      · rw [cut_data] at h3
        exact h3 h
    · rw [size_list] at h0
      have : s.data.toList = [] := List.length_eq_zero_iff.1 (by omega)
      rw [this] at h
      cases h
def joinR : List (List UInt8) → List UInt8
  | [] => []
  | [x] => x
  | x :: y :: t => x ++ 255 :: joinR (y :: t)
theorem join_eq : ∀ l : List (List UInt8), Lib.join l [255] = joinR l
  | [] => rfl
  | [x] => by simp [Lib.join, joinR, List.intercalate]
  | x :: y :: t => by
    have ih := join_eq (y :: t)
    unfold Lib.join at ih ⊢
    show _ = x ++ 255 :: joinR (y :: t)
    rw [← ih]
    simp [List.intercalate]
theorem joinR_len : ∀ l : List (List UInt8), (joinR l).length ≤ (l.map List.length).sum + l.length
  | [] => by simp [joinR]
  | [x] => by simp [joinR]
  | x :: y :: t => by
    have ih := joinR_len (y :: t)
    show (x ++ 255 :: joinR (y :: t)).length ≤ _
    simp at ih ⊢
    omega
theorem sep_inj : ∀ {x y r r' : List UInt8}, (255 : UInt8) ∉ x → (255 : UInt8) ∉ y → x ++ 255 :: r = y ++ 255 :: r' → x = y ∧ r = r'
  | [], [], _, _, _, _, h => ⟨rfl, by simpa using h⟩
  | [], b :: y, _, _, _, hy, h => by
    simp at h
    exact absurd (h.1 ▸ List.mem_cons_self) hy
  | a :: x, [], _, _, hx, _, h => by
    simp at h
    exact absurd (h.1 ▸ List.mem_cons_self) hx
  | a :: x, b :: y, r, r', hx, hy, h => by
    simp only [List.cons_append, List.cons.injEq] at h
    obtain ⟨h1, h2⟩ := sep_inj (fun hm => hx (List.mem_cons_of_mem _ hm)) (fun hm => hy (List.mem_cons_of_mem _ hm)) h.2
    exact ⟨by rw [h.1, h1], h2⟩
theorem joinR_inj : ∀ {l l' : List (List UInt8)}, l ≠ [] → l' ≠ [] → (∀ x ∈ l, (255 : UInt8) ∉ x) → (∀ x ∈ l', (255 : UInt8) ∉ x) → joinR l = joinR l' → l = l'
  | [], _, h, _, _, _, _ => absurd rfl h
  | _, [], _, h, _, _, _ => absurd rfl h
  | [x], [y], _, _, _, _, h => by rw [show x = y from h]
  | [x], y :: z :: t, _, _, hx, _, h => by
    have h' : x = y ++ 255 :: joinR (z :: t) := h
    exact absurd (by rw [h']; simp) (hx x List.mem_cons_self)
  | x :: z :: t, [y], _, _, _, hy, h => by
    have h' : x ++ 255 :: joinR (z :: t) = y := h
    exact absurd (by rw [← h']; simp) (hy y List.mem_cons_self)
  | x :: z :: t, y :: u :: t', _, _, hx, hy, h => by
    obtain ⟨h1, h2⟩ := sep_inj (hx x List.mem_cons_self) (hy y List.mem_cons_self) (show x ++ 255 :: joinR (z :: t) = y ++ 255 :: joinR (u :: t') from h)
    have := joinR_inj (by simp) (by simp) (fun q hq => hx q (List.mem_cons_of_mem _ hq)) (fun q hq => hy q (List.mem_cons_of_mem _ hq)) h2
    rw [h1, this]
theorem key_inj {l l' : List ByteArray} (h1 : l ≠ []) (h2 : l' ≠ []) (c1 : ∀ s ∈ l, Clean s) (c2 : ∀ s ∈ l', Clean s) (h : restsKey l = restsKey l') : l = l' := by
  have h3 : joinR (l.map (·.data.toList)) = joinR (l'.map (·.data.toList)) := by
    rw [← join_eq, ← join_eq]
    have := congrArg (fun s : ByteArray => s.data.toList) h
    simpa [restsKey] using this
  have h4 := joinR_inj (by simpa using h1) (by simpa using h2) (fun x hx => by obtain ⟨s, hs, rfl⟩ := List.mem_map.1 hx; exact (c1 s hs).no255 s.size s (Nat.le_refl _)) (fun x hx => by obtain ⟨s, hs, rfl⟩ := List.mem_map.1 hx; exact (c2 s hs).no255 s.size s (Nat.le_refl _)) h3
  exact (List.map_inj_right (fun a b hab => bytes_ext hab)).1 h4
/-! ### texts that begin with one rune -/
theorem decode_prefix (s x : ByteArray) (h0 : 0 < s.size) (hr : (Utf8.decode s 0).1 ≠ 65533) (hp : Lib.hasPrefix x.data.toList (s.extract 0 (Utf8.decode s 0).2).data.toList = true) : Utf8.decode x 0 = Utf8.decode s 0 := by
  obtain ⟨t, ht⟩ := List.isPrefixOf_iff_prefix.1 hp
  have hle := decode_le_size s 0 h0
  rw [head_data] at ht
  rw [size_list] at hle
  have hget : ∀ i, i < (Utf8.decode s 0).2 → x.data.toList.getD i 0 = s.data.toList.getD i 0 := by
    intro i hi
    rw [← ht, List.getD_eq_getElem?_getD, List.getD_eq_getElem?_getD, List.getElem?_append_left (by rw [List.length_take]; omega), List.getElem?_take, if_pos hi]
  have hlen : (Utf8.decode s 0).2 ≤ x.data.toList.length := by rw [← ht, List.length_append, List.length_take]; omega
  rw [Lib.decode_N s 0] at hr hget hlen ⊢
  rw [Lib.decode_N x 0]
  simp only [Nat.sub_zero, Nat.zero_add] at hr hget hlen ⊢
  rcases Lib.decodeN_shape s.data.toList.length (s.data.toList.getD 0 0).toNat (s.data.toList.getD 1 0).toNat (s.data.toList.getD 2 0).toNat (s.data.toList.getD 3 0).toNat with ⟨c, e⟩ | ⟨c1, c2, c3, cv, e⟩ | ⟨c1, c2, c3, c4, cv, cs, e⟩ | ⟨c1, c2, c3, c4, c5, cv, cw, e⟩ | e
  · rw [e] at hget ⊢
    have g0 := hget 0 (by dsimp only; omega)
    rw [g0]
    unfold Lib.decodeN
    rw [if_pos c]
  · rw [e] at hget hlen ⊢
    dsimp only at hget hlen
    have g0 := hget 0 (by omega)
    have g1 := hget 1 (by omega)
    rw [g0, g1]
    unfold Lib.decodeN
    rw [if_neg (by omega), if_pos ⟨c1, by omega, c3⟩, if_pos (by omega)]
  · rw [e] at hget hlen ⊢
    dsimp only at hget hlen
    have g0 := hget 0 (by omega)
    have g1 := hget 1 (by omega)
    have g2 := hget 2 (by omega)
    rw [g0, g1, g2]
    unfold Lib.decodeN
    rw [if_neg (by omega), if_neg (by omega), if_pos ⟨c1, ⟨by omega, c3⟩, by omega, c4⟩, if_pos (by omega)]
  · rw [e] at hget hlen ⊢
    dsimp only at hget hlen
    have g0 := hget 0 (by omega)
    have g1 := hget 1 (by omega)
    have g2 := hget 2 (by omega)
    have g3 := hget 3 (by omega)
    rw [g0, g1, g2, g3]
    unfold Lib.decodeN
    rw [if_neg (by omega), if_neg (by omega), if_neg (by omega), if_pos ⟨c1, ⟨by omega, c3⟩, ⟨by omega, c4⟩, by omega, c5⟩, if_pos (by omega)]
  · rw [e] at hr
    exact absurd rfl hr
end Go.Proofs.Ytklidannncajiaa.OW

namespace Go.Proofs.Ytklidannncajiaa.OW
open Go.RowKit Go.Proofs.YtklidannncajiaaW.PrintWords Go.Proofs.YtklidannncajiaaW.PrintLast Go.Proofs.YtklidannncajiaaW.PrintMore

def strings_Compare.f (a0 : ByteArray) (a1 : ByteArray) : Option Int := some (Lib.compareBytes a0.data.toList a1.data.toList)
theorem strings_Compare.calls (a0 : ByteArray) (a1 : ByteArray) (r : Int) (w : World) (h : strings_Compare.f a0 a1 = some r) :
    Calls Try.prog 65 #[.string a0, .string a1] w fun e w' => e = .returned (.int .i64 r) ∧ Drawn0 w w' := by
  obtain rfl := Option.some.inj h
  refine (Try.strings_Compare a0 a1 w).mono fun e w' ⟨he, hw⟩ => ?_
  subst hw
  exact ⟨he, Drawn0.refl _⟩
end Go.Proofs.Ytklidannncajiaa.OW

-- Laid by a program of this session (wip/ownprint.py, wip/hooks.py) over the seat's translation. Lean checks it.
namespace Go.Proofs.Ytklidannncajiaa.OW
open Go.RowKit Go.Proofs.YtklidannncajiaaW.PrintWords Go.Proofs.YtklidannncajiaaW.PrintLast Go.Proofs.YtklidannncajiaaW.PrintMore
attribute [local go_sem] max2_int min2_int max_two min_two max_three min_three max_four min_four   -- for this text's walks alone
set_option linter.unusedVariables false
set_option linter.unusedSimpArgs false

/-! ### inkhornlaw0_GreatTexts: function 27 -/
mutual
def inkhornlaw0_GreatTexts.l0 : Nat → List ByteArray → Int → Option (Bool)
  | 0, _, _ => none
  | k + 1, x0, x3 => if x3 < (x0.length : Int) then (inkhornlaw0_GreatTexts.j1 k x0 x3 (decide ((x0.length : Int) ≤ 80))) else (inkhornlaw0_GreatTexts.j1 k x0 x3 false)
def inkhornlaw0_GreatTexts.j1 : Nat → List ByteArray → Int → Bool → Option (Bool)
  | 0, _, _, _ => none
  | k + 1, x0, x3, x12 => if x12 = true then (if 0 ≤ x3 then (if x3 < (x0.length : Int) then (if ((rdOf ByteArray.empty x0 x3).size : Int) > 100 then (some true) else (inkhornlaw0_GreatTexts.l0 k x0 (wrap64 (x3 + 1)))) else (none)) else (none)) else (some (decide ((x0.length : Int) > 80)))
end
def inkhornlaw0_GreatTexts.f (k : Nat) (l0 : List ByteArray) : Option (Bool) := inkhornlaw0_GreatTexts.l0 k l0 0
set_option maxHeartbeats 8000000 in
set_option maxRecDepth 100000 in
theorem inkhornlaw0_GreatTexts.calls (k : Nat) (A0 : Option Addr) (c0 : Nat) (l0 : List ByteArray) (r : Bool) (w : World) (hr0 : Kd.C Kd.string w A0 l0.length l0) (hc0 : l0.length ≤ c0) (h : inkhornlaw0_GreatTexts.f k l0 = some r) :
    Calls Try.prog 27 #[.slice A0 l0.length c0] w fun e w' => e = .returned (.bool r) ∧ Drawn0 w w' := by
  have HR0 := Aside0.mk hr0
  have HC0 := Aside0.mk hc0
  clear hr0 hc0
  have H : (inkhornlaw0_GreatTexts.l0 k l0 0) = some r := h
  clear h
  have H' := Aside0.mk H
  clear H
  go_enter Try.func27, Try.ntmps27
  go_wp2
  go_loopg [3] k (fun kq v3 w' => ∃ (x3_1 : Int), v3 = .int .i64 x3_1 ∧ Aside0 (inkhornlaw0_GreatTexts.l0 kq l0 x3_1 = some r) ∧ Aside0 (kq ≤ k) ∧ Drawn0 w w')
  case atStart => exact ⟨(0), (by first | rfl | (simp; done) | (simp [*]; done)), H', ⟨Nat.le_refl _⟩, by repeat (first | exact Drawn0.refl _ | apply Drawn0.step)⟩
  case round =>
    clear H'
    obtain ⟨x3_1, rfl, HA, HK1, ⟨m1, rfl⟩⟩ := hrel
    cases gk with
    | zero => exact absurd HA.out (by simp [inkhornlaw0_GreatTexts.l0])
    | succ k1 =>
      have H := HA.out
      clear HA
      simp only [inkhornlaw0_GreatTexts.l0] at H
      have HC2 := Aside0.mk H
      clear H
      go_upto_region 2 with (fail)
      go_cut [12] (fun v12 wc => ∃ (kq : Nat) (x12_1 : Bool), v12 = .bool x12_1 ∧ Aside0 (inkhornlaw0_GreatTexts.j1 kq l0 x3_1 x12_1 = some r) ∧ Aside0 (kq ≤ k1) ∧ Drawn0 w wc)
      case first =>
        have H := HC2.out
        clear HC2
        by_cases c3 : x3_1 < (l0.length : Int)
        · rw [if_pos c3] at H
          have c3b0 : decide (x3_1 < (l0.length : Int)) = true := decide_eq_true c3
          clear c3
          (first | rw [c3b0] | (simp only [i64_w, i32_w]; rw [c3b0]) | skip)
          have H' := Aside0.mk H
          clear H
          go_wp2
          go_meet
          case rel => exact ⟨_, (decide ((l0.length : Int) ≤ 80)), (by first | rfl | (simp; done) | (simp [*]; done)), H', ⟨by have := HK1.out; first | omega | exact Nat.le_refl _⟩, by repeat (first | exact Drawn0.refl _ | apply Drawn0.step)⟩
        · rw [if_neg c3] at H
          have c3b0 : decide (x3_1 < (l0.length : Int)) = false := decide_eq_false c3
          clear c3
          (first | rw [c3b0] | (simp only [i64_w, i32_w]; rw [c3b0]) | skip)
          have H' := Aside0.mk H
          clear H
          go_wp2
          go_meet
          case rel => exact ⟨_, (false), (by first | rfl | (simp; done) | (simp [*]; done)), H', ⟨by have := HK1.out; first | omega | exact Nat.le_refl _⟩, by repeat (first | exact Drawn0.refl _ | apply Drawn0.step)⟩
      case rest =>
        clear HC2
        try clear c2
        try clear p2
        try clear c3
        try clear c3b0
        obtain ⟨kq, x12_1, rfl, HA, HJ1, ⟨mc1, rfl⟩⟩ := hcut
        cases kq with
        | zero => exact absurd HA.out (by simp [inkhornlaw0_GreatTexts.j1])
        | succ kj1 =>
          have H := HA.out
          clear HA
          simp only [inkhornlaw0_GreatTexts.j1] at H
          by_cases c4 : x12_1 = true
          · subst c4
            have H1 : (if 0 ≤ x3_1 then (if x3_1 < (l0.length : Int) then (if ((rdOf ByteArray.empty l0 x3_1).size : Int) > 100 then (some true) else (inkhornlaw0_GreatTexts.l0 kj1 l0 (wrap64 (x3_1 + 1)))) else (none)) else (none)) = some r := by rw [if_pos rfl] at H; exact H
            clear H
            have H := H1
            clear H1
            by_cases c5 : 0 ≤ x3_1
            · rw [if_pos c5] at H
              have c5b0 : decide (0 ≤ x3_1) = true := decide_eq_true c5
              clear c5
              by_cases c6 : x3_1 < (l0.length : Int)
              · rw [if_pos c6] at H
                have c6b0 : decide (x3_1 < (l0.length : Int)) = true := decide_eq_true c6
                clear c6
                by_cases c7 : ((rdOf ByteArray.empty l0 x3_1).size : Int) > 100
                · rw [if_pos c7] at H
                  have c7b0 : decide (100 < ((rdOf ByteArray.empty l0 x3_1).size : Int)) = true := decide_eq_true c7
                  have c7b1 : decide (100 < (rdOf ByteArray.empty l0 x3_1).size) = true := decide_eq_true (by omega)
                  clear c7
                  obtain rfl := Option.some.inj H
                  have p101 : 0 ≤ (x3_1 : Int) := of_decide_eq_true (by first | (with_reducible assumption) | assumption)
                  have q101 : x3_1 < (l0.length : Int) := of_decide_eq_true (by first | (with_reducible assumption) | assumption)
                  obtain ⟨ad101, e101, hx101_0⟩ := Kd.at_string HR0.out x3_1 p101 q101
                  cases e101
                  replace p101 := eq_true p101
                  replace q101 := eq_true q101
                  go_wp2
                  go_ret
                  exact ⟨by first | rfl | (simp; done) | (simp [*]; done), by repeat (first | exact Drawn0.refl _ | apply Drawn0.step)⟩
                · rw [if_neg c7] at H
                  have c7b0 : decide (100 < ((rdOf ByteArray.empty l0 x3_1).size : Int)) = false := decide_eq_false c7
                  have c7b1 : decide (100 < (rdOf ByteArray.empty l0 x3_1).size) = false := decide_eq_false (by omega)
                  clear c7
                  have H' := Aside0.mk H
                  clear H
                  have p101 : 0 ≤ (x3_1 : Int) := of_decide_eq_true (by first | (with_reducible assumption) | assumption)
                  have q101 : x3_1 < (l0.length : Int) := of_decide_eq_true (by first | (with_reducible assumption) | assumption)
                  obtain ⟨ad101, e101, hx101_0⟩ := Kd.at_string HR0.out x3_1 p101 q101
                  cases e101
                  replace p101 := eq_true p101
                  replace q101 := eq_true q101
                  go_wp2
                  go_roundg kj1
                  case measure => have := HK1.out; have := HJ1.out; omega
                  case rel => exact ⟨(wrap64 (x3_1 + 1)), (by first | rfl | (simp; done) | (simp [*]; done)), H', ⟨by have := HK1.out; have := HJ1.out; omega⟩, by repeat (first | exact Drawn0.refl _ | apply Drawn0.step)⟩
              · rw [if_neg c6] at H
                exact absurd H (by simp)
            · rw [if_neg c5] at H
              exact absurd H (by simp)
          · replace c4 := Bool.eq_false_iff.mpr c4
            subst c4
            have H1 : (some (decide ((l0.length : Int) > 80))) = some r := by rw [if_neg (show ¬ (false = true) by decide)] at H; exact H
            clear H
            have H := H1
            clear H1
            obtain rfl := Option.some.inj H
            go_wp2
            go_ret
            exact ⟨by first | rfl | (simp; done) | (simp [*]; done), by repeat (first | exact Drawn0.refl _ | apply Drawn0.step)⟩

/-! ### inkhornlaw11_great: function 12 -/
def inkhornlaw11_great.f (k : Nat) (l0 : List ByteArray) (a1 : ByteArray) : Option (Bool) := (inkhornlaw0_GreatTexts.f k l0).bind fun t102 => (if t102 = true then (some true) else (some (decide ((a1.size : Int) > 100))))
set_option maxHeartbeats 8000000 in
set_option maxRecDepth 100000 in
theorem inkhornlaw11_great.calls (k : Nat) (A0 : Option Addr) (c0 : Nat) (l0 : List ByteArray) (a1 : ByteArray) (r : Bool) (w : World) (hr0 : Kd.C Kd.string w A0 l0.length l0) (hc0 : l0.length ≤ c0) (h : inkhornlaw11_great.f k l0 a1 = some r) :
    Calls Try.prog 12 #[.slice A0 l0.length c0, .string a1] w fun e w' => e = .returned (.bool r) ∧ Drawn0 w w' := by
  have HR0 := Aside0.mk hr0
  have HC0 := Aside0.mk hc0
  clear hr0 hc0
  have H : ((inkhornlaw0_GreatTexts.f k l0).bind fun t102 => (if t102 = true then (some true) else (some (decide ((a1.size : Int) > 100))))) = some r := h
  clear h
  replace H := Option.bind_eq_some_iff.mp H
  obtain ⟨t102, A30, H⟩ := H
  replace H : (if t102 = true then (some true) else (some (decide ((a1.size : Int) > 100)))) = some r := H
  have A3 := Aside0.mk A30
  clear A30
  by_cases c4 : t102 = true
  · subst c4
    have H1 : (some true) = some r := by rw [if_pos rfl] at H; exact H
    clear H
    have H := H1
    clear H1
    obtain rfl := Option.some.inj H
    go_enter Try.func12, Try.ntmps12
    go_wp2_with (first | ((with_reducible refine gate_callee (f := 27) rfl ?_); refine goesL_ (some 6) rfl rfl Try.func27 (by kernel_rfl) rfl #[.slice A0 l0.length c0] rfl (by (try simp only [List.map_toArray, List.map_cons, List.map_nil]); first | done | rfl | (simp only [List.length_drop, List.length_take]; rfl)) ?_; (with_reducible refine (inkhornlaw0_GreatTexts.calls k _ _ l0 true _ ?side1 ?side2 A3.out).mono ?_); (case side1 => repeat (first | exact HR0.out | (with_reducible refine Kd.C_alloc ?_ _) | (with_reducible refine Kd.C_drewN ?_ _) | (with_reducible refine Kd.C_drew ?_))); (case side2 => exact HC0.out); rintro e w' ⟨rfl, ⟨nd, rfl⟩⟩; refine ⟨_, rfl, ?_⟩))
    go_ret
    exact ⟨by first | rfl | (simp; done) | (simp [*]; done), by repeat (first | exact Drawn0.refl _ | apply Drawn0.step)⟩
  · replace c4 := Bool.eq_false_iff.mpr c4
    subst c4
    have H1 : (some (decide ((a1.size : Int) > 100))) = some r := by rw [if_neg (show ¬ (false = true) by decide)] at H; exact H
    clear H
    have H := H1
    clear H1
    obtain rfl := Option.some.inj H
    go_enter Try.func12, Try.ntmps12
    go_wp2_with (first | ((with_reducible refine gate_callee (f := 27) rfl ?_); refine goesL_ (some 6) rfl rfl Try.func27 (by kernel_rfl) rfl #[.slice A0 l0.length c0] rfl (by (try simp only [List.map_toArray, List.map_cons, List.map_nil]); first | done | rfl | (simp only [List.length_drop, List.length_take]; rfl)) ?_; (with_reducible refine (inkhornlaw0_GreatTexts.calls k _ _ l0 false _ ?side1 ?side2 A3.out).mono ?_); (case side1 => repeat (first | exact HR0.out | (with_reducible refine Kd.C_alloc ?_ _) | (with_reducible refine Kd.C_drewN ?_ _) | (with_reducible refine Kd.C_drew ?_))); (case side2 => exact HC0.out); rintro e w' ⟨rfl, ⟨nd, rfl⟩⟩; refine ⟨_, rfl, ?_⟩))
    go_ret
    exact ⟨by first | rfl | (simp; done) | (simp [*]; done), by repeat (first | exact Drawn0.refl _ | apply Drawn0.step)⟩

-- function 26 (text_Len): by hand
/-! ### text_Word: function 43 -/
def text_Word.f (a0 : ByteArray) : Option (Bool) := (text_Len.f a0).bind fun t103 => (if t103 ≥ 1 then (some (decide (t103 ≤ 12))) else (some false))
set_option maxHeartbeats 8000000 in
set_option maxRecDepth 100000 in
theorem text_Word.calls (a0 : ByteArray) (r : Bool) (w : World) (h : text_Word.f a0 = some r) :
    Calls Try.prog 43 #[.string a0] w fun e w' => e = .returned (.bool r) ∧ Below w.heap.size w w' := by
  have HB := Aside0.mk (Below.refl w.heap.size w)
  have H : ((text_Len.f a0).bind fun t103 => (if t103 ≥ 1 then (some (decide (t103 ≤ 12))) else (some false))) = some r := h
  clear h
  replace H := Option.bind_eq_some_iff.mp H
  obtain ⟨t103, A20, H⟩ := H
  replace H : (if t103 ≥ 1 then (some (decide (t103 ≤ 12))) else (some false)) = some r := H
  have A2 := Aside0.mk A20
  clear A20
  by_cases c3 : t103 ≥ 1
  · rw [if_pos c3] at H
    have c3b0 : decide (1 ≤ t103) = true := decide_eq_true c3
    clear c3
    obtain rfl := Option.some.inj H
    go_enter Try.func43, Try.ntmps43
    go_wp2_with (first | ((with_reducible refine gate_callee (f := 26) rfl ?_); refine goesL_ (some 5) rfl rfl Try.func26 (by kernel_rfl) rfl #[.string a0] rfl (by (try simp only [List.map_toArray, List.map_cons, List.map_nil]); first | done | rfl | (simp only [List.length_drop, List.length_take]; rfl)) ?_; (with_reducible refine (text_Len.calls a0 t103 _ A2.out).mono ?_); rintro e w4 ⟨rfl, hb⟩; refine ⟨_, rfl, ?_⟩; have n0_ := Aside0.mk (below_step (by repeat (first | (with_reducible first | exact HB.out | apply below_alloc | apply pw_below_drewN | apply below_drew1) | exact HB.out)) hb); clear HB; have HB := n0_; clear n0_; (try clear hb); (try clear hb2); (try clear hk); (try clear hi)))
    go_ret
    exact ⟨by first | rfl | (simp [errW_none, errW_some] <;> rfl) | (simp [*, errW_none, errW_some] <;> rfl), by repeat (first | (with_reducible first | exact HB.out | apply below_alloc | apply pw_below_drewN | apply below_drew1) | exact HB.out)⟩
  · rw [if_neg c3] at H
    have c3b0 : decide (1 ≤ t103) = false := decide_eq_false c3
    clear c3
    obtain rfl := Option.some.inj H
    go_enter Try.func43, Try.ntmps43
    go_wp2_with (first | ((with_reducible refine gate_callee (f := 26) rfl ?_); refine goesL_ (some 5) rfl rfl Try.func26 (by kernel_rfl) rfl #[.string a0] rfl (by (try simp only [List.map_toArray, List.map_cons, List.map_nil]); first | done | rfl | (simp only [List.length_drop, List.length_take]; rfl)) ?_; (with_reducible refine (text_Len.calls a0 t103 _ A2.out).mono ?_); rintro e w5 ⟨rfl, hb⟩; refine ⟨_, rfl, ?_⟩; have n0_ := Aside0.mk (below_step (by repeat (first | (with_reducible first | exact HB.out | apply below_alloc | apply pw_below_drewN | apply below_drew1) | exact HB.out)) hb); clear HB; have HB := n0_; clear n0_; (try clear hb); (try clear hb2); (try clear hk); (try clear hi)))
    go_ret
    exact ⟨by first | rfl | (simp [errW_none, errW_some] <;> rfl) | (simp [*, errW_none, errW_some] <;> rfl), by repeat (first | (with_reducible first | exact HB.out | apply below_alloc | apply pw_below_drewN | apply below_drew1) | exact HB.out)⟩

-- NOT PRINTED: function 104 (bytealg_abigen_runtime_cmpstring)

-- NOT PRINTED: function 86 (bytealg_CompareString)

-- function 65 (strings_Compare): by hand
/-! ### text_Compare: function 44 -/
def text_Compare.f (a0 : ByteArray) (a1 : ByteArray) : Option (Int) := (strings_Compare.f a0 a1).bind fun t104 => (some t104)
set_option maxHeartbeats 8000000 in
set_option maxRecDepth 100000 in
theorem text_Compare.calls (a0 : ByteArray) (a1 : ByteArray) (r : Int) (w : World) (h : text_Compare.f a0 a1 = some r) :
    Calls Try.prog 44 #[.string a0, .string a1] w fun e w' => e = .returned (.int .i64 r) ∧ Drawn0 w w' := by
  have H : ((strings_Compare.f a0 a1).bind fun t104 => (some t104)) = some r := h
  clear h
  replace H := Option.bind_eq_some_iff.mp H
  obtain ⟨t104, A30, H⟩ := H
  replace H : (some t104) = some r := H
  have A3 := Aside0.mk A30
  clear A30
  obtain rfl := Option.some.inj H
  go_enter Try.func44, Try.ntmps44
  go_wp2_with (first | ((with_reducible refine gate_callee (f := 65) rfl ?_); refine goesL_ (some 7) rfl rfl Try.func65 (by kernel_rfl) rfl #[.string a0, .string a1] rfl (by (try simp only [List.map_toArray, List.map_cons, List.map_nil]); first | done | rfl | (simp only [List.length_drop, List.length_take]; rfl)) ?_; (with_reducible refine (strings_Compare.calls a0 a1 t104 _ A3.out).mono ?_); rintro e w' ⟨rfl, ⟨nd, rfl⟩⟩; refine ⟨_, rfl, ?_⟩))
  go_ret
  exact ⟨by first | rfl | (simp; done) | (simp [*]; done), by repeat (first | exact Drawn0.refl _ | apply Drawn0.step)⟩

/-! ### list_Good: function 28 -/
mutual
def list_Good.l0 : Nat → List ByteArray → List ByteArray → Int → Int → Option (Int)
  | 0, _, _, _, _ => none
  | k + 1, x0, x9, x10, x11 => if x11 < x10 then (if 0 ≤ x11 then (if x11 < (x9.length : Int) then ((text_Word.f (rdOf ByteArray.empty x9 x11)).bind fun t106 => (if t106 = true then (list_Good.l0 k x0 x9 x10 (wrap64 (x11 + 1))) else (some 6))) else (none)) else (none)) else (list_Good.l1 k x0 1)
def list_Good.l1 : Nat → List ByteArray → Int → Option (Int)
  | 0, _, _ => none
  | k + 1, x0, x5 => if x5 < (x0.length : Int) then (if 0 ≤ (wrap64 (x5 - 1)) then (if (wrap64 (x5 - 1)) < (x0.length : Int) then (if 0 ≤ x5 then ((text_Compare.f (rdOf ByteArray.empty x0 (wrap64 (x5 - 1))) (rdOf ByteArray.empty x0 x5)).bind fun t109 => (if t109 ≥ 0 then (some 7) else (list_Good.l1 k x0 (wrap64 (x5 + 1))))) else (none)) else (none)) else (none)) else (some 0)
end
def list_Good.f (k : Nat) (l0 : List ByteArray) : Option (Int) := if (l0.length : Int) > 60 then (some 3) else (list_Good.l0 k l0 l0 (l0.length : Int) 0)
theorem list_Good.mono_l : ∀ k, (∀ y0 y1 y2 y3, LeO (list_Good.l0 k y0 y1 y2 y3) (list_Good.l0 (k + 1) y0 y1 y2 y3)) ∧ (∀ y0 y1, LeO (list_Good.l1 k y0 y1) (list_Good.l1 (k + 1) y0 y1))
  | 0 => ⟨fun _ _ _ _ r h => by simp [list_Good.l0] at h, fun _ _ r h => by simp [list_Good.l1] at h⟩
  | k + 1 => by
    obtain ⟨ih0, ih1⟩ := list_Good.mono_l k
    refine ⟨?_, ?_⟩
    · intro y0 y1 y2 y3
      unfold list_Good.l0
      repeat' first
      | (with_reducible exact ih0 _ _ _ _)
      | (with_reducible exact ih1 _ _)
      | (with_reducible exact LeO.refl _)
      | (with_reducible exact LeO.none _)
      | (with_reducible refine LeO.ite ?_ ?_)
      | (with_reducible refine LeO.bind ?_ (fun _ => ?_))
      | exact ih0 _ _ _ _
      | exact ih1 _ _
      | exact LeO.none _
      | refine LeO.ite ?_ ?_
      | refine LeO.bind ?_ (fun _ => ?_)
    · intro y0 y1
      unfold list_Good.l1
      repeat' first
      | (with_reducible exact ih0 _ _ _ _)
      | (with_reducible exact ih1 _ _)
      | (with_reducible exact LeO.refl _)
      | (with_reducible exact LeO.none _)
      | (with_reducible refine LeO.ite ?_ ?_)
      | (with_reducible refine LeO.bind ?_ (fun _ => ?_))
      | exact ih0 _ _ _ _
      | exact ih1 _ _
      | exact LeO.none _
      | refine LeO.ite ?_ ?_
      | refine LeO.bind ?_ (fun _ => ?_)
theorem list_Good.mono : ∀ a0 k, LeO (list_Good.f k a0) (list_Good.f (k + 1) a0) := by
  intro a0 k
  obtain ⟨ih0, ih1⟩ := list_Good.mono_l k
  unfold list_Good.f
  repeat' first
      | (with_reducible exact ih0 _ _ _ _)
      | (with_reducible exact ih1 _ _)
      | (with_reducible exact LeO.refl _)
      | (with_reducible exact LeO.none _)
      | (with_reducible refine LeO.ite ?_ ?_)
      | (with_reducible refine LeO.bind ?_ (fun _ => ?_))
      | exact ih0 _ _ _ _
      | exact ih1 _ _
      | exact LeO.none _
      | refine LeO.ite ?_ ?_
      | refine LeO.bind ?_ (fun _ => ?_)
set_option maxHeartbeats 8000000 in
set_option maxRecDepth 100000 in
theorem list_Good.calls (k : Nat) (A0 : Option Addr) (c0 : Nat) (l0 : List ByteArray) (r : Int) (w : World) (hr0 : Kd.C Kd.string w A0 l0.length l0) (hc0 : l0.length ≤ c0) (h : list_Good.f k l0 = some r) :
    Calls Try.prog 28 #[.slice A0 l0.length c0] w fun e w' => e = .returned (.int .i64 r) ∧ Below w.heap.size w w' := by
  have HR0 := Aside0.mk hr0
  have HC0 := Aside0.mk hc0
  clear hr0 hc0
  have HB := Aside0.mk (Below.refl w.heap.size w)
  have H : (if (l0.length : Int) > 60 then (some 3) else (list_Good.l0 k l0 l0 (l0.length : Int) 0)) = some r := h
  clear h
  by_cases c2 : (l0.length : Int) > 60
  · rw [if_pos c2] at H
    have c2b0 : decide (60 < (l0.length : Int)) = true := decide_eq_true c2
    have c2b1 : decide (60 < l0.length) = true := decide_eq_true (by omega)
    clear c2
    obtain rfl := Option.some.inj H
    go_enter Try.func28, Try.ntmps28
    go_wp2
    repeat (go_quiet (fail); try go_wp2)
    go_ret
    exact ⟨by first | rfl | (simp [errW_none, errW_some] <;> rfl) | (simp [*, errW_none, errW_some] <;> rfl), by repeat (first | (with_reducible first | exact HB.out | apply below_alloc | apply pw_below_drewN | apply below_drew1) | exact HB.out)⟩
  · rw [if_neg c2] at H
    have c2b0 : decide (60 < (l0.length : Int)) = false := decide_eq_false c2
    have c2b1 : decide (60 < l0.length) = false := decide_eq_false (by omega)
    clear c2
    have H' := Aside0.mk H
    clear H
    go_enter Try.func28, Try.ntmps28
    go_wp2
    repeat (go_quiet (fail); try go_wp2)
    go_loopg [11] k (fun kq v11 w' => ∃ (x11_1 : Int), v11 = .int .i64 x11_1 ∧ Aside0 (list_Good.l0 kq l0 l0 (l0.length : Int) x11_1 = some r) ∧ Aside0 (kq ≤ k) ∧ Aside0 (Below w.heap.size w w'))
    case atStart => exact ⟨(0), (by first | rfl | (simp; done) | (simp [*]; done)), H', ⟨Nat.le_refl _⟩, ⟨by repeat (first | (with_reducible first | exact HB.out | apply below_alloc | apply pw_below_drewN | apply below_drew1) | exact HB.out)⟩⟩
    case round =>
      clear H'
      try clear c2
      try clear c2b0
      try clear c2b1
      try clear p2
      obtain ⟨x11_1, rfl, HA, HK1, HB⟩ := hrel
      cases gk with
      | zero => exact absurd HA.out (by simp [list_Good.l0])
      | succ k1 =>
        have H := HA.out
        clear HA
        simp only [list_Good.l0] at H
        by_cases c3 : x11_1 < (l0.length : Int)
        · rw [if_pos c3] at H
          have c3b0 : decide (x11_1 < (l0.length : Int)) = true := decide_eq_true c3
          clear c3
          by_cases c4 : 0 ≤ x11_1
          · rw [if_pos c4] at H
            have c4b0 : decide (0 ≤ x11_1) = true := decide_eq_true c4
            clear c4
            by_cases c5 : x11_1 < (l0.length : Int)
            · rw [if_pos c5] at H
              have c5b0 : decide (x11_1 < (l0.length : Int)) = true := decide_eq_true c5
              clear c5
              replace H := Option.bind_eq_some_iff.mp H
              obtain ⟨t106, A60, H⟩ := H
              replace H : (if t106 = true then (list_Good.l0 k1 l0 l0 (l0.length : Int) (wrap64 (x11_1 + 1))) else (some 6)) = some r := H
              have A6 := Aside0.mk A60
              clear A60
              by_cases c7 : t106 = true
              · subst c7
                have H1 : (list_Good.l0 k1 l0 l0 (l0.length : Int) (wrap64 (x11_1 + 1))) = some r := by rw [if_pos rfl] at H; exact H
                clear H
                have H := H1
                clear H1
                have H' := Aside0.mk H
                clear H
                have p105 : 0 ≤ (x11_1 : Int) := of_decide_eq_true (by first | (with_reducible assumption) | assumption)
                have q105 : x11_1 < (l0.length : Int) := of_decide_eq_true (by first | (with_reducible assumption) | assumption)
                obtain ⟨ad105, e105, hx105_0⟩ := Kd.at_string HR0.out x11_1 p105 q105
                cases e105
                replace hx105_0 := (HB.out.cell (World.block_lt_of_cell? w _ hx105_0)).trans hx105_0
                replace p105 := eq_true p105
                replace q105 := eq_true q105
                go_wp2_with (first | (go_at_call 43; (with_reducible refine (text_Word.calls (rdOf ByteArray.empty l0 x11_1) true _ A6.out).mono ?_); rintro e w8 ⟨rfl, hb⟩; have n0_ := Aside0.mk (below_step (by repeat (first | (with_reducible first | exact HB.out | apply below_alloc | apply pw_below_drewN | apply below_drew1) | exact HB.out)) hb); clear HB; have HB := n0_; clear n0_; (try clear hb); (try clear hb2); (try clear hk); (try clear hi)))
                repeat (go_quiet (first | (go_at_call 43; (with_reducible refine (text_Word.calls (rdOf ByteArray.empty l0 x11_1) true _ A6.out).mono ?_); rintro e w8 ⟨rfl, hb⟩; have n0_ := Aside0.mk (below_step (by repeat (first | (with_reducible first | exact HB.out | apply below_alloc | apply pw_below_drewN | apply below_drew1) | exact HB.out)) hb); clear HB; have HB := n0_; clear n0_; (try clear hb); (try clear hb2); (try clear hk); (try clear hi))); try go_wp2_with (first | (go_at_call 43; (with_reducible refine (text_Word.calls (rdOf ByteArray.empty l0 x11_1) true _ A6.out).mono ?_); rintro e w8 ⟨rfl, hb⟩; have n0_ := Aside0.mk (below_step (by repeat (first | (with_reducible first | exact HB.out | apply below_alloc | apply pw_below_drewN | apply below_drew1) | exact HB.out)) hb); clear HB; have HB := n0_; clear n0_; (try clear hb); (try clear hb2); (try clear hk); (try clear hi))))
                go_roundg k1
                case measure => have := HK1.out; omega
                case rel => exact ⟨(wrap64 (x11_1 + 1)), (by first | rfl | (simp; done) | (simp [*]; done)), H', ⟨by have := HK1.out; omega⟩, ⟨by repeat (first | (with_reducible first | exact HB.out | apply below_alloc | apply pw_below_drewN | apply below_drew1) | exact HB.out)⟩⟩
              · replace c7 := Bool.eq_false_iff.mpr c7
                subst c7
                have H1 : (some 6) = some r := by rw [if_neg (show ¬ (false = true) by decide)] at H; exact H
                clear H
                have H := H1
                clear H1
                obtain rfl := Option.some.inj H
                have p105 : 0 ≤ (x11_1 : Int) := of_decide_eq_true (by first | (with_reducible assumption) | assumption)
                have q105 : x11_1 < (l0.length : Int) := of_decide_eq_true (by first | (with_reducible assumption) | assumption)
                obtain ⟨ad105, e105, hx105_0⟩ := Kd.at_string HR0.out x11_1 p105 q105
                cases e105
                replace hx105_0 := (HB.out.cell (World.block_lt_of_cell? w _ hx105_0)).trans hx105_0
                replace p105 := eq_true p105
                replace q105 := eq_true q105
                go_wp2_with (first | (go_at_call 43; (with_reducible refine (text_Word.calls (rdOf ByteArray.empty l0 x11_1) false _ A6.out).mono ?_); rintro e w9 ⟨rfl, hb⟩; have n0_ := Aside0.mk (below_step (by repeat (first | (with_reducible first | exact HB.out | apply below_alloc | apply pw_below_drewN | apply below_drew1) | exact HB.out)) hb); clear HB; have HB := n0_; clear n0_; (try clear hb); (try clear hb2); (try clear hk); (try clear hi)))
                repeat (go_quiet (first | (go_at_call 43; (with_reducible refine (text_Word.calls (rdOf ByteArray.empty l0 x11_1) false _ A6.out).mono ?_); rintro e w9 ⟨rfl, hb⟩; have n0_ := Aside0.mk (below_step (by repeat (first | (with_reducible first | exact HB.out | apply below_alloc | apply pw_below_drewN | apply below_drew1) | exact HB.out)) hb); clear HB; have HB := n0_; clear n0_; (try clear hb); (try clear hb2); (try clear hk); (try clear hi))); try go_wp2_with (first | (go_at_call 43; (with_reducible refine (text_Word.calls (rdOf ByteArray.empty l0 x11_1) false _ A6.out).mono ?_); rintro e w9 ⟨rfl, hb⟩; have n0_ := Aside0.mk (below_step (by repeat (first | (with_reducible first | exact HB.out | apply below_alloc | apply pw_below_drewN | apply below_drew1) | exact HB.out)) hb); clear HB; have HB := n0_; clear n0_; (try clear hb); (try clear hb2); (try clear hk); (try clear hi))))
                go_ret
                exact ⟨by first | rfl | (simp [errW_none, errW_some] <;> rfl) | (simp [*, errW_none, errW_some] <;> rfl), by repeat (first | (with_reducible first | exact HB.out | apply below_alloc | apply pw_below_drewN | apply below_drew1) | exact HB.out)⟩
            · rw [if_neg c5] at H
              exact absurd H (by simp)
          · rw [if_neg c4] at H
            exact absurd H (by simp)
        · rw [if_neg c3] at H
          have c3b0 : decide (x11_1 < (l0.length : Int)) = false := decide_eq_false c3
          clear c3
          have H' := Aside0.mk H
          clear H
          go_wp2
          repeat (go_quiet (fail); try go_wp2)
          go_loopg [5] k1 (fun kq v5 w' => ∃ (x5_2 : Int), v5 = .int .i64 x5_2 ∧ Aside0 (list_Good.l1 kq l0 x5_2 = some r) ∧ Aside0 (kq ≤ k1) ∧ Aside0 (Below w.heap.size w w'))
          case atStart => exact ⟨(1), (by first | rfl | (simp; done) | (simp [*]; done)), H', ⟨Nat.le_refl _⟩, ⟨by repeat (first | (with_reducible first | exact HB.out | apply below_alloc | apply pw_below_drewN | apply below_drew1) | exact HB.out)⟩⟩
          case round =>
            clear H'
            try clear p1
            try clear q1
            try clear hx1
            try clear c2
            try clear c2b0
            try clear c2b1
            try clear p2
            try clear c3
            try clear c3b0
            try clear c4
            try clear c4b0
            try clear c5
            try clear c5b0
            try clear p6
            try clear c7
            try clear hx105_0
            try clear p105
            try clear p2
            try clear q105
            obtain ⟨x5_2, rfl, HA, HK2, HB⟩ := hrel
            cases gk with
            | zero => exact absurd HA.out (by simp [list_Good.l1])
            | succ k2 =>
              have H := HA.out
              clear HA
              simp only [list_Good.l1] at H
              by_cases c10 : x5_2 < (l0.length : Int)
              · rw [if_pos c10] at H
                have c10b0 : decide (x5_2 < (l0.length : Int)) = true := decide_eq_true c10
                clear c10
                obtain ⟨ji11, hji11⟩ : ∃ j_ : Int, (wrap64 (x5_2 - 1)) = j_ := ⟨_, rfl⟩
                replace H : (if 0 ≤ (ji11) then (if (ji11) < (l0.length : Int) then (if 0 ≤ x5_2 then ((text_Compare.f (rdOf ByteArray.empty l0 (ji11)) (rdOf ByteArray.empty l0 x5_2)).bind fun t109 => (if t109 ≥ 0 then (some 7) else (list_Good.l1 k2 l0 (wrap64 (x5_2 + 1))))) else (none)) else (none)) else (none)) = some r := by first | (rw [hji11] at H; exact H) | (simp only [hji11] at H ⊢; exact H)
                have hji11w : (IntKind.i64.wrap (x5_2 - 1)) = ji11 := (i64_w _).trans hji11
                by_cases c12 : 0 ≤ (ji11)
                · rw [if_pos c12] at H
                  have c12b0 : decide (0 ≤ (ji11)) = true := decide_eq_true c12
                  clear c12
                  by_cases c13 : (ji11) < (l0.length : Int)
                  · rw [if_pos c13] at H
                    have c13b0 : decide ((ji11) < (l0.length : Int)) = true := decide_eq_true c13
                    clear c13
                    by_cases c14 : 0 ≤ x5_2
                    · rw [if_pos c14] at H
                      have c14b0 : decide (0 ≤ x5_2) = true := decide_eq_true c14
                      clear c14
                      replace H := Option.bind_eq_some_iff.mp H
                      obtain ⟨t109, A150, H⟩ := H
                      replace H : (if t109 ≥ 0 then (some 7) else (list_Good.l1 k2 l0 (wrap64 (x5_2 + 1)))) = some r := H
                      have A15 := Aside0.mk A150
                      clear A150
                      by_cases c16 : t109 ≥ 0
                      · rw [if_pos c16] at H
                        have c16b0 : decide (0 ≤ t109) = true := decide_eq_true c16
                        clear c16
                        obtain rfl := Option.some.inj H
                        have p107 : 0 ≤ ((ji11) : Int) := of_decide_eq_true (by first | (with_reducible assumption) | assumption)
                        have q107 : (ji11) < (l0.length : Int) := of_decide_eq_true (by first | (with_reducible assumption) | assumption)
                        obtain ⟨ad107, e107, hx107_0⟩ := Kd.at_string HR0.out (ji11) p107 q107
                        cases e107
                        replace hx107_0 := (HB.out.cell (World.block_lt_of_cell? w _ hx107_0)).trans hx107_0
                        replace p107 := eq_true p107
                        replace q107 := eq_true q107
                        have p108 : 0 ≤ (x5_2 : Int) := of_decide_eq_true (by first | (with_reducible assumption) | assumption)
                        have q108 : x5_2 < (l0.length : Int) := of_decide_eq_true (by first | (with_reducible assumption) | assumption)
                        obtain ⟨ad108, e108, hx108_0⟩ := Kd.at_string HR0.out x5_2 p108 q108
                        obtain rfl : ad107 = ad108 := (by injection e108)
                        replace hx108_0 := (HB.out.cell (World.block_lt_of_cell? w _ hx108_0)).trans hx108_0
                        replace p108 := eq_true p108
                        replace q108 := eq_true q108
                        go_wp2_with (first | (go_at_call 44; (with_reducible refine (text_Compare.calls (rdOf ByteArray.empty l0 (ji11)) (rdOf ByteArray.empty l0 x5_2) t109 _ A15.out).mono ?_); rintro e w' ⟨rfl, ⟨nd, rfl⟩⟩; (try first | exact ⟨rfl, _, World.drewN_drewN _ _ _⟩ | exact ⟨rfl, _, Eq.trans (World.drewN_drewN _ _ _) (congrArg (World.drewN _) (Nat.add_assoc _ _ _))⟩)))
                        repeat (go_quiet (first | (go_at_call 44; (with_reducible refine (text_Compare.calls (rdOf ByteArray.empty l0 (ji11)) (rdOf ByteArray.empty l0 x5_2) t109 _ A15.out).mono ?_); rintro e w' ⟨rfl, ⟨nd, rfl⟩⟩; (try first | exact ⟨rfl, _, World.drewN_drewN _ _ _⟩ | exact ⟨rfl, _, Eq.trans (World.drewN_drewN _ _ _) (congrArg (World.drewN _) (Nat.add_assoc _ _ _))⟩))); try go_wp2_with (first | (go_at_call 44; (with_reducible refine (text_Compare.calls (rdOf ByteArray.empty l0 (ji11)) (rdOf ByteArray.empty l0 x5_2) t109 _ A15.out).mono ?_); rintro e w' ⟨rfl, ⟨nd, rfl⟩⟩; (try first | exact ⟨rfl, _, World.drewN_drewN _ _ _⟩ | exact ⟨rfl, _, Eq.trans (World.drewN_drewN _ _ _) (congrArg (World.drewN _) (Nat.add_assoc _ _ _))⟩))))
                        go_ret
                        exact ⟨by first | rfl | (simp [errW_none, errW_some] <;> rfl) | (simp only [← hji11]; first | rfl | (simp [errW_none, errW_some] <;> rfl)) | (simp [*, errW_none, errW_some] <;> rfl), by repeat (first | (with_reducible first | exact HB.out | apply below_alloc | apply pw_below_drewN | apply below_drew1) | exact HB.out)⟩
                      · rw [if_neg c16] at H
                        have c16b0 : decide (0 ≤ t109) = false := decide_eq_false c16
                        clear c16
                        have H' := Aside0.mk H
                        clear H
                        have p107 : 0 ≤ ((ji11) : Int) := of_decide_eq_true (by first | (with_reducible assumption) | assumption)
                        have q107 : (ji11) < (l0.length : Int) := of_decide_eq_true (by first | (with_reducible assumption) | assumption)
                        obtain ⟨ad107, e107, hx107_0⟩ := Kd.at_string HR0.out (ji11) p107 q107
                        cases e107
                        replace hx107_0 := (HB.out.cell (World.block_lt_of_cell? w _ hx107_0)).trans hx107_0
                        replace p107 := eq_true p107
                        replace q107 := eq_true q107
                        have p108 : 0 ≤ (x5_2 : Int) := of_decide_eq_true (by first | (with_reducible assumption) | assumption)
                        have q108 : x5_2 < (l0.length : Int) := of_decide_eq_true (by first | (with_reducible assumption) | assumption)
                        obtain ⟨ad108, e108, hx108_0⟩ := Kd.at_string HR0.out x5_2 p108 q108
                        obtain rfl : ad107 = ad108 := (by injection e108)
                        replace hx108_0 := (HB.out.cell (World.block_lt_of_cell? w _ hx108_0)).trans hx108_0
                        replace p108 := eq_true p108
                        replace q108 := eq_true q108
                        go_wp2_with (first | (go_at_call 44; (with_reducible refine (text_Compare.calls (rdOf ByteArray.empty l0 (ji11)) (rdOf ByteArray.empty l0 x5_2) t109 _ A15.out).mono ?_); rintro e w' ⟨rfl, ⟨nd, rfl⟩⟩; (try first | exact ⟨rfl, _, World.drewN_drewN _ _ _⟩ | exact ⟨rfl, _, Eq.trans (World.drewN_drewN _ _ _) (congrArg (World.drewN _) (Nat.add_assoc _ _ _))⟩)))
                        repeat (go_quiet (first | (go_at_call 44; (with_reducible refine (text_Compare.calls (rdOf ByteArray.empty l0 (ji11)) (rdOf ByteArray.empty l0 x5_2) t109 _ A15.out).mono ?_); rintro e w' ⟨rfl, ⟨nd, rfl⟩⟩; (try first | exact ⟨rfl, _, World.drewN_drewN _ _ _⟩ | exact ⟨rfl, _, Eq.trans (World.drewN_drewN _ _ _) (congrArg (World.drewN _) (Nat.add_assoc _ _ _))⟩))); try go_wp2_with (first | (go_at_call 44; (with_reducible refine (text_Compare.calls (rdOf ByteArray.empty l0 (ji11)) (rdOf ByteArray.empty l0 x5_2) t109 _ A15.out).mono ?_); rintro e w' ⟨rfl, ⟨nd, rfl⟩⟩; (try first | exact ⟨rfl, _, World.drewN_drewN _ _ _⟩ | exact ⟨rfl, _, Eq.trans (World.drewN_drewN _ _ _) (congrArg (World.drewN _) (Nat.add_assoc _ _ _))⟩))))
                        go_roundg k2
                        case measure => have := HK1.out; have := HK2.out; omega
                        case rel => exact ⟨(wrap64 (x5_2 + 1)), (by first | rfl | (simp; done) | (simp [*]; done)), H', ⟨by have := HK1.out; have := HK2.out; omega⟩, ⟨by repeat (first | (with_reducible first | exact HB.out | apply below_alloc | apply pw_below_drewN | apply below_drew1) | exact HB.out)⟩⟩
                    · rw [if_neg c14] at H
                      exact absurd H (by simp)
                  · rw [if_neg c13] at H
                    exact absurd H (by simp)
                · rw [if_neg c12] at H
                  exact absurd H (by simp)
              · rw [if_neg c10] at H
                have c10b0 : decide (x5_2 < (l0.length : Int)) = false := decide_eq_false c10
                clear c10
                obtain rfl := Option.some.inj H
                go_wp2
                repeat (go_quiet (fail); try go_wp2)
                go_ret
                exact ⟨by first | rfl | (simp [errW_none, errW_some] <;> rfl) | (simp [*, errW_none, errW_some] <;> rfl), by repeat (first | (with_reducible first | exact HB.out | apply below_alloc | apply pw_below_drewN | apply below_drew1) | exact HB.out)⟩

-- NOT PRINTED: function 112 (abi_NoEscape)

-- NOT PRINTED: function 98 (strings_Builder_copyCheck)

-- NOT PRINTED: function 113 (bytealg_MakeNoZero)

-- NOT PRINTED: function 99 (strings_Builder_grow)

-- NOT PRINTED: function 72 (strings_Builder_Grow)

-- NOT PRINTED: function 73 (strings_Builder_WriteString)

-- NOT PRINTED: function 74 (strings_Builder_String)

-- NOT PRINTED: function 50 (strings_Join)

-- function 51 (graph_first): by hand
/-! ### stringslite_HasPrefix: function 75 -/
/-! ### strings_HasPrefix: function 52 -/
-- NOT PRINTED: function 34 (graph_builder_node)

-- NOT PRINTED: function 14 (graph_Build)

/-! ### text_Asked: function 25 -/
def text_Asked.f (a0 : ByteArray) : Option (Bool) := (text_Len.f a0).bind fun t112 => (if t112 ≥ 0 then (some (decide (t112 ≤ 16))) else (some false))
set_option maxHeartbeats 8000000 in
set_option maxRecDepth 100000 in
theorem text_Asked.calls (a0 : ByteArray) (r : Bool) (w : World) (h : text_Asked.f a0 = some r) :
    Calls Try.prog 25 #[.string a0] w fun e w' => e = .returned (.bool r) ∧ Below w.heap.size w w' := by
  have HB := Aside0.mk (Below.refl w.heap.size w)
  have H : ((text_Len.f a0).bind fun t112 => (if t112 ≥ 0 then (some (decide (t112 ≤ 16))) else (some false))) = some r := h
  clear h
  replace H := Option.bind_eq_some_iff.mp H
  obtain ⟨t112, A20, H⟩ := H
  replace H : (if t112 ≥ 0 then (some (decide (t112 ≤ 16))) else (some false)) = some r := H
  have A2 := Aside0.mk A20
  clear A20
  by_cases c3 : t112 ≥ 0
  · rw [if_pos c3] at H
    have c3b0 : decide (0 ≤ t112) = true := decide_eq_true c3
    clear c3
    obtain rfl := Option.some.inj H
    go_enter Try.func25, Try.ntmps25
    go_wp2_with (first | ((with_reducible refine gate_callee (f := 26) rfl ?_); refine goesL_ (some 5) rfl rfl Try.func26 (by kernel_rfl) rfl #[.string a0] rfl (by (try simp only [List.map_toArray, List.map_cons, List.map_nil]); first | done | rfl | (simp only [List.length_drop, List.length_take]; rfl)) ?_; (with_reducible refine (text_Len.calls a0 t112 _ A2.out).mono ?_); rintro e w4 ⟨rfl, hb⟩; refine ⟨_, rfl, ?_⟩; have n0_ := Aside0.mk (below_step (by repeat (first | (with_reducible first | exact HB.out | apply below_alloc | apply pw_below_drewN | apply below_drew1) | exact HB.out)) hb); clear HB; have HB := n0_; clear n0_; (try clear hb); (try clear hb2); (try clear hk); (try clear hi)))
    go_ret
    exact ⟨by first | rfl | (simp [errW_none, errW_some] <;> rfl) | (simp [*, errW_none, errW_some] <;> rfl), by repeat (first | (with_reducible first | exact HB.out | apply below_alloc | apply pw_below_drewN | apply below_drew1) | exact HB.out)⟩
  · rw [if_neg c3] at H
    have c3b0 : decide (0 ≤ t112) = false := decide_eq_false c3
    clear c3
    obtain rfl := Option.some.inj H
    go_enter Try.func25, Try.ntmps25
    go_wp2_with (first | ((with_reducible refine gate_callee (f := 26) rfl ?_); refine goesL_ (some 5) rfl rfl Try.func26 (by kernel_rfl) rfl #[.string a0] rfl (by (try simp only [List.map_toArray, List.map_cons, List.map_nil]); first | done | rfl | (simp only [List.length_drop, List.length_take]; rfl)) ?_; (with_reducible refine (text_Len.calls a0 t112 _ A2.out).mono ?_); rintro e w5 ⟨rfl, hb⟩; refine ⟨_, rfl, ?_⟩; have n0_ := Aside0.mk (below_step (by repeat (first | (with_reducible first | exact HB.out | apply below_alloc | apply pw_below_drewN | apply below_drew1) | exact HB.out)) hb); clear HB; have HB := n0_; clear n0_; (try clear hb); (try clear hb2); (try clear hk); (try clear hi)))
    go_ret
    exact ⟨by first | rfl | (simp [errW_none, errW_some] <;> rfl) | (simp [*, errW_none, errW_some] <;> rfl), by repeat (first | (with_reducible first | exact HB.out | apply below_alloc | apply pw_below_drewN | apply below_drew1) | exact HB.out)⟩

-- function 53 (text_Runes): by hand
-- NOT PRINTED: function 35 (walk_asked)

/-! ### auto_may: function 76 -/
def auto_may.f (a0 : Int) : Option (Bool) := if a0 ≥ 0 then (some (decide (a0 ≤ 4))) else (some false)
set_option maxHeartbeats 8000000 in
set_option maxRecDepth 100000 in
theorem auto_may.calls (a0 : Int) (r : Bool) (w : World) (h : auto_may.f a0 = some r) :
    Calls Try.prog 76 #[.int .i64 a0] w fun e w' => e = .returned (.bool r) ∧ Drawn0 w w' := by
  have H : (if a0 ≥ 0 then (some (decide (a0 ≤ 4))) else (some false)) = some r := h
  clear h
  by_cases c2 : a0 ≥ 0
  · rw [if_pos c2] at H
    have c2b0 : decide (0 ≤ a0) = true := decide_eq_true c2
    clear c2
    obtain rfl := Option.some.inj H
    go_enter Try.func76, Try.ntmps76
    go_wp2
    go_ret
    exact ⟨by first | rfl | (simp; done) | (simp [*]; done), by repeat (first | exact Drawn0.refl _ | apply Drawn0.step)⟩
  · rw [if_neg c2] at H
    have c2b0 : decide (0 ≤ a0) = false := decide_eq_false c2
    clear c2
    obtain rfl := Option.some.inj H
    go_enter Try.func76, Try.ntmps76
    go_wp2
    go_ret
    exact ⟨by first | rfl | (simp; done) | (simp [*]; done), by repeat (first | exact Drawn0.refl _ | apply Drawn0.step)⟩

/-! ### auto_Start: function 54 -/
def auto_Start.f (l0 : List Int) (a1 : Int) : Option ((List (S121))) := (auto_may.f a1).bind fun t113 => (if t113 = true then (some (([(⟨0, 0⟩ : S121)] : List (S121)))) else (some ([] : List (S121))))
set_option maxHeartbeats 8000000 in
set_option maxRecDepth 100000 in
theorem auto_Start.calls (A0 : Option Addr) (c0 : Nat) (l0 : List Int) (a1 : Int) (r : List (S121)) (w : World) (hr0 : Kd.C (Kd.int .i32) w A0 l0.length l0) (hc0 : l0.length ≤ c0) (h : auto_Start.f l0 a1 = some r) :
    Calls Try.prog 54 #[.slice A0 l0.length c0, .int .i64 a1] w fun e w' => ∃ v0_ : Value, e = .returned (v0_) ∧ Kd.R k121 121 w' w.heap.size (fun _ => True) v0_ r ∧ Below w.heap.size w w' := by
  have hu121 := Try.underlying121
  have HR0 := Aside0.mk hr0
  have HC0 := Aside0.mk hc0
  clear hr0 hc0
  have HB := Aside0.mk (Below.refl w.heap.size w)
  have H : ((auto_may.f a1).bind fun t113 => (if t113 = true then (some (([(⟨0, 0⟩ : S121)] : List (S121)))) else (some ([] : List (S121))))) = some r := h
  clear h
  replace H := Option.bind_eq_some_iff.mp H
  obtain ⟨t113, A30, H⟩ := H
  replace H : (if t113 = true then (some (([(⟨0, 0⟩ : S121)] : List (S121)))) else (some ([] : List (S121)))) = some r := H
  have A3 := Aside0.mk A30
  clear A30
  by_cases c4 : t113 = true
  · subst c4
    have H1 : (some (([(⟨0, 0⟩ : S121)] : List (S121)))) = some r := by rw [if_pos rfl] at H; exact H
    clear H
    have H := H1
    clear H1
    obtain ⟨y114, hy114⟩ : ∃ y_ : List (S121), y_ = (([(⟨0, 0⟩ : S121)] : List (S121))) := ⟨_, rfl⟩
    replace H : (some y114) = some r := by first | (rw [hy114]; with_reducible exact H) | (have H2_ := (Option.bind_some _ _).symm.trans H; rw [hy114]; with_reducible exact H2_) | (have H2_ := (Option.bind_some _ _).symm.trans H; with_reducible exact H2_) | with_reducible exact H | (rw [hy114]; exact H) | exact H
    have Ny114 := Aside0.mk hy114
    clear hy114
    obtain rfl := Option.some.inj H
    go_enter Try.func54, Try.ntmps54
    go_wp2_with (first | ((with_reducible refine gate_callee (f := 76) rfl ?_); refine goesL_ (some 6) rfl rfl Try.func76 (by kernel_rfl) rfl #[.int .i64 a1] rfl (by (try simp only [List.map_toArray, List.map_cons, List.map_nil]); first | done | rfl | (simp only [List.length_drop, List.length_take]; rfl)) ?_; (with_reducible refine (auto_may.calls a1 true _ A3.out).mono ?_); rintro e w' ⟨rfl, ⟨nd, rfl⟩⟩; refine ⟨_, rfl, ?_⟩) | ((with_reducible refine gate_dst (N := 9) rfl ?_); refine Kd.R_lit k121 _ 121 ?hg (N := 9) ?hd (xs := ([(⟨0, 0⟩ : S121)] : List (S121))) (inner := [.int .i64 0, .int .i64 0]) (ok := fun _ => True) (okp := fun _ => True) ?hr ?hp (fun _ hk => hk) trivial (Below.refl _ _) (Nat.le_refl _) (by simp) ?_; (case hd => rfl); (case hg => rfl); (case hr => first | (go_simp; done) | (go_simp; rfl)); (case hp => exact (Reps.c2 (show Kd.M k121 _ _ _ (⟨0, 0⟩ : S121) [.int .i64 0, .int .i64 0] from (k121_mkM _ _ _ (⟨0, 0⟩ : S121) )) (Reps.none _ _))); intro v115 w5 ho6 hb hg_ hnew_; clear hg_ hnew_; (first | rw [← Ny114.out] at ho6 | (simp only [Int.reduceToNat] at ho6; rw [← Ny114.out] at ho6)); have n0_ := Aside0.mk (Kd.R_lower ho6 (below_size (by repeat (first | (with_reducible first | exact HB.out | apply below_alloc | apply pw_below_drewN | apply below_drew1) | exact HB.out)))); have n1_ := Aside0.mk (below_step (by repeat (first | (with_reducible first | exact HB.out | apply below_alloc | apply pw_below_drewN | apply below_drew1) | exact HB.out)) hb); clear HB; have HO116 := n0_; have HB := n1_; clear n0_ n1_; clear hb ho6))
    go_ret
    exact ⟨_, by first | rfl | (simp [errW_none, errW_some] <;> rfl) | (simp [*, errW_none, errW_some] <;> rfl), by (with_reducible repeat (first | apply Kd.R_alloc | apply Kd.R_drewN | apply Kd.R_drew)); exact HO116.out, by repeat (first | (with_reducible first | exact HB.out | apply below_alloc | apply pw_below_drewN | apply below_drew1) | exact HB.out)⟩
  · replace c4 := Bool.eq_false_iff.mpr c4
    subst c4
    have H1 : (some ([] : List (S121))) = some r := by rw [if_neg (show ¬ (false = true) by decide)] at H; exact H
    clear H
    have H := H1
    clear H1
    obtain rfl := Option.some.inj H
    go_enter Try.func54, Try.ntmps54
    go_wp2_with (first | ((with_reducible refine gate_callee (f := 76) rfl ?_); refine goesL_ (some 6) rfl rfl Try.func76 (by kernel_rfl) rfl #[.int .i64 a1] rfl (by (try simp only [List.map_toArray, List.map_cons, List.map_nil]); first | done | rfl | (simp only [List.length_drop, List.length_take]; rfl)) ?_; (with_reducible refine (auto_may.calls a1 false _ A3.out).mono ?_); rintro e w' ⟨rfl, ⟨nd, rfl⟩⟩; refine ⟨_, rfl, ?_⟩))
    go_ret
    exact ⟨_, by first | rfl | (simp [errW_none, errW_some] <;> rfl) | (simp [*, errW_none, errW_some] <;> rfl), by first | exact Kd.R_nil _ _ _ _ _ | exact Kd.N_nil _ _ _ _ _ | exact Kd.V_nil _ _ _ _ _ | exact Kd.Q_nil _ _ _ _ _ | exact Kd.S_nil _ _ _ _ _, by repeat (first | (with_reducible first | exact HB.out | apply below_alloc | apply pw_below_drewN | apply below_drew1) | exact HB.out)⟩

end Go.Proofs.Ytklidannncajiaa.OW

-- Laid by a program of this session (wip/ownprint.py, wip/hooks.py) over the seat's translation. Lean checks it.
namespace Go.Proofs.Ytklidannncajiaa.OW
open Go.RowKit Go.Proofs.YtklidannncajiaaW.PrintWords Go.Proofs.YtklidannncajiaaW.PrintLast Go.Proofs.YtklidannncajiaaW.PrintMore
attribute [local go_sem] max2_int min2_int max_two min_two max_three min_three max_four min_four   -- for this text's walks alone
set_option linter.unusedVariables false
set_option linter.unusedSimpArgs false

/-! ### auto_spread: function 77 -/
mutual
def auto_spread.l0 : Nat → List Int → Int → List (S121) → List Int → Int → Int → Option (List Int)
  | 0, _, _, _, _, _, _ => none
  | k + 1, x0, x1, x2, x7, x17, x18 => if x18 < x17 then (if 0 ≤ x18 then (if x18 < (x7.length : Int) then (auto_spread.l0 k x0 x1 x2 (x7.set (x18 : Int).toNat (wrap64 (x1 + 1))) x17 (wrap64 (x18 + 1))) else (none)) else (none)) else (auto_spread.l1 k x0 x1 x7 x2 (x2.length : Int) 0)
def auto_spread.l1 : Nat → List Int → Int → List Int → List (S121) → Int → Int → Option (List Int)
  | 0, _, _, _, _, _, _ => none
  | k + 1, x0, x1, x7, x27, x28, x29 => if x29 < x28 then (if 0 ≤ x29 then (if x29 < (x27.length : Int) then (if ((rd_T121 x27 x29).f0) < 0 then (auto_spread.j2 k x0 x1 x7 x27 x28 x29 true ((rd_T121 x27 x29).f0) ((rd_T121 x27 x29).f1)) else (if ((rd_T121 x27 x29).f0) > (x0.length : Int) then (auto_spread.j2 k x0 x1 x7 x27 x28 x29 true ((rd_T121 x27 x29).f0) ((rd_T121 x27 x29).f1)) else (if ((rd_T121 x27 x29).f1) < 0 then (auto_spread.j2 k x0 x1 x7 x27 x28 x29 true ((rd_T121 x27 x29).f0) ((rd_T121 x27 x29).f1)) else (auto_spread.j2 k x0 x1 x7 x27 x28 x29 (decide (((rd_T121 x27 x29).f1) > x1)) ((rd_T121 x27 x29).f0) ((rd_T121 x27 x29).f1))))) else (none)) else (none)) else (some x7)
def auto_spread.j2 : Nat → List Int → Int → List Int → List (S121) → Int → Int → Bool → Int → Int → Option (List Int)
  | 0, _, _, _, _, _, _, _, _, _ => none
  | k + 1, x0, x1, x7, x27, x28, x29, x53, x123000, x123001 => if x53 = true then (auto_spread.l1 k x0 x1 x7 x27 x28 (wrap64 (x29 + 1))) else (auto_spread.l2 k x0 x1 x7 (mx (wrap64 (x123000 - x1)) 0) x27 x28 x29 x123000 x123001)
def auto_spread.l2 : Nat → List Int → Int → List Int → Int → List (S121) → Int → Int → Int → Int → Option (List Int)
  | 0, _, _, _, _, _, _, _, _, _ => none
  | k + 1, x0, x1, x7, x11, x27, x28, x29, x123000, x123001 => if x11 ≤ (mn (wrap64 (x123000 + x1)) (x0.length : Int)) then (if 0 ≤ x11 then (if x11 < (x7.length : Int) then (auto_spread.l2 k x0 x1 (x7.set (x11 : Int).toNat (mn (rd x7 x11) (wrap64 (x123001 + (mx (wrap64 (x11 - x123000)) (wrap64 (x123000 - x11))))))) (wrap64 (x11 + 1)) x27 x28 x29 x123000 x123001) else (none)) else (none)) else (auto_spread.l1 k x0 x1 x7 x27 x28 (wrap64 (x29 + 1)))
end
def auto_spread.f (k : Nat) (l0 : List Int) (a1 : Int) (l2 : List (S121)) : Option (List Int) := if 0 ≤ (wrap64 ((l0.length : Int) + 1)) then (if (wrap64 ((l0.length : Int) + 1) : Int).toNat ≤ 35184372088832 then ((some (List.replicate (wrap64 ((l0.length : Int) + 1) : Int).toNat 0 : List Int)).bind fun y117 => (auto_spread.l0 k l0 a1 l2 y117 (y117.length : Int) 0)) else (none)) else (none)
def auto_spread.T14 : Bool × List (List Nat × List Nat) := (true, [([], []), ([], []), ([], []), ([], []), ([2, 3], [2, 3]), ([4], [4]), ([], []), ([6], [6]), ([], []), ([], []), ([9], [9]), ([8, 10], [8, 10]), ([], []), ([12], [12]), ([], []), ([13, 14], [13, 14]), ([11, 15], [11, 15]), ([7, 16], [7, 16]), ([5, 17], [5, 17]), ([0, 1, 0, 1, 2, 3, 4, 5, 6, 7, 8, 9, 10, 11, 12, 13, 14, 15, 16, 17, 18], [0, 1]), ([19, 18, 0, 1, 2, 3, 4, 5, 6, 7, 8, 9, 10, 11, 12, 13, 14, 15, 16, 17, 18], [18, 19])])
def auto_spread.B14 : List Nat := [0, 0, 0, 0, 12, 28, 0, 64, 0, 0, 512, 1792, 0, 4096, 0, 28672, 65280, 131008, 262140, 524287, 1048575]
theorem auto_spread.tab14 : rtab .any (opsOf Try.f77 14) = auto_spread.T14 := by kernel_rfl
theorem auto_spread.bits14 : waitsOk auto_spread.T14.2 auto_spread.B14 = true := by kernel_rfl
set_option maxHeartbeats 8000000 in
set_option maxRecDepth 100000 in
theorem auto_spread.calls (k : Nat) (A0 : Option Addr) (c0 : Nat) (l0 : List Int) (a1 : Int) (A2 : Option Addr) (c2 : Nat) (l2 : List (S121)) (r : List Int) (w : World) (hr0 : Kd.C (Kd.int .i32) w A0 l0.length l0) (hc0 : l0.length ≤ c0) (hr2 : Kd.C k121 w A2 l2.length l2) (hc2 : l2.length ≤ c2) (h : auto_spread.f k l0 a1 l2 = some r) :
    Calls Try.prog 77 #[.slice A0 l0.length c0, .int .i64 a1, .slice A2 l2.length c2] w fun e w' => ∃ v0_ : Value, e = .returned (v0_) ∧ Kd.R (Kd.int .i64) 3 w' w.heap.size (fun _ => True) v0_ r ∧ Below w.heap.size w w' := by
  have hu121 := Try.underlying121
  have HR0 := Aside0.mk hr0
  have HC0 := Aside0.mk hc0
  clear hr0 hc0
  have HR2 := Aside0.mk hr2
  have HC2 := Aside0.mk hc2
  clear hr2 hc2
  have HB := Aside0.mk (Below.refl w.heap.size w)
  have H : (if 0 ≤ (wrap64 ((l0.length : Int) + 1)) then (if (wrap64 ((l0.length : Int) + 1) : Int).toNat ≤ 35184372088832 then ((some (List.replicate (wrap64 ((l0.length : Int) + 1) : Int).toNat 0 : List Int)).bind fun y117 => (auto_spread.l0 k l0 a1 l2 y117 (y117.length : Int) 0)) else (none)) else (none)) = some r := h
  clear h
  obtain ⟨ji4, hji4⟩ : ∃ j_ : Int, (wrap64 ((l0.length : Int) + 1)) = j_ := ⟨_, rfl⟩
  replace H : (if 0 ≤ (ji4) then (if (ji4 : Int).toNat ≤ 35184372088832 then ((some (List.replicate (ji4 : Int).toNat 0 : List Int)).bind fun y117 => (auto_spread.l0 k l0 a1 l2 y117 (y117.length : Int) 0)) else (none)) else (none)) = some r := by first | (rw [hji4] at H; exact H) | (simp only [hji4] at H ⊢; exact H)
  have hji4w : (IntKind.i64.wrap ((l0.length : Int) + 1)) = ji4 := (i64_w _).trans hji4
  by_cases c5 : 0 ≤ (ji4)
  · rw [if_pos c5] at H
    have c5b0 := eq_true c5
    have c5b1 : decide (0 ≤ (ji4)) = true := decide_eq_true c5
    clear c5
    by_cases c6 : (ji4 : Int).toNat ≤ 35184372088832
    · rw [if_pos c6] at H
      have c6b0 := eq_true c6
      have c6b1 : decide ((ji4 : Int).toNat ≤ 35184372088832) = true := decide_eq_true c6
      clear c6
      obtain ⟨y117, hy117⟩ : ∃ y_ : List Int, y_ = (List.replicate (ji4 : Int).toNat 0) := ⟨_, rfl⟩
      replace H : (auto_spread.l0 k l0 a1 l2 y117 (y117.length : Int) 0) = some r := by first | (rw [hy117]; with_reducible exact H) | (have H2_ := (Option.bind_some _ _).symm.trans H; rw [hy117]; with_reducible exact H2_) | (have H2_ := (Option.bind_some _ _).symm.trans H; with_reducible exact H2_) | with_reducible exact H | (rw [hy117]; exact H) | exact H
      have Ny117 := Aside0.mk hy117
      clear hy117
      have H' := Aside0.mk H
      clear H
      go_enter Try.func77, Try.ntmps77
      go_wp2_with (first | ((with_reducible refine gate_dst (N := 15) rfl ?_); (try (refine gate_guard (by rfl) ?_; dsimp only)); refine Kd.R_make (Kd.int .i64) _ 3 rfl (N := 15) rfl 55 _ _ rfl ji4 rfl rfl Try.underlying55 (.int .i64 0) 8 info3 rfl (by decide) (by omega) 0 (ok := fun _ => True) (okp := fun _ => True) rfl (fun _ hk => hk) trivial (of_decide_eq_true (by first | (with_reducible assumption) | assumption)) (Nat.le_trans (Nat.mul_le_mul_right _ (of_decide_eq_true (by first | (with_reducible assumption) | assumption) : ji4.toNat ≤ 35184372088832)) (by omega)) (Below.refl _ _) (Nat.le_refl _) ?_; intro v118 w7 ho8 hb hg_ hnew_; clear hg_ hnew_; (first | rw [← Ny117.out] at ho8 | (simp only [Int.reduceToNat] at ho8; rw [← Ny117.out] at ho8)); have n0_ := Aside0.mk (Kd.R_lower ho8 (below_size (by repeat (first | (with_reducible first | exact HB.out | apply below_alloc | apply pw_below_drewN | apply below_drew1) | exact HB.out)))); have n1_ := Aside0.mk (below_step (by repeat (first | (with_reducible first | exact HB.out | apply below_alloc | apply pw_below_drewN | apply below_drew1) | exact HB.out)) hb); clear HB; have HO119 := n0_; have HB := n1_; clear n0_ n1_; clear hb ho8; obtain ⟨Ao9, co9, eo9⟩ := Kd.R_slice HO119.out; subst eo9))
      go_loopg [18] k (fun kq v18 w' => ∃ (x7_1 : List Int) (x18_1 : Int), v18 = .int .i64 x18_1 ∧ Aside0 (auto_spread.l0 kq l0 a1 l2 x7_1 (y117.length : Int) x18_1 = some r) ∧ Aside0 (kq ≤ k) ∧ Aside0 (Kd.R (Kd.int .i64) 3 w' w.heap.size (fun _ => True) (.slice Ao9 y117.length co9) x7_1) ∧ Aside0 (Below w.heap.size w w'))
      case atStart => exact ⟨(y117), (0), (by first | rfl | (simp; done) | (simp [*]; done)), H', ⟨Nat.le_refl _⟩, ⟨by (with_reducible repeat (first | apply Kd.R_alloc | apply Kd.R_drewN | apply Kd.R_drew)); exact HO119.out⟩, ⟨by repeat (first | (with_reducible first | exact HB.out | apply below_alloc | apply pw_below_drewN | apply below_drew1) | exact HB.out)⟩⟩
      case round =>
        clear H'
        try clear c2
        try clear p2
        try clear c5
        try clear c5b0
        try clear c5b1
        try clear c6
        try clear c6b0
        try clear c6b1
        try clear p6
        try clear c7
        obtain ⟨x7_1, x18_1, rfl, HA, HK1, HO_7, HB⟩ := hrel
        have hl7_1 := (Kd.R_reads' HO_7.out).1
        rw [hl7_1] at HO_7
        (try simp only [hl7_1])
        cases gk with
        | zero => exact absurd HA.out (by simp [auto_spread.l0])
        | succ k1 =>
          have H := HA.out
          clear HA
          simp only [auto_spread.l0] at H
          by_cases c10 : x18_1 < (y117.length : Int)
          · rw [if_pos c10] at H
            have c10b0 : decide (x18_1 < (y117.length : Int)) = true := decide_eq_true c10
            (try simp only [hl7_1] at c10b0)
            clear c10
            by_cases c11 : 0 ≤ x18_1
            · rw [if_pos c11] at H
              have c11b0 : decide (0 ≤ x18_1) = true := decide_eq_true c11
              (try simp only [hl7_1] at c11b0)
              clear c11
              by_cases c12 : x18_1 < (x7_1.length : Int)
              · rw [if_pos c12] at H
                have c12b0 : decide (x18_1 < (x7_1.length : Int)) = true := decide_eq_true c12
                (try simp only [hl7_1] at c12b0)
                clear c12
                obtain ⟨y120, hy120⟩ : ∃ y_ : List Int, y_ = (x7_1.set (x18_1 : Int).toNat (wrap64 (a1 + 1))) := ⟨_, rfl⟩
                replace H : (auto_spread.l0 k1 l0 a1 l2 y120 (y117.length : Int) (wrap64 (x18_1 + 1))) = some r := by first | (rw [hy120]; with_reducible exact H) | (have H2_ := (Option.bind_some _ _).symm.trans H; rw [hy120]; with_reducible exact H2_) | (have H2_ := (Option.bind_some _ _).symm.trans H; with_reducible exact H2_) | with_reducible exact H | (rw [hy120]; exact H) | exact H
                have Ny120 := Aside0.mk hy120
                clear hy120
                have H' := Aside0.mk H
                clear H
                have p13 : 0 ≤ (x18_1 : Int) := of_decide_eq_true (by first | (with_reducible assumption) | assumption)
                have q13 : (x18_1 : Int) < ((x7_1.length : Int) : Int) := of_decide_eq_true (by first | (with_reducible assumption) | assumption)
                obtain ⟨go13, co13, eo13, gb13, gl13, cl13, HG13⟩ := Kd.R_form HO_7.out (by omega)
                (first | cases eo13 | (injection eo13 with ea_ en_ ec_; (first | subst ea_ | (injection ea_ with ea_; subst ea_)); subst ec_; clear en_))
                have GB13 := Aside0.mk gb13
                have GG13 := Aside0.mk HG13
                clear gb13 gl13 HG13
                obtain ⟨hx13_0, hf13_0⟩ := Kd.R_celln 0 HO_7.out (x18_1 : Int) p13 q13
                replace p13 := eq_true p13
                replace q13 := eq_true q13
                have HP14 := Kd.R_putg HO_7.out (x18_1 : Int) (wrap64 (a1 + 1))
                go_wp2_with (first | ((with_reducible refine gate_store (t := 3) (p := 25) rfl ?_); refine store_event (t := 3) (p := 25) (v := ?vo_w15) (w1 := (wr.setCell ⟨go13, (x18_1 : Int).toNat, none⟩ (.int .i64 (wrap64 (a1 + 1))))) ?hg ?ho ?hn ?hr ?_; (case ho => rfl); (case hg => rfl); (case hn => rfl); (case hr => first | (go_simp; done) | (go_simp; rfl)); intro w15 hw; have hg : wr.grownBy w15 (some go13) := (by rw [hw]; exact HP14.2); have hp_ : Kd.R (Kd.int .i64) 3 w15 w.heap.size (fun _ => True) (.slice (some ⟨go13, 0, none⟩) x7_1.length co9) y120 := (by rw [hw, Ny120.out]; exact HP14.1); clear HP14; have n0_ := Aside0.mk (hp_); have n1_ := Aside0.mk ((by rw [hw]; exact below_set (HB.out) GB13.out : Below w.heap.size w w15)); clear HO_7; clear HB; have HO_7 := n0_; have HB := n1_; clear n0_ n1_; clear hg hw hp_))
                (try simp only [← hl7_1])
                go_roundg k1
                case measure => have := HK1.out; omega
                case rel => exact ⟨(y120), (wrap64 (x18_1 + 1)), (by first | rfl | (simp; done) | (simp [*]; done)), H', ⟨by have := HK1.out; omega⟩, ⟨by (try simp only [hl7_1]); (with_reducible repeat (first | apply Kd.R_alloc | apply Kd.R_drewN | apply Kd.R_drew)); exact HO_7.out⟩, ⟨by repeat (first | (with_reducible first | exact HB.out | apply below_alloc | apply pw_below_drewN | apply below_drew1) | exact HB.out)⟩⟩
              · rw [if_neg c12] at H
                exact absurd H (by simp)
            · rw [if_neg c11] at H
              exact absurd H (by simp)
          · rw [if_neg c10] at H
            have c10b0 : decide (x18_1 < (y117.length : Int)) = false := decide_eq_false c10
            (try simp only [hl7_1] at c10b0)
            clear c10
            have H' := Aside0.mk H
            clear H
            go_wp2
            go_loopg [29] k1 (fun kq v29 w' => ∃ (x7_2 : List Int) (x29_2 : Int), v29 = .int .i64 x29_2 ∧ Aside0 (auto_spread.l1 kq l0 a1 x7_2 l2 (l2.length : Int) x29_2 = some r) ∧ Aside0 (kq ≤ k1) ∧ Aside0 (Kd.R (Kd.int .i64) 3 w' w.heap.size (fun _ => True) (.slice Ao9 x7_1.length co9) x7_2) ∧ Aside0 (Below w.heap.size w w'))
            case atStart => exact ⟨(x7_1), (0), (by first | rfl | (simp; done) | (simp [*]; done)), H', ⟨Nat.le_refl _⟩, ⟨by (try simp only [hl7_1]); (with_reducible repeat (first | apply Kd.R_alloc | apply Kd.R_drewN | apply Kd.R_drew)); exact HO_7.out⟩, ⟨by repeat (first | (with_reducible first | exact HB.out | apply below_alloc | apply pw_below_drewN | apply below_drew1) | exact HB.out)⟩⟩
            case round =>
              clear H'
              try clear c1
              try clear p1
              try clear q1
              try clear hx1
              try clear c2
              try clear p2
              try clear c5
              try clear c5b0
              try clear c5b1
              try clear c6
              try clear c6b0
              try clear c6b1
              try clear p6
              try clear c7
              try clear c10
              try clear c10b0
              try clear c11
              try clear c11b0
              try clear c12
              try clear c12b0
              try clear p13
              try clear q13
              try clear hx13
              try clear hf13
              try clear hx13_0
              try clear p13
              try clear p2
              try clear p6
              try clear q13
              obtain ⟨x7_2, x29_2, rfl, HA, HK2, HO_7, HB⟩ := hrel
              have hl7_2 := (Kd.R_reads' HO_7.out).1
              rw [hl7_2] at HO_7
              (try simp only [hl7_2])
              cases gk with
              | zero => exact absurd HA.out (by simp [auto_spread.l1])
              | succ k2 =>
                have H := HA.out
                clear HA
                simp only [auto_spread.l1] at H
                by_cases c16 : x29_2 < (l2.length : Int)
                · rw [if_pos c16] at H
                  have c16b0 : decide (x29_2 < (l2.length : Int)) = true := decide_eq_true c16
                  (try simp only [hl7_1, hl7_2] at c16b0)
                  clear c16
                  by_cases c17 : 0 ≤ x29_2
                  · rw [if_pos c17] at H
                    have c17b0 : decide (0 ≤ x29_2) = true := decide_eq_true c17
                    (try simp only [hl7_1, hl7_2] at c17b0)
                    clear c17
                    by_cases c18 : x29_2 < (l2.length : Int)
                    · rw [if_pos c18] at H
                      have c18b0 : decide (x29_2 < (l2.length : Int)) = true := decide_eq_true c18
                      (try simp only [hl7_1, hl7_2] at c18b0)
                      clear c18
                      have HC19 := Aside0.mk H
                      clear H
                      have p121 : 0 ≤ (x29_2 : Int) := of_decide_eq_true (by first | (with_reducible assumption) | assumption)
                      have q121 : x29_2 < (l2.length : Int) := of_decide_eq_true (by first | (with_reducible assumption) | assumption)
                      obtain ⟨ad121, e121, hx121_0, hx121_1⟩ := at_T121 HR2.out x29_2 p121 q121
                      cases e121
                      replace hx121_0 := (HB.out.cell (World.block_lt_of_cell? w _ hx121_0)).trans hx121_0
                      replace hx121_1 := (HB.out.cell (World.block_lt_of_cell? w _ hx121_1)).trans hx121_1
                      replace p121 := eq_true p121
                      replace q121 := eq_true q121
                      go_upto_region 10 with (first | ((with_reducible refine gate_dst (N := 10) rfl ?_); (try (refine gate_guard (by rfl) ?_; dsimp only)); refine box_event ?hg (N := 10) ?hd (cs := #[.int .i64 0, .int .i64 0]) (t := 121) ?hr ?_; (case hd => rfl); (case hg => rfl); (case hr => first | (go_simp; done) | (go_simp; rfl)); intro gb122 hg w20 hbox hb; have n0_ := Aside0.mk (Kd.R_below (by (with_reducible repeat (first | apply Kd.R_alloc | apply Kd.R_drewN | apply Kd.R_drew)); exact HO_7.out) hb); have n1_ := Aside0.mk (below_step (by repeat (first | (with_reducible first | exact HB.out | apply below_alloc | apply pw_below_drewN | apply below_drew1) | exact HB.out)) hb); have n2_ := Aside0.mk (hbox); have n3_ := Aside0.mk ((by rw [hg]; exact (below_size (by repeat (first | (with_reducible first | exact HB.out | apply below_alloc | apply pw_below_drewN | apply below_drew1) | exact HB.out))) : w.heap.size ≤ gb122)); have n4_ := Aside0.mk ((by rw [hg]; exact (below_size (by repeat (first | (with_reducible first | exact HB.out | apply below_alloc | apply pw_below_drewN | apply below_drew1) | exact HB.out))) : w.heap.size ≤ gb122)); clear HO_7; clear HB; have HO_7 := n0_; have HB := n1_; have BK122 := n2_; have GW122 := n3_; have GE122 := n4_; clear n0_ n1_ n2_ n3_ n4_; clear hb hbox hg; have hcz21_0 : w20.cell? ⟨gb122, 0, none⟩ = some (.int .i64 0) := (blk_cell BK122.out 0).trans rfl; have hcz21_1 : w20.cell? ⟨gb122, 1, none⟩ = some (.int .i64 0) := (blk_cell BK122.out 1).trans rfl; have hfz21_0 := blk_frozen BK122.out 0; have hfz21_1 := blk_frozen BK122.out 1))
                      (try simp only [Act.put, List.setIfInBounds_toArray, List.set_cons_zero, List.set_cons_succ])
                      go_cut [53] (fun v53 wc => ∃ (kq : Nat) (x53_18 : Bool), v53 = .bool x53_18 ∧ Aside0 (auto_spread.j2 kq l0 a1 x7_2 l2 (l2.length : Int) x29_2 x53_18 ((rd_T121 l2 x29_2).f0) ((rd_T121 l2 x29_2).f1) = some r) ∧ Aside0 (kq ≤ k2) ∧ Aside0 (Kd.R (Kd.int .i64) 3 wc w.heap.size (fun _ => True) (.slice Ao9 x7_2.length co9) x7_2) ∧ Aside0 (wc.heap[gb122]? = some (.cells #[.int .i64 ((rd_T121 l2 x29_2).f0), .int .i64 ((rd_T121 l2 x29_2).f1)] 121 (0, 0))) ∧ Aside0 (Below w.heap.size w wc))
                      case first =>
                        have H := HC19.out
                        clear HC19
                        by_cases c22 : ((rd_T121 l2 x29_2).f0) < 0
                        · rw [if_pos c22] at H
                          have c22b0 : decide (((rd_T121 l2 x29_2).f0) < 0) = true := decide_eq_true c22
                          (try simp only [hl7_1, hl7_2] at c22b0)
                          clear c22
                          (first | rw [c22b0] | (simp only [i64_w, i32_w]; rw [c22b0]) | skip)
                          have H' := Aside0.mk H
                          clear H
                          have hcz23_0 : w20.cell? ⟨gb122, 0, none⟩ = some (.int .i64 0) := (blk_cell BK122.out 0).trans rfl
                          have hcz23_1 : w20.cell? ⟨gb122, 1, none⟩ = some (.int .i64 0) := (blk_cell BK122.out 1).trans rfl
                          have hfz23_0 := blk_frozen BK122.out 0
                          have hfz23_1 := blk_frozen BK122.out 1
                          go_wp2
                          go_meet
                          case rel => exact ⟨_, (true), (by first | rfl | (simp; done) | (simp [*]; done)), H', ⟨by have := HK1.out; have := HK2.out; first | omega | exact Nat.le_refl _⟩, ⟨by (try simp only [hl7_1]); (try simp only [hl7_2]); (with_reducible repeat (first | apply Kd.R_alloc | apply Kd.R_drewN | apply Kd.R_drew)); exact Kd.R_mono (Kd.R_far (p := ⟨gb122, 1, none⟩) (Kd.R_far (p := ⟨gb122, 0, none⟩) (Kd.R_types HO_7.out BK122.out (by decide)) (fun _ hk => hk.2) (.int .i64 ((rd_T121 l2 x29_2).f0))) (fun _ hk => hk.2) (.int .i64 ((rd_T121 l2 x29_2).f1))) (fun _ hk => trivial)⟩, ⟨by (try simp only [hl7_1]); (try simp only [hl7_2]); (with_reducible repeat (first | refine blk_drewN ?_ _ | refine blk_drew ?_ | refine blk_alloc ?_ _)); refine blk_put (cs := #[.int .i64 ((rd_T121 l2 x29_2).f0), .int .i64 0]) ?_ 1 _ rfl; (with_reducible repeat (first | refine blk_drewN ?_ _ | refine blk_drew ?_ | refine blk_alloc ?_ _)); refine blk_put (cs := #[.int .i64 0, .int .i64 0]) ?_ 0 _ rfl; (with_reducible repeat (first | refine blk_drewN ?_ _ | refine blk_drew ?_ | refine blk_alloc ?_ _)); exact BK122.out⟩, ⟨by repeat (first | (with_reducible first | exact HB.out | apply below_alloc | apply pw_below_drewN | apply below_drew1 | refine below_set ?_ GE122.out) | exact HB.out)⟩⟩
                        · rw [if_neg c22] at H
                          have c22b0 : decide (((rd_T121 l2 x29_2).f0) < 0) = false := decide_eq_false c22
                          (try simp only [hl7_1, hl7_2] at c22b0)
                          clear c22
                          (first | rw [c22b0] | (simp only [i64_w, i32_w]; rw [c22b0]) | skip)
                          by_cases c24 : ((rd_T121 l2 x29_2).f0) > (l0.length : Int)
                          · rw [if_pos c24] at H
                            have c24b0 : decide ((l0.length : Int) < ((rd_T121 l2 x29_2).f0)) = true := decide_eq_true c24
                            (try simp only [hl7_1, hl7_2] at c24b0)
                            clear c24
                            have H' := Aside0.mk H
                            clear H
                            have hcz25_0 : w20.cell? ⟨gb122, 0, none⟩ = some (.int .i64 0) := (blk_cell BK122.out 0).trans rfl
                            have hcz25_1 : w20.cell? ⟨gb122, 1, none⟩ = some (.int .i64 0) := (blk_cell BK122.out 1).trans rfl
                            have hfz25_0 := blk_frozen BK122.out 0
                            have hfz25_1 := blk_frozen BK122.out 1
                            go_wp2
                            go_meet
                            case rel => exact ⟨_, (true), (by first | rfl | (simp; done) | (simp [*]; done)), H', ⟨by have := HK1.out; have := HK2.out; first | omega | exact Nat.le_refl _⟩, ⟨by (try simp only [hl7_1]); (try simp only [hl7_2]); (with_reducible repeat (first | apply Kd.R_alloc | apply Kd.R_drewN | apply Kd.R_drew)); exact Kd.R_mono (Kd.R_far (p := ⟨gb122, 1, none⟩) (Kd.R_far (p := ⟨gb122, 0, none⟩) (Kd.R_types HO_7.out BK122.out (by decide)) (fun _ hk => hk.2) (.int .i64 ((rd_T121 l2 x29_2).f0))) (fun _ hk => hk.2) (.int .i64 ((rd_T121 l2 x29_2).f1))) (fun _ hk => trivial)⟩, ⟨by (try simp only [hl7_1]); (try simp only [hl7_2]); (with_reducible repeat (first | refine blk_drewN ?_ _ | refine blk_drew ?_ | refine blk_alloc ?_ _)); refine blk_put (cs := #[.int .i64 ((rd_T121 l2 x29_2).f0), .int .i64 0]) ?_ 1 _ rfl; (with_reducible repeat (first | refine blk_drewN ?_ _ | refine blk_drew ?_ | refine blk_alloc ?_ _)); refine blk_put (cs := #[.int .i64 0, .int .i64 0]) ?_ 0 _ rfl; (with_reducible repeat (first | refine blk_drewN ?_ _ | refine blk_drew ?_ | refine blk_alloc ?_ _)); exact BK122.out⟩, ⟨by repeat (first | (with_reducible first | exact HB.out | apply below_alloc | apply pw_below_drewN | apply below_drew1 | refine below_set ?_ GE122.out) | exact HB.out)⟩⟩
                          · rw [if_neg c24] at H
                            have c24b0 : decide ((l0.length : Int) < ((rd_T121 l2 x29_2).f0)) = false := decide_eq_false c24
                            (try simp only [hl7_1, hl7_2] at c24b0)
                            clear c24
                            by_cases c26 : ((rd_T121 l2 x29_2).f1) < 0
                            · rw [if_pos c26] at H
                              have c26b0 : decide (((rd_T121 l2 x29_2).f1) < 0) = true := decide_eq_true c26
                              (try simp only [hl7_1, hl7_2] at c26b0)
                              clear c26
                              have H' := Aside0.mk H
                              clear H
                              have hcz27_0 : w20.cell? ⟨gb122, 0, none⟩ = some (.int .i64 0) := (blk_cell BK122.out 0).trans rfl
                              have hcz27_1 : w20.cell? ⟨gb122, 1, none⟩ = some (.int .i64 0) := (blk_cell BK122.out 1).trans rfl
                              have hfz27_0 := blk_frozen BK122.out 0
                              have hfz27_1 := blk_frozen BK122.out 1
                              go_wp2
                              go_meet
                              case rel => exact ⟨_, (true), (by first | rfl | (simp; done) | (simp [*]; done)), H', ⟨by have := HK1.out; have := HK2.out; first | omega | exact Nat.le_refl _⟩, ⟨by (try simp only [hl7_1]); (try simp only [hl7_2]); (with_reducible repeat (first | apply Kd.R_alloc | apply Kd.R_drewN | apply Kd.R_drew)); exact Kd.R_mono (Kd.R_far (p := ⟨gb122, 1, none⟩) (Kd.R_far (p := ⟨gb122, 0, none⟩) (Kd.R_types HO_7.out BK122.out (by decide)) (fun _ hk => hk.2) (.int .i64 ((rd_T121 l2 x29_2).f0))) (fun _ hk => hk.2) (.int .i64 ((rd_T121 l2 x29_2).f1))) (fun _ hk => trivial)⟩, ⟨by (try simp only [hl7_1]); (try simp only [hl7_2]); (with_reducible repeat (first | refine blk_drewN ?_ _ | refine blk_drew ?_ | refine blk_alloc ?_ _)); refine blk_put (cs := #[.int .i64 ((rd_T121 l2 x29_2).f0), .int .i64 0]) ?_ 1 _ rfl; (with_reducible repeat (first | refine blk_drewN ?_ _ | refine blk_drew ?_ | refine blk_alloc ?_ _)); refine blk_put (cs := #[.int .i64 0, .int .i64 0]) ?_ 0 _ rfl; (with_reducible repeat (first | refine blk_drewN ?_ _ | refine blk_drew ?_ | refine blk_alloc ?_ _)); exact BK122.out⟩, ⟨by repeat (first | (with_reducible first | exact HB.out | apply below_alloc | apply pw_below_drewN | apply below_drew1 | refine below_set ?_ GE122.out) | exact HB.out)⟩⟩
                            · rw [if_neg c26] at H
                              have c26b0 : decide (((rd_T121 l2 x29_2).f1) < 0) = false := decide_eq_false c26
                              (try simp only [hl7_1, hl7_2] at c26b0)
                              clear c26
                              have H' := Aside0.mk H
                              clear H
                              have hcz28_0 : w20.cell? ⟨gb122, 0, none⟩ = some (.int .i64 0) := (blk_cell BK122.out 0).trans rfl
                              have hcz28_1 : w20.cell? ⟨gb122, 1, none⟩ = some (.int .i64 0) := (blk_cell BK122.out 1).trans rfl
                              have hfz28_0 := blk_frozen BK122.out 0
                              have hfz28_1 := blk_frozen BK122.out 1
                              go_wp2
                              go_meet
                              case rel => exact ⟨_, (decide (((rd_T121 l2 x29_2).f1) > a1)), (by first | rfl | (simp; done) | (simp [*]; done)), H', ⟨by have := HK1.out; have := HK2.out; first | omega | exact Nat.le_refl _⟩, ⟨by (try simp only [hl7_1]); (try simp only [hl7_2]); (with_reducible repeat (first | apply Kd.R_alloc | apply Kd.R_drewN | apply Kd.R_drew)); exact Kd.R_mono (Kd.R_far (p := ⟨gb122, 1, none⟩) (Kd.R_far (p := ⟨gb122, 0, none⟩) (Kd.R_types HO_7.out BK122.out (by decide)) (fun _ hk => hk.2) (.int .i64 ((rd_T121 l2 x29_2).f0))) (fun _ hk => hk.2) (.int .i64 ((rd_T121 l2 x29_2).f1))) (fun _ hk => trivial)⟩, ⟨by (try simp only [hl7_1]); (try simp only [hl7_2]); (with_reducible repeat (first | refine blk_drewN ?_ _ | refine blk_drew ?_ | refine blk_alloc ?_ _)); refine blk_put (cs := #[.int .i64 ((rd_T121 l2 x29_2).f0), .int .i64 0]) ?_ 1 _ rfl; (with_reducible repeat (first | refine blk_drewN ?_ _ | refine blk_drew ?_ | refine blk_alloc ?_ _)); refine blk_put (cs := #[.int .i64 0, .int .i64 0]) ?_ 0 _ rfl; (with_reducible repeat (first | refine blk_drewN ?_ _ | refine blk_drew ?_ | refine blk_alloc ?_ _)); exact BK122.out⟩, ⟨by repeat (first | (with_reducible first | exact HB.out | apply below_alloc | apply pw_below_drewN | apply below_drew1 | refine below_set ?_ GE122.out) | exact HB.out)⟩⟩
                      case rest =>
                        clear HC19
                        try clear c1
                        try clear p1
                        try clear q1
                        try clear hx1
                        try clear c2
                        try clear p2
                        try clear c5
                        try clear c5b0
                        try clear c5b1
                        try clear c6
                        try clear c6b0
                        try clear c6b1
                        try clear p6
                        try clear c7
                        try clear c10
                        try clear c10b0
                        try clear c11
                        try clear c11b0
                        try clear c12
                        try clear c12b0
                        try clear p12
                        try clear q12
                        try clear hx12
                        try clear p13
                        try clear q13
                        try clear hx13
                        try clear hf13
                        try clear c16
                        try clear c16b0
                        try clear c17
                        try clear c17b0
                        try clear c18
                        try clear c18b0
                        try clear c22
                        try clear c22b0
                        try clear c24
                        try clear c24b0
                        try clear c26
                        try clear c26b0
                        try clear hcz21_0
                        try clear hcz21_1
                        try clear hcz23_0
                        try clear hcz23_1
                        try clear hcz25_0
                        try clear hcz25_1
                        try clear hcz27_0
                        try clear hcz27_1
                        try clear hcz28_0
                        try clear hcz28_1
                        try clear hfz21_0
                        try clear hfz21_1
                        try clear hfz23_0
                        try clear hfz23_1
                        try clear hfz25_0
                        try clear hfz25_1
                        try clear hfz27_0
                        try clear hfz27_1
                        try clear hfz28_0
                        try clear hfz28_1
                        try clear hx121_0
                        try clear hx121_1
                        try clear hx13_0
                        try clear p1
                        try clear p121
                        try clear p13
                        try clear p2
                        try clear p6
                        try clear q1
                        try clear q121
                        try clear q13
                        obtain ⟨kq, x53_18, rfl, HA, HJ18, HO_7, BK122, HB⟩ := hcut
                        cases kq with
                        | zero => exact absurd HA.out (by simp [auto_spread.j2])
                        | succ kj18 =>
                          have H := HA.out
                          clear HA
                          simp only [auto_spread.j2] at H
                          by_cases c29 : x53_18 = true
                          · subst c29
                            have H1 : (auto_spread.l1 kj18 l0 a1 x7_2 l2 (l2.length : Int) (wrap64 (x29_2 + 1))) = some r := by rw [if_pos rfl] at H; exact H
                            clear H
                            have H := H1
                            clear H1
                            have H' := Aside0.mk H
                            clear H
                            go_wp2
                            (try simp only [← hl7_2])
                            go_roundg kj18
                            case measure => have := HK1.out; have := HK2.out; have := HJ18.out; omega
                            case rel => exact ⟨(x7_2), (wrap64 (x29_2 + 1)), (by first | rfl | (simp; done) | (simp [*]; done)), H', ⟨by have := HK1.out; have := HK2.out; have := HJ18.out; omega⟩, ⟨by (try simp only [hl7_1]); (try simp only [hl7_2]); (with_reducible repeat (first | apply Kd.R_alloc | apply Kd.R_drewN | apply Kd.R_drew)); exact HO_7.out⟩, ⟨by repeat (first | (with_reducible first | exact HB.out | apply below_alloc | apply pw_below_drewN | apply below_drew1 | refine below_set ?_ GE122.out) | exact HB.out)⟩⟩
                          · replace c29 := Bool.eq_false_iff.mpr c29
                            subst c29
                            have H1 : (auto_spread.l2 kj18 l0 a1 x7_2 (mx (wrap64 (((rd_T121 l2 x29_2).f0) - a1)) 0) l2 (l2.length : Int) x29_2 ((rd_T121 l2 x29_2).f0) ((rd_T121 l2 x29_2).f1)) = some r := by rw [if_neg (show ¬ (false = true) by decide)] at H; exact H
                            clear H
                            have H := H1
                            clear H1
                            obtain ⟨ji30, hji30⟩ : ∃ j_ : Int, (mx (wrap64 (((rd_T121 l2 x29_2).f0) - a1)) 0) = j_ := ⟨_, rfl⟩
                            replace H : (auto_spread.l2 kj18 l0 a1 x7_2 ji30 l2 (l2.length : Int) x29_2 ((rd_T121 l2 x29_2).f0) ((rd_T121 l2 x29_2).f1)) = some r := by first | (rw [hji30] at H; exact H) | (simp only [hji30] at H ⊢; exact H)
                            have hji30_ : (if (wrap64 (((rd_T121 l2 x29_2).f0) - a1)) < 0 then 0 else (wrap64 (((rd_T121 l2 x29_2).f0) - a1))) = ji30 := hji30
                            have H' := Aside0.mk H
                            clear H
                            have hcz31_0 : wc.cell? ⟨gb122, 0, none⟩ = some (.int .i64 ((rd_T121 l2 x29_2).f0)) := (blk_cell BK122.out 0).trans rfl
                            have hcz31_1 : wc.cell? ⟨gb122, 1, none⟩ = some (.int .i64 ((rd_T121 l2 x29_2).f1)) := (blk_cell BK122.out 1).trans rfl
                            have hfz31_0 := blk_frozen BK122.out 0
                            have hfz31_1 := blk_frozen BK122.out 1
                            go_wp2
                            go_loopg [11] kj18 (fun kq v11 w' => ∃ (x7_4 : List Int) (x11_4 : Int), v11 = .int .i64 x11_4 ∧ Aside0 (auto_spread.l2 kq l0 a1 x7_4 x11_4 l2 (l2.length : Int) x29_2 ((rd_T121 l2 x29_2).f0) ((rd_T121 l2 x29_2).f1) = some r) ∧ Aside0 (kq ≤ kj18) ∧ Aside0 (Kd.R (Kd.int .i64) 3 w' w.heap.size (fun _ => True) (.slice Ao9 x7_2.length co9) x7_4) ∧ Aside0 (w'.heap[gb122]? = some (.cells #[.int .i64 ((rd_T121 l2 x29_2).f0), .int .i64 ((rd_T121 l2 x29_2).f1)] 121 (0, 0))) ∧ Aside0 (Below w.heap.size w w'))
                            case atStart => exact ⟨(x7_2), (ji30), (by first | rfl | (simp; done) | (simp only [← hji30] <;> (first | rfl | simp)) | (simp [*]; done)), H', ⟨Nat.le_refl _⟩, ⟨by (try simp only [hl7_1]); (try simp only [hl7_2]); (with_reducible repeat (first | apply Kd.R_alloc | apply Kd.R_drewN | apply Kd.R_drew)); exact HO_7.out⟩, ⟨by (try simp only [hl7_1]); (try simp only [hl7_2]); (with_reducible repeat (first | refine blk_drewN ?_ _ | refine blk_drew ?_ | refine blk_alloc ?_ _)); exact BK122.out⟩, ⟨by repeat (first | (with_reducible first | exact HB.out | apply below_alloc | apply pw_below_drewN | apply below_drew1 | refine below_set ?_ GE122.out) | exact HB.out)⟩⟩
                            case round =>
                              clear H'
                              try clear c1
                              try clear p1
                              try clear q1
                              try clear hx1
                              try clear c2
                              try clear p2
                              try clear c5
                              try clear c5b0
                              try clear c5b1
                              try clear c6
                              try clear c6b0
                              try clear c6b1
                              try clear p6
                              try clear c7
                              try clear c10
                              try clear c10b0
                              try clear c11
                              try clear c11b0
                              try clear c12
                              try clear c12b0
                              try clear p12
                              try clear q12
                              try clear hx12
                              try clear p13
                              try clear q13
                              try clear hx13
                              try clear hf13
                              try clear c16
                              try clear c16b0
                              try clear c17
                              try clear c17b0
                              try clear c18
                              try clear c18b0
                              try clear c22
                              try clear c22b0
                              try clear c24
                              try clear c24b0
                              try clear c26
                              try clear c26b0
                              try clear c29
                              try clear hcz21_0
                              try clear hcz21_1
                              try clear hcz23_0
                              try clear hcz23_1
                              try clear hcz25_0
                              try clear hcz25_1
                              try clear hcz27_0
                              try clear hcz27_1
                              try clear hcz28_0
                              try clear hcz28_1
                              try clear hcz31_0
                              try clear hcz31_1
                              try clear hfz21_0
                              try clear hfz21_1
                              try clear hfz23_0
                              try clear hfz23_1
                              try clear hfz25_0
                              try clear hfz25_1
                              try clear hfz27_0
                              try clear hfz27_1
                              try clear hfz28_0
                              try clear hfz28_1
                              try clear hfz31_0
                              try clear hfz31_1
                              try clear hx121_0
                              try clear hx121_1
                              try clear hx13_0
                              try clear p1
                              try clear p12
                              try clear p121
                              try clear p13
                              try clear p2
                              try clear p6
                              try clear q1
                              try clear q12
                              try clear q121
                              try clear q13
                              obtain ⟨x7_4, x11_4, rfl, HA, HK4, HO_7, BK122, HB⟩ := hrel
                              have hl7_4 := (Kd.R_reads' HO_7.out).1
                              rw [hl7_4] at HO_7
                              (try simp only [hl7_4])
                              (try simp only [hl7_4] at BK122)
                              cases gk with
                              | zero => exact absurd HA.out (by simp [auto_spread.l2])
                              | succ k4 =>
                                have H := HA.out
                                clear HA
                                simp only [auto_spread.l2] at H
                                obtain ⟨ji32, hji32⟩ : ∃ j_ : Int, (mn (wrap64 (((rd_T121 l2 x29_2).f0) + a1)) (l0.length : Int)) = j_ := ⟨_, rfl⟩
                                replace H : (if x11_4 ≤ (ji32) then (if 0 ≤ x11_4 then (if x11_4 < (x7_4.length : Int) then (auto_spread.l2 k4 l0 a1 (x7_4.set (x11_4 : Int).toNat (mn (rd x7_4 x11_4) (wrap64 (((rd_T121 l2 x29_2).f1) + (mx (wrap64 (x11_4 - ((rd_T121 l2 x29_2).f0))) (wrap64 (((rd_T121 l2 x29_2).f0) - x11_4))))))) (wrap64 (x11_4 + 1)) l2 (l2.length : Int) x29_2 ((rd_T121 l2 x29_2).f0) ((rd_T121 l2 x29_2).f1)) else (none)) else (none)) else (auto_spread.l1 k4 l0 a1 x7_4 l2 (l2.length : Int) (wrap64 (x29_2 + 1)))) = some r := by first | (rw [hji32] at H; exact H) | (simp only [hji32] at H ⊢; exact H)
                                have hji32_ : (if (l0.length : Int) < (wrap64 (((rd_T121 l2 x29_2).f0) + a1)) then (l0.length : Int) else (wrap64 (((rd_T121 l2 x29_2).f0) + a1))) = ji32 := hji32
                                by_cases c33 : x11_4 ≤ (ji32)
                                · rw [if_pos c33] at H
                                  have c33b0 : decide (x11_4 ≤ (ji32)) = true := decide_eq_true c33
                                  (try simp only [hl7_1, hl7_2, hl7_4] at c33b0)
                                  clear c33
                                  by_cases c34 : 0 ≤ x11_4
                                  · rw [if_pos c34] at H
                                    have c34b0 : decide (0 ≤ x11_4) = true := decide_eq_true c34
                                    (try simp only [hl7_1, hl7_2, hl7_4] at c34b0)
                                    clear c34
                                    by_cases c35 : x11_4 < (x7_4.length : Int)
                                    · rw [if_pos c35] at H
                                      have c35b0 : decide (x11_4 < (x7_4.length : Int)) = true := decide_eq_true c35
                                      (try simp only [hl7_1, hl7_2, hl7_4] at c35b0)
                                      clear c35
                                      obtain ⟨ji36, hji36⟩ : ∃ j_ : Int, (mx (wrap64 (x11_4 - ((rd_T121 l2 x29_2).f0))) (wrap64 (((rd_T121 l2 x29_2).f0) - x11_4))) = j_ := ⟨_, rfl⟩
                                      replace H : (auto_spread.l2 k4 l0 a1 (x7_4.set (x11_4 : Int).toNat (mn (rd x7_4 x11_4) (wrap64 (((rd_T121 l2 x29_2).f1) + (ji36))))) (wrap64 (x11_4 + 1)) l2 (l2.length : Int) x29_2 ((rd_T121 l2 x29_2).f0) ((rd_T121 l2 x29_2).f1)) = some r := by first | (rw [hji36] at H; exact H) | (simp only [hji36] at H ⊢; exact H)
                                      have hji36_ : (if (wrap64 (x11_4 - ((rd_T121 l2 x29_2).f0))) < (wrap64 (((rd_T121 l2 x29_2).f0) - x11_4)) then (wrap64 (((rd_T121 l2 x29_2).f0) - x11_4)) else (wrap64 (x11_4 - ((rd_T121 l2 x29_2).f0)))) = ji36 := hji36
                                      obtain ⟨ji37, hji37⟩ : ∃ j_ : Int, (mn (rd x7_4 x11_4) (wrap64 (((rd_T121 l2 x29_2).f1) + (ji36)))) = j_ := ⟨_, rfl⟩
                                      replace H : (auto_spread.l2 k4 l0 a1 (x7_4.set (x11_4 : Int).toNat (ji37)) (wrap64 (x11_4 + 1)) l2 (l2.length : Int) x29_2 ((rd_T121 l2 x29_2).f0) ((rd_T121 l2 x29_2).f1)) = some r := by first | (rw [hji37] at H; exact H) | (simp only [hji37] at H ⊢; exact H)
                                      have hji37_ : (if (wrap64 (((rd_T121 l2 x29_2).f1) + (ji36))) < (rd x7_4 x11_4) then (wrap64 (((rd_T121 l2 x29_2).f1) + (ji36))) else (rd x7_4 x11_4)) = ji37 := hji37
                                      obtain ⟨y124, hy124⟩ : ∃ y_ : List Int, y_ = (x7_4.set (x11_4 : Int).toNat (ji37)) := ⟨_, rfl⟩
                                      replace H : (auto_spread.l2 k4 l0 a1 y124 (wrap64 (x11_4 + 1)) l2 (l2.length : Int) x29_2 ((rd_T121 l2 x29_2).f0) ((rd_T121 l2 x29_2).f1)) = some r := by first | (rw [hy124]; with_reducible exact H) | (have H2_ := (Option.bind_some _ _).symm.trans H; rw [hy124]; with_reducible exact H2_) | (have H2_ := (Option.bind_some _ _).symm.trans H; with_reducible exact H2_) | with_reducible exact H | (rw [hy124]; exact H) | exact H
                                      have Ny124 := Aside0.mk hy124
                                      clear hy124
                                      have H' := Aside0.mk H
                                      clear H
                                      have hcz39_0 : wr.cell? ⟨gb122, 0, none⟩ = some (.int .i64 ((rd_T121 l2 x29_2).f0)) := (blk_cell BK122.out 0).trans rfl
                                      have hcz39_1 : wr.cell? ⟨gb122, 1, none⟩ = some (.int .i64 ((rd_T121 l2 x29_2).f1)) := (blk_cell BK122.out 1).trans rfl
                                      have hfz39_0 := blk_frozen BK122.out 0
                                      have hfz39_1 := blk_frozen BK122.out 1
                                      try go_wp2
                                      have n0_ := Aside0.mk (Kd.R_drew HO_7.out)
                                      have n1_ := Aside0.mk (blk_drew BK122.out)
                                      have n2_ := Aside0.mk (below_drew1 HB.out)
                                      clear HO_7
                                      clear BK122
                                      clear HB
                                      have HO_7 := n0_
                                      have BK122 := n1_
                                      have HB := n2_
                                      clear n0_ n1_ n2_
                                      have p123 : 0 ≤ (x11_4 : Int) := of_decide_eq_true (by first | (with_reducible assumption) | assumption)
                                      have q123 : x11_4 < (x7_4.length : Int) := of_decide_eq_true (by first | (with_reducible assumption) | assumption)
                                      obtain ⟨ad123, e123, hx123_0⟩ := Kd.at_int (Kd.R_reads' HO_7.out).2.2 x11_4 p123 q123
                                      cases e123
                                      replace p123 := eq_true p123
                                      replace q123 := eq_true q123
                                      have p38 : 0 ≤ (x11_4 : Int) := of_decide_eq_true (by first | (with_reducible assumption) | assumption)
                                      have q38 : (x11_4 : Int) < ((x7_4.length : Int) : Int) := of_decide_eq_true (by first | (with_reducible assumption) | assumption)
                                      obtain ⟨go38, co38, eo38, gb38, gl38, cl38, HG38⟩ := Kd.R_form HO_7.out (by omega)
                                      (first | cases eo38 | (injection eo38 with ea_ en_ ec_; (first | subst ea_ | (injection ea_ with ea_; subst ea_)); subst ec_; clear en_))
                                      have GB38 := Aside0.mk gb38
                                      have GG38 := Aside0.mk HG38
                                      clear gb38 gl38 HG38
                                      (first | simp only [add_plain] at hx123_0 | skip)
                                      obtain ⟨hx38_0, hf38_0⟩ := Kd.R_celln 0 HO_7.out (x11_4 : Int) p38 q38
                                      replace p38 := eq_true p38
                                      replace q38 := eq_true q38
                                      have HP41 := Kd.R_putn HO_7.out (x11_4 : Int) ji37
                                      rw [← Ny124.out] at HP41
                                      have HQ41 := Aside0.mk HP41
                                      clear HP41
                                      refine start_ (n := 21) (S := fun w' => w'.cell? ⟨gb122, 0, none⟩ = some (.int .i64 ((rd_T121 l2 x29_2).f0)) ∧ w'.cell? ⟨gb122, 1, none⟩ = some (.int .i64 ((rd_T121 l2 x29_2).f1)) ∧ w'.cell? ⟨go38, (x11_4).toNat, none⟩ = some (.int .i64 (rd x7_4 x11_4))) (ds := [20]) #[false, false, false, false, false, false, false, false, false, false, false, false, false, false, false, false, false, false, false, false, false] (by kernel_rfl) rfl rfl ⟨(blk_cell BK122.out 0).trans rfl, (blk_cell BK122.out 1).trans rfl, hx123_0⟩ (fun hHeld => ?_); refine with_tabW auto_spread.tab14 auto_spread.bits14 (fun HT_ HW_ => ?_)
                                      generalize wr.drew = w40 at HO_7 BK122 HB GG38 HQ41 hf38_0 hx123_0 hx38_0 hHeld ⊢
                                      refine pure_ (i := 0) (N := some 70) (v := ?_) (a' := ?_) #[true, false, false, false, false, false, false, false, false, false, false, false, false, false, false, false, false, false, false, false, false] rfl rfl (any_of HT_.out (by kernel_rfl)) (fun _ _ _ h => h) (Or.inl ⟨by rfl, ?_⟩) ?_ ?_
                                      rotate_left
                                      · intro w'
                                        go_simp
                                        with_reducible rfl
                                      rotate_left
                                      · simp only [Act.put, List.setIfInBounds_toArray, List.set_cons_zero, List.set_cons_succ, i64_w, i32_w]
                                        rfl
                                      refine pure_ (i := 1) (N := some 71) (v := ?_) (a' := ?_) #[true, true, false, false, false, false, false, false, false, false, false, false, false, false, false, false, false, false, false, false, false] rfl rfl (any_of HT_.out (by kernel_rfl)) (fun _ _ _ h => h) (Or.inl ⟨by rfl, ?_⟩) ?_ ?_
                                      rotate_left
                                      · intro w'
                                        go_simp
                                        with_reducible rfl
                                      rotate_left
                                      · simp only [Act.put, List.setIfInBounds_toArray, List.set_cons_zero, List.set_cons_succ, i64_w, i32_w]
                                        rfl
                                      refine pure_ (i := 2) (N := some 72) (v := ?_) (a' := ?_) #[true, true, true, false, false, false, false, false, false, false, false, false, false, false, false, false, false, false, false, false, false] rfl rfl (any_of HT_.out (by kernel_rfl)) (fun _ _ _ h => h) (Or.inl ⟨by rfl, ?_⟩) ?_ ?_
                                      rotate_left
                                      · intro w'
                                        go_simp
                                        with_reducible rfl
                                      rotate_left
                                      · simp only [Act.put, List.setIfInBounds_toArray, List.set_cons_zero, List.set_cons_succ, i64_w, i32_w]
                                        rfl
                                      refine pure_ (i := 3) (N := some 73) (v := ?_) (a' := ?_) #[true, true, true, true, false, false, false, false, false, false, false, false, false, false, false, false, false, false, false, false, false] rfl rfl (any_of HT_.out (by kernel_rfl)) (fun _ _ _ h => h) (Or.inl ⟨by rfl, ?_⟩) ?_ ?_
                                      rotate_left
                                      · intro w'
                                        go_simp
                                        with_reducible rfl
                                      rotate_left
                                      · simp only [Act.put, List.setIfInBounds_toArray, List.set_cons_zero, List.set_cons_succ, i64_w, i32_w]
                                        rfl
                                      refine pure_ (i := 4) (N := some 74) (v := ?_) (a' := ?_) #[true, true, true, true, true, false, false, false, false, false, false, false, false, false, false, false, false, false, false, false, false] rfl rfl (any_of HT_.out (by kernel_rfl)) (fun _ _ _ h => h) (Or.inl ⟨by rfl, ?_⟩) ?_ ?_
                                      rotate_left
                                      · intro w'
                                        go_simp
                                        with_reducible rfl
                                      rotate_left
                                      · simp only [Act.put, List.setIfInBounds_toArray, List.set_cons_zero, List.set_cons_succ, i64_w, i32_w]
                                        rfl
                                      refine pure_ (i := 6) (N := some 76) (v := ?_) (a' := ?_) #[true, true, true, true, true, false, true, false, false, false, false, false, false, false, false, false, false, false, false, false, false] rfl rfl (any_of HT_.out (by kernel_rfl)) (fun _ _ _ h => h) (Or.inl ⟨by rfl, ?_⟩) ?_ ?_
                                      rotate_left
                                      · intro w'
                                        go_simp
                                        with_reducible rfl
                                      rotate_left
                                      · simp only [Act.put, List.setIfInBounds_toArray, List.set_cons_zero, List.set_cons_succ, i64_w, i32_w]
                                        rfl
                                      refine pure_ (i := 8) (N := some 78) (v := ?_) (a' := ?_) #[true, true, true, true, true, false, true, false, true, false, false, false, false, false, false, false, false, false, false, false, false] rfl rfl (any_of HT_.out (by kernel_rfl)) (fun _ _ _ h => h) (Or.inl ⟨by rfl, ?_⟩) ?_ ?_
                                      rotate_left
                                      · intro w'
                                        go_simp
                                        with_reducible rfl
                                      rotate_left
                                      · simp only [Act.put, List.setIfInBounds_toArray, List.set_cons_zero, List.set_cons_succ, i64_w, i32_w]
                                        rfl
                                      refine pure_ (i := 9) (N := some 79) (v := ?_) (a' := ?_) #[true, true, true, true, true, false, true, false, true, true, false, false, false, false, false, false, false, false, false, false, false] rfl rfl (any_of HT_.out (by kernel_rfl)) (fun _ _ _ h => h) (Or.inl ⟨by rfl, ?_⟩) ?_ ?_
                                      rotate_left
                                      · intro w'
                                        go_simp
                                        with_reducible rfl
                                      rotate_left
                                      · simp only [Act.put, List.setIfInBounds_toArray, List.set_cons_zero, List.set_cons_succ, i64_w, i32_w]
                                        rfl
                                      refine pure_ (i := 12) (N := some 82) (v := ?_) (a' := ?_) #[true, true, true, true, true, false, true, false, true, true, false, false, true, false, false, false, false, false, false, false, false] rfl rfl (any_of HT_.out (by kernel_rfl)) (fun _ _ _ h => h) (Or.inl ⟨by rfl, ?_⟩) ?_ ?_
                                      rotate_left
                                      · intro w'
                                        go_simp
                                        with_reducible rfl
                                      rotate_left
                                      · simp only [Act.put, List.setIfInBounds_toArray, List.set_cons_zero, List.set_cons_succ, i64_w, i32_w]
                                        rfl
                                      refine pure_ (i := 14) (N := some 84) (v := ?_) (a' := ?_) #[true, true, true, true, true, false, true, false, true, true, false, false, true, false, true, false, false, false, false, false, false] rfl rfl (any_of HT_.out (by kernel_rfl)) (fun _ _ _ h => h) (Or.inl ⟨by rfl, ?_⟩) ?_ ?_
                                      rotate_left
                                      · intro w'
                                        go_simp
                                        with_reducible rfl
                                      rotate_left
                                      · simp only [Act.put, List.setIfInBounds_toArray, List.set_cons_zero, List.set_cons_succ, i64_w, i32_w]
                                        rfl
                                      refine take_ (i := 5) (N := some 75) (v := ?_) (a' := ?_) #[true, true, true, true, true, true, true, false, true, true, false, false, true, false, true, false, false, false, false, false, false] rfl rfl (take_ofW HT_.out HW_.out (by kernel_rfl)) (fun _ _ _ h => h) (Or.inl ⟨by rfl, ?_⟩) hHeld ?_ ?_
                                      rotate_left
                                      · rintro w' ⟨s0, s1, s2⟩
                                        go_simp
                                        with_reducible rfl
                                      rotate_left
                                      · simp only [Act.put, List.setIfInBounds_toArray, List.set_cons_zero, List.set_cons_succ, i64_w, i32_w]
                                        rfl
                                      refine take_ (i := 7) (N := some 77) (v := ?_) (a' := ?_) #[true, true, true, true, true, true, true, true, true, true, false, false, true, false, true, false, false, false, false, false, false] rfl rfl (take_ofW HT_.out HW_.out (by kernel_rfl)) (fun _ _ _ h => h) (Or.inl ⟨by rfl, ?_⟩) hHeld ?_ ?_
                                      rotate_left
                                      · rintro w' ⟨s0, s1, s2⟩
                                        go_simp
                                        with_reducible rfl
                                      rotate_left
                                      · simp only [Act.put, List.setIfInBounds_toArray, List.set_cons_zero, List.set_cons_succ, i64_w, i32_w]
                                        rfl
                                      refine take_ (i := 10) (N := some 80) (v := ?_) (a' := ?_) #[true, true, true, true, true, true, true, true, true, true, true, false, true, false, true, false, false, false, false, false, false] rfl rfl (take_ofW HT_.out HW_.out (by kernel_rfl)) (fun _ _ _ h => h) (Or.inl ⟨by rfl, ?_⟩) hHeld ?_ ?_
                                      rotate_left
                                      · rintro w' ⟨s0, s1, s2⟩
                                        go_simp
                                        with_reducible rfl
                                      rotate_left
                                      · simp only [Act.put, List.setIfInBounds_toArray, List.set_cons_zero, List.set_cons_succ, i64_w, i32_w]
                                        rfl
                                      refine pure_ (i := 11) (N := some 81) (v := ?_) (a' := ?_) #[true, true, true, true, true, true, true, true, true, true, true, true, true, false, true, false, false, false, false, false, false] rfl rfl (any_of HT_.out (by kernel_rfl)) (fun _ _ _ h => h) (Or.inl ⟨by rfl, ?_⟩) ?_ ?_
                                      rotate_left
                                      · intro w'
                                        go_simp
                                        with_reducible rfl
                                      rotate_left
                                      · simp only [Act.put, List.setIfInBounds_toArray, List.set_cons_zero, List.set_cons_succ, i64_w, i32_w]
                                        rfl
                                      refine take_ (i := 13) (N := some 83) (v := ?_) (a' := ?_) #[true, true, true, true, true, true, true, true, true, true, true, true, true, true, true, false, false, false, false, false, false] rfl rfl (take_ofW HT_.out HW_.out (by kernel_rfl)) (fun _ _ _ h => h) (Or.inl ⟨by rfl, ?_⟩) hHeld ?_ ?_
                                      rotate_left
                                      · rintro w' ⟨s0, s1, s2⟩
                                        go_simp
                                        with_reducible rfl
                                      rotate_left
                                      · simp only [Act.put, List.setIfInBounds_toArray, List.set_cons_zero, List.set_cons_succ, i64_w, i32_w]
                                        rfl
                                      refine pure_ (i := 15) (N := some 85) (v := ?_) (a' := ?_) #[true, true, true, true, true, true, true, true, true, true, true, true, true, true, true, true, false, false, false, false, false] rfl rfl (any_of HT_.out (by kernel_rfl)) (fun _ _ _ h => h) (Or.inl ⟨by rfl, ?_⟩) ?_ ?_
                                      rotate_left
                                      · intro w'
                                        go_simp
                                        with_reducible rfl
                                      rotate_left
                                      · simp only [Act.put, List.setIfInBounds_toArray, List.set_cons_zero, List.set_cons_succ, i64_w, i32_w]
                                        rfl
                                      refine pure_ (i := 16) (N := some 86) (v := ?_) (a' := ?_) #[true, true, true, true, true, true, true, true, true, true, true, true, true, true, true, true, true, false, false, false, false] rfl rfl (any_of HT_.out (by kernel_rfl)) (fun _ _ _ h => h) (Or.inl ⟨by rfl, ?_⟩) ?_ ?_
                                      rotate_left
                                      · intro w'
                                        go_simp
                                        with_reducible rfl
                                      rotate_left
                                      · simp only [Act.put, List.setIfInBounds_toArray, List.set_cons_zero, List.set_cons_succ, i64_w, i32_w]
                                        rfl
                                      refine pure_ (i := 17) (N := some 87) (v := ?_) (a' := ?_) #[true, true, true, true, true, true, true, true, true, true, true, true, true, true, true, true, true, true, false, false, false] rfl rfl (any_of HT_.out (by kernel_rfl)) (fun _ _ _ h => h) (Or.inl ⟨by rfl, ?_⟩) ?_ ?_
                                      rotate_left
                                      · intro w'
                                        go_simp
                                        with_reducible rfl
                                      rotate_left
                                      · simp only [Act.put, List.setIfInBounds_toArray, List.set_cons_zero, List.set_cons_succ, i64_w, i32_w]
                                        rfl
                                      refine pure_ (i := 18) (N := some 88) (v := ?_) (a' := ?_) #[true, true, true, true, true, true, true, true, true, true, true, true, true, true, true, true, true, true, true, false, false] rfl rfl (any_of HT_.out (by kernel_rfl)) (fun _ _ _ h => h) (Or.inl ⟨by rfl, ?_⟩) ?_ ?_
                                      rotate_left
                                      · intro w'
                                        go_simp
                                        with_reducible rfl
                                      rotate_left
                                      · simp only [Act.put, List.setIfInBounds_toArray, List.set_cons_zero, List.set_cons_succ, i64_w, i32_w]
                                        rfl
                                      refine pure_ (i := 19) (N := some 89) (v := ?_) (a' := ?_) #[true, true, true, true, true, true, true, true, true, true, true, true, true, true, true, true, true, true, true, true, false] rfl rfl (any_of HT_.out (by kernel_rfl)) (fun _ _ _ h => h) (Or.inl ⟨by rfl, ?_⟩) ?_ ?_
                                      rotate_left
                                      · intro w'
                                        go_simp
                                        with_reducible rfl
                                      rotate_left
                                      · simp only [Act.put, List.setIfInBounds_toArray, List.set_cons_zero, List.set_cons_succ, i64_w, i32_w]
                                        rfl
                                      refine last_ (i := 20) (N := none) #[true, true, true, true, true, true, true, true, true, true, true, true, true, true, true, true, true, true, true, true, true] rfl rfl (one_of HT_.out (by kernel_rfl)) (by decide) (fun K hK => ?_)
                                      refine skip_ (w1 := ?_) (by rfl) rfl ?_ ?_
                                      rotate_left
                                      · go_simp
                                        rfl
                                      refine hK.out _ _ ?_
                                      clear hK K
                                      refine done_ (done_of HT_.out (by kernel_rfl)) ?_
                                      try go_wp2
                                      (try simp only [← hl7_4])
                                      go_roundg k4
                                      case measure => have := HK1.out; have := HK2.out; have := HJ18.out; have := HK4.out; omega
                                      case rel => exact ⟨(y124), (wrap64 (x11_4 + 1)), (by first | rfl | (simp; done) | (simp [*]; done)), H', ⟨by have := HK1.out; have := HK2.out; have := HJ18.out; have := HK4.out; omega⟩, ⟨by (try simp only [hl7_1]); (try simp only [hl7_2]); (try simp only [hl7_4]); (with_reducible repeat (first | apply Kd.R_alloc | apply Kd.R_drewN | apply Kd.R_drew)); exact HQ41.out⟩, ⟨by (try simp only [hl7_1]); (try simp only [hl7_2]); (try simp only [hl7_4]); (with_reducible repeat (first | refine blk_drewN ?_ _ | refine blk_drew ?_ | refine blk_alloc ?_ _)); refine blk_far ?_ (by have h_ := Kd.R_ne HO_7.out BK122.out (by decide); intro e_; exact h_ (by rw [e_]; rfl)) _; (with_reducible repeat (first | refine blk_drewN ?_ _ | refine blk_drew ?_ | refine blk_alloc ?_ _)); exact BK122.out⟩, ⟨by repeat (first | (with_reducible first | exact HB.out | apply below_alloc | apply pw_below_drewN | apply below_drew1 | refine below_set ?_ GB38.out | refine below_set ?_ GE122.out) | exact HB.out)⟩⟩
                                    · rw [if_neg c35] at H
                                      exact absurd H (by simp)
                                  · rw [if_neg c34] at H
                                    exact absurd H (by simp)
                                · rw [if_neg c33] at H
                                  have c33b0 : decide (x11_4 ≤ (ji32)) = false := decide_eq_false c33
                                  (try simp only [hl7_1, hl7_2, hl7_4] at c33b0)
                                  clear c33
                                  have H' := Aside0.mk H
                                  clear H
                                  have hcz42_0 : wr.cell? ⟨gb122, 0, none⟩ = some (.int .i64 ((rd_T121 l2 x29_2).f0)) := (blk_cell BK122.out 0).trans rfl
                                  have hcz42_1 : wr.cell? ⟨gb122, 1, none⟩ = some (.int .i64 ((rd_T121 l2 x29_2).f1)) := (blk_cell BK122.out 1).trans rfl
                                  have hfz42_0 := blk_frozen BK122.out 0
                                  have hfz42_1 := blk_frozen BK122.out 1
                                  go_wp2
                                  (try simp only [← hl7_2, ← hl7_4])
                                  go_roundg k4
                                  case measure => have := HK1.out; have := HK2.out; have := HJ18.out; have := HK4.out; omega
                                  case rel => exact ⟨(x7_4), (wrap64 (x29_2 + 1)), (by first | rfl | (simp; done) | (simp [*]; done)), H', ⟨by have := HK1.out; have := HK2.out; have := HJ18.out; have := HK4.out; omega⟩, ⟨by (try simp only [hl7_1]); (try simp only [hl7_2]); (try simp only [hl7_4]); (with_reducible repeat (first | apply Kd.R_alloc | apply Kd.R_drewN | apply Kd.R_drew)); exact HO_7.out⟩, ⟨by repeat (first | (with_reducible first | exact HB.out | apply below_alloc | apply pw_below_drewN | apply below_drew1 | refine below_set ?_ GE122.out) | exact HB.out)⟩⟩
                    · rw [if_neg c18] at H
                      exact absurd H (by simp)
                  · rw [if_neg c17] at H
                    exact absurd H (by simp)
                · rw [if_neg c16] at H
                  have c16b0 : decide (x29_2 < (l2.length : Int)) = false := decide_eq_false c16
                  (try simp only [hl7_1, hl7_2] at c16b0)
                  clear c16
                  obtain rfl := Option.some.inj H
                  go_wp2
                  go_ret
                  exact ⟨_, by first | rfl | (simp [errW_none, errW_some] <;> rfl) | (simp only [← hji4]; first | rfl | (simp [errW_none, errW_some] <;> rfl)) | (simp [*, errW_none, errW_some] <;> rfl), by (with_reducible repeat (first | apply Kd.R_alloc | apply Kd.R_drewN | apply Kd.R_drew)); exact HO_7.out, by repeat (first | (with_reducible first | exact HB.out | apply below_alloc | apply pw_below_drewN | apply below_drew1) | exact HB.out)⟩
    · rw [if_neg c6] at H
      exact absurd H (by simp)
  · rw [if_neg c5] at H
    exact absurd H (by simp)

end Go.Proofs.Ytklidannncajiaa.OW
