/- What the row of the law WalkRenamed leans on: contracts of functions and plain laws, each for all inputs that its own theorem names. -/
import Derived.Test.YtklidannncajiaaRe0
import Derived.Shelf.Strings.Builder1
import Derived.Shelf.Strings.Builder2
import Derived.Shelf.Strings.OnBuilder
import Derived.Shelf.Small.Bits
import Derived.Shelf.Small.Strs
import Derived.Shelf.Small.Wraps
import Derived.Shelf.Strings.BuilderF
import Derived.Shelf.Strings.BuilderK
import Derived.Shelf.Strings.Builder2Cap
import Derived.Shelf.Strconv.Itoa0
import Derived.Shelf.Strings.Prefix
import Derived.Ground.Names2Prog
import Derived.Shelf.Slices.Clone
import Derived.Shelf.Slices.CompactS
import Derived.Shelf.Slices.SearchI
import Derived.Shelf.Slices.Cells
import Derived.Ground.SlgnProg
import Derived.Shelf.SlicesE.Clone
import Derived.Test.YtklidannncajiaaProg
import Derived.Deep.DeepCutAuto
import Derived.Maps.OwnSet
import Derived.Maps.Views
import Derived.Outline
namespace Go.Proofs
open Go.Shelf
def Try.lays156_ren : Go.Shelf.Ren := ⟨fun | 156 => 50 | 165 => 72 | 166 => 73 | 169 => 74 | 240 => 98 | 241 => 99 | 276 => 112 | 277 => 113 | n => n, fun | 31 => 22 | 9 => 9 | 3 => 3 | 4 => 4 | 0 => 0 | 20 => 20 | 72 => 113 | 76 => 117 | 70 => 110 | 37 => 111 | 75 => 116 | 127 => 141 | 164 => 154 | 5 => 5 | 80 => 119 | n => n, fun | n => n⟩
theorem Try.lays156 : Go.Proofs.Lays.n156 Try.prog Try.lays156_ren := {
  mixed := by kernel_rfl
  f156 := Try.func50.trans (congrArg some (by kernel_rfl))
  f165 := Try.func72.trans (congrArg some (by kernel_rfl))
  f166 := Try.func73.trans (congrArg some (by kernel_rfl))
  f169 := Try.func74.trans (congrArg some (by kernel_rfl))
  f240 := Try.func98.trans (congrArg some (by kernel_rfl))
  f241 := Try.func99.trans (congrArg some (by kernel_rfl))
  f276 := Try.func112.trans (congrArg some (by kernel_rfl))
  f277 := Try.func113.trans (congrArg some (by kernel_rfl))
  t0 := Try.underlying0
  a0 := Try.isAgg0
  z0 := Try.sizeOf0
  v0 := Try.zeroValue0
  t3 := Try.underlying3
  a3 := Try.isAgg3
  z3 := Try.sizeOf3
  v3 := Try.zeroValue3
  t4 := Try.underlying4
  a4 := Try.isAgg4
  z4 := Try.sizeOf4
  v4 := Try.zeroValue4
  t9 := Try.underlying9
  a9 := Try.isAgg9
  z9 := Try.sizeOf9
  v9 := Try.zeroValue9
  t20 := Try.underlying20
  a20 := Try.isAgg20
  z20 := Try.sizeOf20
  v20 := Try.zeroValue20
  t31 := Try.underlying22
  a31 := Try.isAgg22
  z31 := Try.sizeOf22
  v31 := Try.zeroValue22
  t37 := Try.underlying111
  a37 := Try.isAgg111
  z37 := Try.sizeOf111
  v37 := Try.zeroValue111
  t70 := Try.underlying110
  a70 := Try.isAgg110
  z70 := Try.sizeOf110
  v70 := Try.zeroValue110
  t72 := Try.underlying113
  a72 := Try.isAgg113
  z72 := Try.sizeOf113
  v72 := Try.zeroValue113
  t75 := Try.underlying116
  a75 := Try.isAgg116
  z75 := Try.sizeOf116
  v75 := Try.zeroValue116
  t76 := Try.underlying117
  a76 := Try.isAgg117
  z76 := Try.sizeOf117
  v76 := Try.zeroValue117
  t127 := Try.underlying141
  a127 := Try.isAgg141
  z127 := Try.sizeOf141
  v127 := Try.zeroValue141
  t164 := Try.underlying154
  a164 := Try.isAgg154
  z164 := Try.sizeOf154
  v164 := Try.zeroValue154 }
theorem Try.Builder_Extra_156 : Builder.Extra Try.prog Try.lays156_ren := {
  sizeBuilder := by kernel_rfl
  liesBuilder := by kernel_rfl
  t5 := Try.underlying5
  a5 := Try.isAgg5
  z5 := Try.sizeOf5
  v5 := Try.zeroValue5
  infoByte := by kernel_rfl
  cellsByte := by kernel_rfl
  sizeByte := by kernel_rfl
  neB5 := by decide }
open Go.RowKit in
/-- strings.Join: "Join concatenates the elements of its first argument to create a single string. The separator string sep is placed between elements in the resulting string.": HOWEVER MANY ELEMENTS. Below the heap's end the world is as it was. (LAID: no walk: one application.) -/
theorem Try.strings_Join (bk o c : Nat) (xs : List ByteArray) (sep : ByteArray) (w : World) (hcells : ∀ (j : Nat) x, xs[j]? = some x → w.cell? ⟨bk, o + j, none⟩ = some (.string x)) (hbk : bk < w.heap.size) (hN : xs.length ≤ 140737488355328) (hcap : xs.length ≤ c) (hlen : (Lib.join (xs.map (·.data.toList)) sep.data.toList).length ≤ 140737488355328) :
    Calls Try.prog 50 #[.slice (some ⟨bk, o, none⟩) xs.length c, .string sep] w fun e w' => e = .returned (.string ⟨(Lib.join (xs.map (·.data.toList)) sep.data.toList).toArray⟩) ∧ Below w.heap.size w w' := Any.strings_Join Try.lays156 Try.Builder_Extra_156 bk o c xs sep w hcells hbk hN hcap hlen
def Try.lays128_ren : Go.Shelf.Ren := ⟨fun | 128 => 96 | n => n, fun | 51 => 138 | 3 => 3 | 4 => 4 | 46 => 79 | 5 => 5 | 9 => 9 | n => n, fun | n => n⟩
theorem Try.lays128 : Go.Proofs.Lays.n128 Try.prog Try.lays128_ren := {
  mixed := by kernel_rfl
  f128 := Try.func96.trans (congrArg some (by kernel_rfl))
  t3 := Try.underlying3
  a3 := Try.isAgg3
  z3 := Try.sizeOf3
  v3 := Try.zeroValue3
  t4 := Try.underlying4
  a4 := Try.isAgg4
  z4 := Try.sizeOf4
  v4 := Try.zeroValue4
  t5 := Try.underlying5
  a5 := Try.isAgg5
  z5 := Try.sizeOf5
  v5 := Try.zeroValue5
  t9 := Try.underlying9
  a9 := Try.isAgg9
  z9 := Try.sizeOf9
  v9 := Try.zeroValue9
  t46 := Try.underlying79
  a46 := Try.isAgg79
  z46 := Try.sizeOf79
  v46 := Try.zeroValue79
  t51 := Try.underlying138
  a51 := Try.isAgg138
  z51 := Try.sizeOf138
  v51 := Try.zeroValue138 }
/-- bits.Len32: "Len32 returns the minimum number of bits required to represent x; the result is 0 for x == 0.": IT RETURNS 'Lib.bitLen x'; the world is as it was. ('h0', 'h1': x is a uint32.) (LAID: no walk: one application.) -/
theorem Try.bits_Len32 (x : Int) (w : World) (h0 : 0 ≤ x) (h1 : x ≤ 4294967295) :
    Calls Try.prog 96 #[.int .u32 x] w fun e w' => e = .returned (.int .i64 (Lib.bitLen x.toNat)) ∧ w' = w := Any.bits_Len32 Try.lays128 x w h0 h1
def Try.lays125_ren : Go.Shelf.Ren := ⟨fun | 125 => 71 | 128 => 96 | 129 => 97 | n => n, fun | 46 => 79 | 3 => 3 | 51 => 138 | 53 => 140 | 4 => 4 | 5 => 5 | 9 => 9 | n => n, fun | n => n⟩
theorem Try.lays125 : Go.Proofs.Lays.n125 Try.prog Try.lays125_ren := {
  mixed := by kernel_rfl
  f125 := Try.func71.trans (congrArg some (by kernel_rfl))
  f128 := Try.func96.trans (congrArg some (by kernel_rfl))
  f129 := Try.func97.trans (congrArg some (by kernel_rfl))
  t3 := Try.underlying3
  a3 := Try.isAgg3
  z3 := Try.sizeOf3
  v3 := Try.zeroValue3
  t4 := Try.underlying4
  a4 := Try.isAgg4
  z4 := Try.sizeOf4
  v4 := Try.zeroValue4
  t5 := Try.underlying5
  a5 := Try.isAgg5
  z5 := Try.sizeOf5
  v5 := Try.zeroValue5
  t9 := Try.underlying9
  a9 := Try.isAgg9
  z9 := Try.sizeOf9
  v9 := Try.zeroValue9
  t46 := Try.underlying79
  a46 := Try.isAgg79
  z46 := Try.sizeOf79
  v46 := Try.zeroValue79
  t51 := Try.underlying138
  a51 := Try.isAgg138
  z51 := Try.sizeOf138
  v51 := Try.zeroValue138
  t53 := Try.underlying140
  a53 := Try.isAgg140
  z53 := Try.sizeOf140
  v53 := Try.zeroValue140 }
/-- bits.Len: "Len returns the minimum number of bits required to represent x; the result is 0 for x == 0.": IT RETURNS 'Lib.bitLen x'; the world is as it was. (A uint has 64 bits in the model.) ITS CALLEE bits.Len64 IS MET BY ITS OWN CONTRACT OFF THE SHELF (lay that first). (LAID: no walk: one application.) -/
theorem Try.bits_Len (x : Int) (w : World) (h0 : 0 ≤ x) (h1 : x ≤ 18446744073709551615) :
    Calls Try.prog 71 #[.int .u64 x] w fun e w' => e = .returned (.int .i64 (Lib.bitLen x.toNat)) ∧ w' = w := Any.bits_Len Try.lays125 x w h0 h1
def Try.lays213_ren : Go.Shelf.Ren := ⟨fun | 213 => 86 | 265 => 104 | n => n, fun | 9 => 9 | 3 => 3 | n => n, fun | n => n⟩
theorem Try.lays213 : Go.Proofs.Lays.n213 Try.prog Try.lays213_ren := {
  mixed := by kernel_rfl
  f213 := Try.func86.trans (congrArg some (by kernel_rfl))
  f265 := Try.func104.trans (congrArg some (by kernel_rfl))
  t3 := Try.underlying3
  a3 := Try.isAgg3
  z3 := Try.sizeOf3
  v3 := Try.zeroValue3
  t9 := Try.underlying9
  a9 := Try.isAgg9
  z9 := Try.sizeOf9
  v9 := Try.zeroValue9 }
open Go.RowKit in
/-- internal/bytealg.CompareString (what strings.Compare calls): IT RETURNS 'Lib.compareBytes a b'; the world is as it was. (LAID: no walk: one application.) -/
theorem Try.bytealg_CompareString (a b : ByteArray) (w : World) :
    Calls Try.prog 86 #[.string a, .string b] w fun e w' => e = .returned (.int .i64 (Lib.compareBytes a.data.toList b.data.toList)) ∧ w' = w := Any.bytealg_CompareString Try.lays213 a b w
def Try.lays106_ren : Go.Shelf.Ren := ⟨fun | 106 => 65 | 213 => 86 | 265 => 104 | n => n, fun | 9 => 9 | 3 => 3 | n => n, fun | n => n⟩
theorem Try.lays106 : Go.Proofs.Lays.n106 Try.prog Try.lays106_ren := {
  mixed := by kernel_rfl
  f106 := Try.func65.trans (congrArg some (by kernel_rfl))
  f213 := Try.func86.trans (congrArg some (by kernel_rfl))
  f265 := Try.func104.trans (congrArg some (by kernel_rfl))
  t3 := Try.underlying3
  a3 := Try.isAgg3
  z3 := Try.sizeOf3
  v3 := Try.zeroValue3
  t9 := Try.underlying9
  a9 := Try.isAgg9
  z9 := Try.sizeOf9
  v9 := Try.zeroValue9 }
open Go.RowKit in
/-- strings.Compare: "Compare returns an integer comparing two strings lexicographically. The result will be 0 if a == b, -1 if a < b, and +1 if a > b.": IT RETURNS 'Lib.compareBytes a b'; the world is as it was. (LAID: no walk: one application.) -/
theorem Try.strings_Compare (a b : ByteArray) (w : World) :
    Calls Try.prog 65 #[.string a, .string b] w fun e w' => e = .returned (.int .i64 (Lib.compareBytes a.data.toList b.data.toList)) ∧ w' = w := Any.strings_Compare Try.lays106 a b w
def Try.lays215_ren : Go.Shelf.Ren := ⟨fun | 215 => 100 | n => n, fun | 3 => 3 | 4 => 4 | n => n, fun | n => n⟩
theorem Try.lays215 : Go.Proofs.Lays.n215 Try.prog Try.lays215_ren := {
  mixed := by kernel_rfl
  f215 := Try.func100.trans (congrArg some (by kernel_rfl))
  t3 := Try.underlying3
  a3 := Try.isAgg3
  z3 := Try.sizeOf3
  v3 := Try.zeroValue3
  t4 := Try.underlying4
  a4 := Try.isAgg4
  z4 := Try.sizeOf4
  v4 := Try.zeroValue4 }
open Go.RowKit in
/-- cmp.isNaN at int: 'x != x': false. (LAID: no walk: one application.) -/
theorem Try.cmp_isNaN_int (x : Int) (w : World) :
    Calls Try.prog 100 #[.int .i64 x] w fun e w' => e = .returned (.bool false) ∧ w' = w := Any.cmp_isNaN_int Try.lays215 x w
def Try.lays122_ren : Go.Shelf.Ren := ⟨fun | 122 => 83 | 215 => 100 | n => n, fun | 3 => 3 | 4 => 4 | n => n, fun | n => n⟩
theorem Try.lays122 : Go.Proofs.Lays.n122 Try.prog Try.lays122_ren := {
  mixed := by kernel_rfl
  f122 := Try.func83.trans (congrArg some (by kernel_rfl))
  f215 := Try.func100.trans (congrArg some (by kernel_rfl))
  t3 := Try.underlying3
  a3 := Try.isAgg3
  z3 := Try.sizeOf3
  v3 := Try.zeroValue3
  t4 := Try.underlying4
  a4 := Try.isAgg4
  z4 := Try.sizeOf4
  v4 := Try.zeroValue4 }
open Go.RowKit in
/-- cmp.Compare at int: "Compare returns -1 if x is less than y, 0 if x equals y, +1 if x is greater than y.": IT RETURNS 'Lib.compareInt x y'; the world is as it was. (LAID: no walk: one application.) -/
theorem Try.cmp_Compare_int (x y : Int) (w : World) :
    Calls Try.prog 83 #[.int .i64 x, .int .i64 y] w fun e w' => e = .returned (.int .i64 (Lib.compareInt x y)) ∧ w' = w := Any.cmp_Compare_int Try.lays122 x y w
def Try.lays129_ren : Go.Shelf.Ren := ⟨fun | 129 => 97 | n => n, fun | 53 => 140 | 3 => 3 | 4 => 4 | 46 => 79 | 5 => 5 | 9 => 9 | n => n, fun | n => n⟩
theorem Try.lays129 : Go.Proofs.Lays.n129 Try.prog Try.lays129_ren := {
  mixed := by kernel_rfl
  f129 := Try.func97.trans (congrArg some (by kernel_rfl))
  t3 := Try.underlying3
  a3 := Try.isAgg3
  z3 := Try.sizeOf3
  v3 := Try.zeroValue3
  t4 := Try.underlying4
  a4 := Try.isAgg4
  z4 := Try.sizeOf4
  v4 := Try.zeroValue4
  t5 := Try.underlying5
  a5 := Try.isAgg5
  z5 := Try.sizeOf5
  v5 := Try.zeroValue5
  t9 := Try.underlying9
  a9 := Try.isAgg9
  z9 := Try.sizeOf9
  v9 := Try.zeroValue9
  t46 := Try.underlying79
  a46 := Try.isAgg79
  z46 := Try.sizeOf79
  v46 := Try.zeroValue79
  t53 := Try.underlying140
  a53 := Try.isAgg140
  z53 := Try.sizeOf140
  v53 := Try.zeroValue140 }
/-- bits.Len64: "Len64 returns the minimum number of bits required to represent x; the result is 0 for x == 0.": IT RETURNS 'Lib.bitLen x'; the world is as it was. ('h0', 'h1': x is a uint64.) (LAID: no walk: one application.) -/
theorem Try.bits_Len64 (x : Int) (w : World) (h0 : 0 ≤ x) (h1 : x ≤ 18446744073709551615) :
    Calls Try.prog 97 #[.int .u64 x] w fun e w' => e = .returned (.int .i64 (Lib.bitLen x.toNat)) ∧ w' = w := Any.bits_Len64 Try.lays129 x w h0 h1
def Try.lays206_ren : Go.Shelf.Ren := ⟨fun | 206 => 75 | n => n, fun | 9 => 9 | 4 => 4 | 3 => 3 | n => n, fun | n => n⟩
theorem Try.lays206 : Go.Proofs.Lays.n206 Try.prog Try.lays206_ren := {
  mixed := by kernel_rfl
  f206 := Try.func75.trans (congrArg some (by kernel_rfl))
  t3 := Try.underlying3
  a3 := Try.isAgg3
  z3 := Try.sizeOf3
  v3 := Try.zeroValue3
  t4 := Try.underlying4
  a4 := Try.isAgg4
  z4 := Try.sizeOf4
  v4 := Try.zeroValue4
  t9 := Try.underlying9
  a9 := Try.isAgg9
  z9 := Try.sizeOf9
  v9 := Try.zeroValue9 }
open Go.RowKit Go.Lib in
/-- internal/stringslite.HasPrefix (what strings.HasPrefix calls). (LAID: no walk: one application.) -/
theorem Try.stringslite_HasPrefix (s p : ByteArray) (w : World) :
    Calls Try.prog 75 #[.string s, .string p] w fun e w' => e = .returned (.bool (Lib.hasPrefix s.data.toList p.data.toList)) ∧ w' = w := Any.stringslite_HasPrefix Try.lays206 s p w
def Try.lays99_ren : Go.Shelf.Ren := ⟨fun | 99 => 52 | 206 => 75 | n => n, fun | 9 => 9 | 4 => 4 | 3 => 3 | n => n, fun | n => n⟩
theorem Try.lays99 : Go.Proofs.Lays.n99 Try.prog Try.lays99_ren := {
  mixed := by kernel_rfl
  f99 := Try.func52.trans (congrArg some (by kernel_rfl))
  f206 := Try.func75.trans (congrArg some (by kernel_rfl))
  t3 := Try.underlying3
  a3 := Try.isAgg3
  z3 := Try.sizeOf3
  v3 := Try.zeroValue3
  t4 := Try.underlying4
  a4 := Try.isAgg4
  z4 := Try.sizeOf4
  v4 := Try.zeroValue4
  t9 := Try.underlying9
  a9 := Try.isAgg9
  z9 := Try.sizeOf9
  v9 := Try.zeroValue9 }
open Go.RowKit Go.Lib in
/-- strings.HasPrefix: "HasPrefix reports whether the string s begins with prefix.": IT RETURNS 'Lib.hasPrefix s prefix'; the world is as it was. (LAID: no walk: one application.) -/
theorem Try.strings_HasPrefix (s p : ByteArray) (w : World) :
    Calls Try.prog 52 #[.string s, .string p] w fun e w' => e = .returned (.bool (Lib.hasPrefix s.data.toList p.data.toList)) ∧ w' = w := Any.strings_HasPrefix Try.lays99 s p w
def Try.lays194_ren : Go.Shelf.Ren := ⟨fun | 194 => 49 | n => n, fun | 31 => 22 | 9 => 9 | 3 => 3 | 4 => 4 | 0 => 0 | n => n, fun | n => n⟩
theorem Try.lays194 : Go.Proofs.Lays.n194 Try.prog Try.lays194_ren := {
  mixed := by kernel_rfl
  f194 := Try.func49.trans (congrArg some (by kernel_rfl))
  t0 := Try.underlying0
  a0 := Try.isAgg0
  z0 := Try.sizeOf0
  v0 := Try.zeroValue0
  t3 := Try.underlying3
  a3 := Try.isAgg3
  z3 := Try.sizeOf3
  v3 := Try.zeroValue3
  t4 := Try.underlying4
  a4 := Try.isAgg4
  z4 := Try.sizeOf4
  v4 := Try.zeroValue4
  t9 := Try.underlying9
  a9 := Try.isAgg9
  z9 := Try.sizeOf9
  v9 := Try.zeroValue9
  t31 := Try.underlying22
  a31 := Try.isAgg22
  z31 := Try.sizeOf22
  v31 := Try.zeroValue22 }
open Go.RowKit Go.Lib Go.Sort in
/-- slices.Compact at []string: "Compact replaces consecutive runs of equal elements with a single copy. This is like the uniq command found on Unix. Compact modifies the contents of the slice s and returns the modified slice, which may have a smaller length. Compact zeroes the elements between the new length and the original length. The result preserves the nilness of s.": IT RETURNS THE SLICE CUT TO 'Lib.compact zs'; ITS CELLS HOLD 'Lib.compact zs', THEN ZERO VALUES up to the old length; all else is as it was, but for the count of draws. IN THE WORDS OF slices.Sort's CONTRACT ('Holds', 'putRow'): so the everyday 'slices.Sort(xs); xs = slices.Compact(xs)' goes from the one contract to the other. It asks 'zs.length ≤ cap' (every slice's: the reslicing 's[:k]' looks at it). Length 0, nil: '.._empty'. (LAID: no walk: one application.) -/
theorem Try.slices_Compact_string (blk off cap : Nat) (zs : List (List UInt8)) (w : World) (hH : Holds encStr w blk off zs.toArray) (hsz : zs.length ≤ 9223372036854775807) (hcap : zs.length ≤ cap) :
    Calls Try.prog 49 #[.slice (some ⟨blk, off, none⟩) zs.length cap] w fun e w' => e = .returned (.slice (some ⟨blk, off, none⟩) (Lib.compact zs).length cap) ∧ ∃ q, w' = putRow encStr (Sort.ahead w q) blk off (Lib.compact zs ++ List.replicate (zs.length - (Lib.compact zs).length) []).toArray := Any.slices_Compact_string Try.lays194 blk off cap zs w hH hsz hcap
open Go.RowKit Go.Lib Go.Sort in
/-- The same at a slice of length 0, a nil one too: it comes back as it is. (LAID: no walk: one application.) -/
theorem Try.slices_Compact_string_empty (a : Option Addr) (cap : Nat) (w : World) :
    Calls Try.prog 49 #[.slice a 0 cap] w fun e w' => e = .returned (.slice a 0 cap) ∧ w' = w := Any.slices_Compact_string_empty Try.lays194 a cap w
end Go.Proofs

namespace Go.Proofs.Ytklidannncajiaa.OW
open Go.RowKit Go.Proofs.YtklidannncajiaaW.PrintWords Go.Proofs.YtklidannncajiaaW.PrintLast Go.Proofs.YtklidannncajiaaW.PrintMore
open Go.Maps (Keyed has IsMap)

/-- Block b is a map from texts to numbers: F tells it, at most n entries. -/
def MapAt (w : World) (b n : Nat) (F : ByteArray → Option Int) : Prop :=
  ∃ D : DataW Unit, w.ownsMap Try.prog 9 (plainElem Try.prog 3) b n D ∧ IsMap D ∧ ∀ s : ByteArray, s.size ≤ maxLen → has D (.string s.data.toList) = (F s).isSome ∧ ∀ v, F s = some v → D.atKey (.string s.data.toList) (.lit (.int .i64 0)) = .lit (.int .i64 v)
theorem keyed9 : Keyed Try.prog 9 := Go.Maps.string_keyed Try.underlying9
theorem zero3 (w : World) : (zeroValue 3).run Try.prog w = .ok (.int .i64 0) w := by kernel_rfl
theorem MapAt.made (w : World) : MapAt (w.alloc (.map #[] 0)) w.heap.size 0 (fun _ => none) :=
  ⟨.map [], World.ownsMap_made _ _ _ _, Go.Maps.isMap_empty, fun _ _ => ⟨rfl, fun _ h => by cases h⟩⟩
theorem MapAt.lt {w : World} {b n : Nat} {F : ByteArray → Option Int} (h : MapAt w b n F) : b < w.heap.size := by
  obtain ⟨D, h1, _⟩ := h
  exact h1.lt
theorem MapAt.move {w w' : World} {b n : Nat} {F : ByteArray → Option Int} (h : MapAt w b n F) (hb : w'.heap[b]? = w.heap[b]?) : MapAt w' b n F := by
  obtain ⟨D, ⟨es, clock, h1, h2⟩, h3⟩ := h
  exact ⟨D, ⟨es, clock, hb.trans h1, h2⟩, h3⟩
section
variable {ops : Array Oper} {rest : List Oper} {o : Oper} {a : Act} {Q : Exit → Act → World → Prop}
theorem MapAt.look {w : World} {b n : Nat} {F : ByteArray → Option Int} (h : MapAt w b n F) (hg : o.guard = none) (m x : Operand) (hop : o.op = Op.lookup 67 m x true) (s : ByteArray) (hs : s.size ≤ maxLen) (hm : a.eval m = .map (some b)) (hx : a.eval x = .string s)
    (hK : ∀ c : Int, (∀ v, F s = some v → c = v) → wpList Try.prog ops Q rest (a.put o.dst (.tuple #[.int .i64 c, .bool (F s).isSome])) w) : wpList Try.prog ops Q (o :: rest) a w := by
  obtain ⟨D, h1, h2, h3⟩ := h
  refine wpList_lookup_own_ok_int w hg m x 67 hop 9 3 .i64 keyed9 Try.underlying67 Try.underlying3 (zero3 w) b n D hm h1 _ (.string s.data.toList) hx (Go.WideMaps.keyOf_string_mk Try.underlying9 hs) ?_
  intro c hat _
  rw [(h3 s hs).1]
  refine hK c fun v hv => ?_
  have := (h3 s hs).2 v hv
  rw [hat] at this
  injection this with this
  injection this
theorem MapAt.put {w : World} {b n : Nat} {F : ByteArray → Option Int} (h : MapAt w b n F) (hn : n < maxLen) (hg : o.guard = none) (hdst : o.dst = none) (m x v : Operand) (hop : o.op = Op.mapUpdate 67 m x v) (s : ByteArray) (hs : s.size ≤ maxLen) (i : Int) (hi : (Lit.int .i64 i).wf = true) (hm : a.eval m = .map (some b)) (hx : a.eval x = .string s) (hv : a.eval v = .int .i64 i)
    (hK : ∀ w', MapAt w' b (n + 1) (fun t => if t = s then some i else F t) → w.grownBy w' (some b) → wpList Try.prog ops Q rest a w') : wpList Try.prog ops Q (o :: rest) a w := by
  obtain ⟨D, h1, h2, h3⟩ := h
  refine wpList_mapUpdate_own w hg m x v 67 hop 9 3 keyed9 Try.underlying67 (plainElem Try.prog 3) b n D hm h1 hn _ _ (.string s.data.toList) hx hv (Go.WideMaps.keyOf_string_mk Try.underlying9 hs) (.lit (.int .i64 i)) [] (plainElem_int Try.underlying3 hi) ?_
  intro w' h4 h5
  rw [hdst]
  refine hK w' ⟨_, h4, h2.put _ _, fun t ht => ?_⟩ h5
  dsimp only
  by_cases e : t = s
  · subst e
    rw [if_pos rfl]
    refine ⟨Go.Maps.has_put_same h2 (k := .string t.data.toList) True.intro _, fun v hv => ?_⟩
    rw [Go.Maps.atKey_put_same h2 (k := .string t.data.toList) True.intro, Option.some.inj hv]
  · rw [if_neg e]
    have hne : (Lit.string t.data.toList) ≠ Lit.string s.data.toList := fun h => e (bytes_ext (by injection h))
    rw [Go.Maps.has_put_other hne, Go.Maps.atKey_put_other hne]
    exact h3 t ht
end
/-- What a builder has made so far: nodes, and which rests are which. -/
structure Bld where
  ns : List S72
  F : ByteArray → Option Int
def restsKey (l : List ByteArray) : ByteArray := ⟨(Lib.join (l.map (·.data.toList)) [255]).toArray⟩
/-- The rests behind the first rune p (n bytes) of those, from the first on, that begin so. -/
def grp (p : ByteArray) (n : Nat) : List ByteArray → List ByteArray
  | [] => []
  | s :: t => if Lib.hasPrefix s.data.toList p.data.toList = true then cut s n :: grp p n t else []
def isEnd (l : List ByteArray) : Bool := match l with | [] => false | s :: _ => decide (s = ⟨#[]⟩)
def restsOf (l : List ByteArray) : List ByteArray := if isEnd l = true then l.drop 1 else l
def Bld.open_ (st : Bld) (key : ByteArray) : Bld := ⟨st.ns ++ [z72], fun t => if t = key then some (st.ns.length : Int) else st.F t⟩
def Bld.shut (st : Bld) (n : Nat) (x : S72) : Bld := ⟨st.ns.set n x, st.F⟩
mutual
def node : Nat → List ByteArray → Bld → Option (Int × Bld)
  | 0, _, _ => none
  | f + 1, l, st => if l ≠ [] ∧ (Lib.join (l.map (·.data.toList)) [255]).length ≤ 1000000 ∧ st.ns.length ≤ 1000000 ∧ l.length ≤ 1000000 then
      match st.F (restsKey l) with
      | some n => some (n, st)
      | none => (edges f (restsOf l) [] (st.open_ (restsKey l))).bind fun y => if st.ns.length < y.2.ns.length then some ((st.ns.length : Int), y.2.shut st.ns.length ⟨isEnd l, y.1⟩) else none
    else none
def edges : Nat → List ByteArray → List S91 → Bld → Option (List S91 × Bld)
  | 0, _, _, _ => none
  | f + 1, l, es, st => match l with
    | [] => some (es, st)
    | s :: t => if s.size ≤ 1000000 ∧ 0 < s.size ∧ es.length ≤ 1000000 ∧ (s :: t).length ≤ 1000000 then
        (node f (grp (s.extract 0 (Utf8.decode s 0).2) (Utf8.decode s 0).2 (s :: t)) st).bind fun y => edges f ((s :: t).drop (grp (s.extract 0 (Utf8.decode s 0).2) (Utf8.decode s 0).2 (s :: t)).length) (es ++ [⟨((Utf8.decode s 0).1 : Int), y.1⟩]) y.2
      else none
end
/-- The builder at block b, its graph at gB, its map at mB: all made since B; ok: which blocks its rows of nodes and edges may be. -/
structure BuilderAt (w : World) (B b gB mB : Nat) (ok : Nat → Prop) (st : Bld) : Prop where
  blk : w.heap[b]? = some (.cells #[.pointer (some ⟨gB, 0, none⟩), .map (some mB)] 69 (0, 0))
  leG : B ≤ gB
  leM : B ≤ mB
  size : B ≤ w.heap.size
  graph : ∃ v, w.heap[gB]? = some (.cells #[v] 66 (0, 0)) ∧ Kd.R k72 72 w B ok v st.ns
  map : MapAt w mB st.ns.length st.F
/-- What the building of a node writes: the graph's variable, its row of nodes, the map. -/
structure NodeKept (B mB : Nat) (w w' : World) : Prop where
  os : w'.os = w.os
  tape : w'.tape = w.tape
  output : w'.output = w.output
  size : w.heap.size ≤ w'.heap.size
  block : ∀ k, k < w.heap.size → k ≠ mB → (∀ t, Typed w k t → ¬ (B ≤ k ∧ (t = 66 ∨ t = 72))) → w'.heap[k]? = w.heap[k]?
namespace NodeKept
variable {B mB : Nat} {w w1 w2 : World}
theorem refl (B mB : Nat) (w : World) : NodeKept B mB w w := ⟨rfl, rfl, rfl, Nat.le_refl _, fun _ _ _ _ => rfl⟩
theorem trans (h : NodeKept B mB w w1) (h1 : NodeKept B mB w1 w2) : NodeKept B mB w w2 :=
  ⟨h1.os.trans h.os, h1.tape.trans h.tape, h1.output.trans h.output, Nat.le_trans h.size h1.size, fun k hk hm ht => by
    have e := h.block k hk hm ht
    exact (h1.block k (Nat.lt_of_lt_of_le hk h.size) hm (fun t ⟨c, hc⟩ => ht t ⟨c, e ▸ hc⟩)).trans e⟩
theorem of_below (h : Below w.heap.size w w1) : NodeKept B mB w w1 := ⟨h.os, h.tape, h.output, h.size, fun k hk _ _ => h.block k hk⟩
theorem of_grown {row : Option Nat} (h : w.grownBy w1 row) (hr : ∀ k, row = some k → k = mB ∨ ∃ t, Typed w k t ∧ (B ≤ k ∧ (t = 66 ∨ t = 72))) : NodeKept B mB w w1 :=
  ⟨h.os, h.tape, h.output, h.size, fun k hk hm ht => h.block k hk (fun e => by
    rcases hr k e.symm with h1 | ⟨t, h1, h2⟩
    · exact hm h1
    · exact ht t h1 h2)⟩
theorem typed (h : NodeKept B mB w w1) {k t : Nat} (ht : Typed w k t) (hm : k ≠ mB) (hn : ¬ (B ≤ k ∧ (t = 66 ∨ t = 72))) : w1.heap[k]? = w.heap[k]? :=
  h.block k ht.lt hm (fun t' h1 h2 => by rw [h1.det ht] at h2; exact hn h2)
theorem to_below (h : NodeKept B mB w w1) (hm : B ≤ mB) (hB : B ≤ w.heap.size) : Below B w w1 := ⟨h.os, h.tape, h.output, h.size, fun k hk => h.block k (by omega) (by omega) (fun t _ h2 => by omega)⟩
theorem row {α : Type} {d : Kd α} {e base : Nat} {v : Value} {xs : List α} {ok : Nat → Prop} (h : NodeKept B mB w w1) (hM : ∃ es clock, w.heap[mB]? = some (.map es clock)) (ho : d.R e w base ok v xs) (hn : ∀ t, t ∈ e :: d.E → t ≠ 66 ∧ t ≠ 72) : d.R e w1 base ok v xs :=
  Kd.R_mono (Kd.R_step (Kd.R_bound ho) (fun k hk hlt => by
    obtain ⟨_, h1, h2, q, hq, c, hc⟩ := hk
    refine h.typed ⟨c, hc⟩ (fun e => ?_) (fun h3 => by have := hn q hq; omega)
    obtain ⟨es, clock, hM⟩ := hM
    rw [e, hM] at hc
    injection hc with hc
    cases hc)) (fun _ hk => hk.1)
end NodeKept
theorem MapAt.is {w : World} {b n : Nat} {F : ByteArray → Option Int} (h : MapAt w b n F) : ∃ es clock, w.heap[b]? = some (.map es clock) := by
  obtain ⟨D, ⟨es, clock, h1, _⟩, _⟩ := h
  exact ⟨es, clock, h1⟩
end Go.Proofs.Ytklidannncajiaa.OW

namespace Go.Proofs.Ytklidannncajiaa.OW
open Go.RowKit

theorem cmp_self : ∀ l : List UInt8, Lib.compareBytes l l = 0
  | [] => rfl
  | a :: t => by
    unfold Lib.compareBytes
    rw [if_neg (UInt8.lt_irrefl a), if_neg (UInt8.lt_irrefl a)]
    exact cmp_self t
theorem cmp_eq : ∀ {a b : List UInt8}, Lib.compareBytes a b = 0 → a = b
  | [], [], _ => rfl
  | [], _ :: _, h => by simp [Lib.compareBytes] at h
  | _ :: _, [], h => by simp [Lib.compareBytes] at h
  | x :: a, y :: b, h => by
    unfold Lib.compareBytes at h
    by_cases h1 : x < y
    · rw [if_pos h1] at h; cases h
    · rw [if_neg h1] at h
      by_cases h2 : y < x
      · rw [if_pos h2] at h; cases h
      · rw [if_neg h2] at h
        have : x = y := UInt8.le_antisymm (UInt8.not_lt.1 h2) (UInt8.not_lt.1 h1)
        rw [this, cmp_eq h]
theorem cmp_swap : ∀ a b : List UInt8, Lib.compareBytes b a = - Lib.compareBytes a b
  | [], [] => rfl
  | [], _ :: _ => rfl
  | _ :: _, [] => rfl
  | x :: a, y :: b => by
    unfold Lib.compareBytes
    by_cases h1 : x < y
    · rw [if_pos h1, if_neg (UInt8.lt_asymm h1), if_pos h1]; rfl
    · by_cases h2 : y < x
      · rw [if_pos h2, if_neg h1, if_pos h2]
      · rw [if_neg h2, if_neg h1, if_neg h1, if_neg h2]
        exact cmp_swap a b
theorem cmp_nil {a : List UInt8} : ¬ Lib.compareBytes a [] < 0 := by cases a <;> simp [Lib.compareBytes]
theorem cmp_trans : ∀ {a b c : List UInt8}, Lib.compareBytes a b < 0 → Lib.compareBytes b c < 0 → Lib.compareBytes a c < 0
  | [], _, [], _, h2 => absurd h2 cmp_nil
  | [], _, _ :: _, _, _ => by simp [Lib.compareBytes]
  | _ :: _, [], _, h1, _ => by simp [Lib.compareBytes] at h1
  | _ :: _, _ :: _, [], _, h2 => by simp [Lib.compareBytes] at h2
  | x :: a, y :: b, z :: c, h1, h2 => by
    unfold Lib.compareBytes at h1 h2 ⊢
    by_cases xy : x < y
    · by_cases yz : y < z
      · rw [if_pos (UInt8.lt_trans xy yz)]; omega
      · rw [if_neg yz] at h2
        by_cases zy : z < y
        · rw [if_pos zy] at h2; omega
        · have : y = z := UInt8.le_antisymm (UInt8.not_lt.1 zy) (UInt8.not_lt.1 yz)
          rw [if_pos (this ▸ xy)]; omega
    · rw [if_neg xy] at h1
      by_cases yx : y < x
      · rw [if_pos yx] at h1; omega
      · rw [if_neg yx] at h1
        have e : x = y := UInt8.le_antisymm (UInt8.not_lt.1 yx) (UInt8.not_lt.1 xy)
        subst e
        by_cases yz : x < z
        · rw [if_pos yz]; omega
        · rw [if_neg yz] at h2 ⊢
          by_cases zy : z < x
          · rw [if_pos zy] at h2; omega
          · rw [if_neg zy] at h2 ⊢
            exact cmp_trans h1 h2
theorem cmp_app : ∀ p a b : List UInt8, Lib.compareBytes (p ++ a) (p ++ b) = Lib.compareBytes a b
  | [], _, _ => rfl
  | x :: p, a, b => by
    show Lib.compareBytes (x :: (p ++ a)) (x :: (p ++ b)) = _
    conv => lhs; unfold Lib.compareBytes
    rw [if_neg (UInt8.lt_irrefl x), if_neg (UInt8.lt_irrefl x)]
    exact cmp_app p a b
/-- The order of texts. -/
def ltB (a b : ByteArray) : Prop := Lib.compareBytes a.data.toList b.data.toList < 0
instance (a b : ByteArray) : Decidable (ltB a b) := inferInstanceAs (Decidable (_ < _))
theorem ltB.trans {a b c : ByteArray} (h : ltB a b) (h' : ltB b c) : ltB a c := cmp_trans h h'
theorem ltB.irrefl (a : ByteArray) : ¬ ltB a a := by unfold ltB; rw [cmp_self]; omega
theorem ltB.ne_empty {a b : ByteArray} (h : ltB a b) : 0 < b.size := by
  rw [size_list]
  cases hb : b.data.toList with
  | nil => unfold ltB at h; rw [hb] at h; exact absurd h cmp_nil
  | cons x t => simp
theorem ltB.total {a b : ByteArray} (h : ¬ ltB a b) (hne : a ≠ b) : ltB b a := by
  unfold ltB at h ⊢
  rw [cmp_swap a.data.toList b.data.toList]
  have : Lib.compareBytes a.data.toList b.data.toList ≠ 0 := fun e => hne (bytes_ext (cmp_eq e))
  omega
/-! ### a clean text has no byte 255; keys -/
theorem encode_small (r : Int) (x : UInt8) (hx : x ∈ Lib.encodeRune r) : x ≠ 255 := by
  unfold Lib.encodeRune at hx
  obtain ⟨z, hz, rfl⟩ := List.mem_map.1 hx
  have hb : 0 ≤ z ∧ z < 255 := by
    unfold Lib.encodeRuneZ at hz
    split at hz
    · simp only [List.mem_cons, List.not_mem_nil, or_false] at hz; omega
    · split at hz
      · simp only [List.mem_cons, List.not_mem_nil, or_false] at hz; omega
      · split at hz
        · simp only [List.mem_cons, List.not_mem_nil, or_false] at hz; omega
        · split at hz
          · simp only [List.mem_cons, List.not_mem_nil, or_false] at hz; omega
          · simp only [List.mem_cons, List.not_mem_nil, or_false] at hz; omega
  intro e
  have h1 := congrArg UInt8.toNat e
  have h2 : (z.toNat.toUInt8).toNat = z.toNat % 256 := by simp
  rw [h2] at h1
  have : (255 : UInt8).toNat = 255 := rfl
  omega
theorem Clean.no255 : ∀ (d : Nat) (s : ByteArray), s.size ≤ d → Clean s → (255 : UInt8) ∉ s.data.toList := by
  intro d
  induction d with
  | zero =>
    intro s hs _ h
    rw [size_list] at hs
    have : s.data.toList = [] := List.length_eq_zero_iff.1 (by omega)
    rw [this] at h
    cases h
  | succ d ih =>
    intro s hs hc h
    by_cases h0 : 0 < s.size
    · have h1 := hc.first_ h0
      have h2 := decode_pos s 0 h0
      have h3 := ih (cut s (Utf8.decode s 0).2) (by rw [cut_size]; omega) (hc.cut_ h0)
      have hd : Lib.decodeL s.data.toList = Utf8.decode s 0 := by have := Lib.decodeL_drop s 0; rwa [List.drop_zero] at this
      have hne : s.data.toList ≠ [] := by intro e; rw [size_list, e] at h0; simp at h0
      have he := Lib.encode_decode s.data.toList hne (by rw [hd]; exact fun hc => h1 hc.1)
      rw [hd] at he
      rw [← List.take_append_drop (Utf8.decode s 0).2 s.data.toList] at h
      rcases List.mem_append.1 h with h | h
      · rw [← he] at h
        exact encode_small _ _ h rfl
      · rw [cut_data] at h3
        exact h3 h
    · rw [size_list] at h0
      have : s.data.toList = [] := List.length_eq_zero_iff.1 (by omega)
      rw [this] at h
      cases h
def joinR : List (List UInt8) → List UInt8
  | [] => []
  | [x] => x
  | x :: y :: t => x ++ 255 :: joinR (y :: t)
theorem join_eq : ∀ l : List (List UInt8), Lib.join l [255] = joinR l
  | [] => rfl
  | [x] => by simp [Lib.join, joinR, List.intercalate]
  | x :: y :: t => by
    have ih := join_eq (y :: t)
    unfold Lib.join at ih ⊢
    show _ = x ++ 255 :: joinR (y :: t)
    rw [← ih]
    simp [List.intercalate]
theorem joinR_len : ∀ l : List (List UInt8), (joinR l).length ≤ (l.map List.length).sum + l.length
  | [] => by simp [joinR]
  | [x] => by simp [joinR]
  | x :: y :: t => by
    have ih := joinR_len (y :: t)
    show (x ++ 255 :: joinR (y :: t)).length ≤ _
    simp at ih ⊢
    omega
theorem sep_inj : ∀ {x y r r' : List UInt8}, (255 : UInt8) ∉ x → (255 : UInt8) ∉ y → x ++ 255 :: r = y ++ 255 :: r' → x = y ∧ r = r'
  | [], [], _, _, _, _, h => ⟨rfl, by simpa using h⟩
  | [], b :: y, _, _, _, hy, h => by
    simp at h
    exact absurd (h.1 ▸ List.mem_cons_self) hy
  | a :: x, [], _, _, hx, _, h => by
    simp at h
    exact absurd (h.1 ▸ List.mem_cons_self) hx
  | a :: x, b :: y, r, r', hx, hy, h => by
    simp only [List.cons_append, List.cons.injEq] at h
    obtain ⟨h1, h2⟩ := sep_inj (fun hm => hx (List.mem_cons_of_mem _ hm)) (fun hm => hy (List.mem_cons_of_mem _ hm)) h.2
    exact ⟨by rw [h.1, h1], h2⟩
theorem joinR_inj : ∀ {l l' : List (List UInt8)}, l ≠ [] → l' ≠ [] → (∀ x ∈ l, (255 : UInt8) ∉ x) → (∀ x ∈ l', (255 : UInt8) ∉ x) → joinR l = joinR l' → l = l'
  | [], _, h, _, _, _, _ => absurd rfl h
  | _, [], _, h, _, _, _ => absurd rfl h
  | [x], [y], _, _, _, _, h => by rw [show x = y from h]
  | [x], y :: z :: t, _, _, hx, _, h => by
    have h' : x = y ++ 255 :: joinR (z :: t) := h
    exact absurd (by rw [h']; simp) (hx x List.mem_cons_self)
  | x :: z :: t, [y], _, _, _, hy, h => by
    have h' : x ++ 255 :: joinR (z :: t) = y := h
    exact absurd (by rw [← h']; simp) (hy y List.mem_cons_self)
  | x :: z :: t, y :: u :: t', _, _, hx, hy, h => by
    obtain ⟨h1, h2⟩ := sep_inj (hx x List.mem_cons_self) (hy y List.mem_cons_self) (show x ++ 255 :: joinR (z :: t) = y ++ 255 :: joinR (u :: t') from h)
    have := joinR_inj (by simp) (by simp) (fun q hq => hx q (List.mem_cons_of_mem _ hq)) (fun q hq => hy q (List.mem_cons_of_mem _ hq)) h2
    rw [h1, this]
theorem key_inj {l l' : List ByteArray} (h1 : l ≠ []) (h2 : l' ≠ []) (c1 : ∀ s ∈ l, Clean s) (c2 : ∀ s ∈ l', Clean s) (h : restsKey l = restsKey l') : l = l' := by
  have h3 : joinR (l.map (·.data.toList)) = joinR (l'.map (·.data.toList)) := by
    rw [← join_eq, ← join_eq]
    have := congrArg (fun s : ByteArray => s.data.toList) h
    simpa [restsKey] using this
  have h4 := joinR_inj (by simpa using h1) (by simpa using h2) (fun x hx => by obtain ⟨s, hs, rfl⟩ := List.mem_map.1 hx; exact (c1 s hs).no255 s.size s (Nat.le_refl _)) (fun x hx => by obtain ⟨s, hs, rfl⟩ := List.mem_map.1 hx; exact (c2 s hs).no255 s.size s (Nat.le_refl _)) h3
  exact (List.map_inj_right (fun a b hab => bytes_ext hab)).1 h4
/-! ### texts that begin with one rune -/
theorem decode_prefix (s x : ByteArray) (h0 : 0 < s.size) (hr : (Utf8.decode s 0).1 ≠ 65533) (hp : Lib.hasPrefix x.data.toList (s.extract 0 (Utf8.decode s 0).2).data.toList = true) : Utf8.decode x 0 = Utf8.decode s 0 := by
  obtain ⟨t, ht⟩ := List.isPrefixOf_iff_prefix.1 hp
  have hle := decode_le_size s 0 h0
  rw [head_data] at ht
  rw [size_list] at hle
  have hget : ∀ i, i < (Utf8.decode s 0).2 → x.data.toList.getD i 0 = s.data.toList.getD i 0 := by
    intro i hi
    rw [← ht, List.getD_eq_getElem?_getD, List.getD_eq_getElem?_getD, List.getElem?_append_left (by rw [List.length_take]; omega), List.getElem?_take, if_pos hi]
  have hlen : (Utf8.decode s 0).2 ≤ x.data.toList.length := by rw [← ht, List.length_append, List.length_take]; omega
  rw [Lib.decode_N s 0] at hr hget hlen ⊢
  rw [Lib.decode_N x 0]
  simp only [Nat.sub_zero, Nat.zero_add] at hr hget hlen ⊢
  rcases Lib.decodeN_shape s.data.toList.length (s.data.toList.getD 0 0).toNat (s.data.toList.getD 1 0).toNat (s.data.toList.getD 2 0).toNat (s.data.toList.getD 3 0).toNat with ⟨c, e⟩ | ⟨c1, c2, c3, cv, e⟩ | ⟨c1, c2, c3, c4, cv, cs, e⟩ | ⟨c1, c2, c3, c4, c5, cv, cw, e⟩ | e
  · rw [e] at hget ⊢
    have g0 := hget 0 (by dsimp only; omega)
    rw [g0]
    unfold Lib.decodeN
    rw [if_pos c]
  · rw [e] at hget hlen ⊢
    dsimp only at hget hlen
    have g0 := hget 0 (by omega)
    have g1 := hget 1 (by omega)
    rw [g0, g1]
    unfold Lib.decodeN
    rw [if_neg (by omega), if_pos ⟨c1, by omega, c3⟩, if_pos (by omega)]
  · rw [e] at hget hlen ⊢
    dsimp only at hget hlen
    have g0 := hget 0 (by omega)
    have g1 := hget 1 (by omega)
    have g2 := hget 2 (by omega)
    rw [g0, g1, g2]
    unfold Lib.decodeN
    rw [if_neg (by omega), if_neg (by omega), if_pos ⟨c1, ⟨by omega, c3⟩, by omega, c4⟩, if_pos (by omega)]
  · rw [e] at hget hlen ⊢
    dsimp only at hget hlen
    have g0 := hget 0 (by omega)
    have g1 := hget 1 (by omega)
    have g2 := hget 2 (by omega)
    have g3 := hget 3 (by omega)
    rw [g0, g1, g2, g3]
    unfold Lib.decodeN
    rw [if_neg (by omega), if_neg (by omega), if_neg (by omega), if_pos ⟨c1, ⟨by omega, c3⟩, ⟨by omega, c4⟩, by omega, c5⟩, if_pos (by omega)]
  · rw [e] at hr
    exact absurd rfl hr
end Go.Proofs.Ytklidannncajiaa.OW

namespace Go.Proofs.Ytklidannncajiaa.OW
open Go.RowKit Go.Proofs.YtklidannncajiaaW.PrintWords Go.Proofs.YtklidannncajiaaW.PrintLast Go.Proofs.YtklidannncajiaaW.PrintMore

def strings_Compare.f (a0 : ByteArray) (a1 : ByteArray) : Option Int := some (Lib.compareBytes a0.data.toList a1.data.toList)
theorem strings_Compare.calls (a0 : ByteArray) (a1 : ByteArray) (r : Int) (w : World) (h : strings_Compare.f a0 a1 = some r) :
    Calls Try.prog 65 #[.string a0, .string a1] w fun e w' => e = .returned (.int .i64 r) ∧ Drawn0 w w' := by
  obtain rfl := Option.some.inj h
  refine (Try.strings_Compare a0 a1 w).mono fun e w' ⟨he, hw⟩ => ?_
  subst hw
  exact ⟨he, Drawn0.refl _⟩
end Go.Proofs.Ytklidannncajiaa.OW
