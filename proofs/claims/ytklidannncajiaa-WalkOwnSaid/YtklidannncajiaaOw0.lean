/- What the row of the law WalkOwn leans on: contracts of functions and plain laws, each for all inputs that its own theorem names. -/
import Derived.Shelf.SlSortCmp.NoneTotal
import Derived.Shelf.SlGeneric
import Derived.Ground.SlsfProg
import Derived.Test.YtklidannncajiaaProg
import Derived.Shelf.Strings.Builder1
import Derived.Shelf.Strings.Builder2
import Derived.Shelf.Strings.OnBuilder
import Derived.Shelf.Small.Bits
import Derived.Shelf.Small.Strs
import Derived.Shelf.Small.Wraps
import Derived.Shelf.Strings.BuilderF
import Derived.Shelf.Strings.BuilderK
import Derived.Shelf.Strings.Builder2Cap
import Derived.Shelf.Strconv.Itoa0
import Derived.Shelf.Strings.Prefix
import Derived.Ground.Names2Prog
import Derived.Shelf.Slices.Clone
import Derived.Shelf.Slices.CompactS
import Derived.Shelf.Slices.SearchI
import Derived.Shelf.Slices.Cells
import Derived.Ground.SlgnProg
import Derived.Shelf.SlicesE.Clone
import Derived.Below
import Derived.Deep.Draws
import Derived.Deep.AppendLies
import Derived.Maps.AppendAt
import Derived.OwnWalk
import Derived.Laws.BytesArg
import Derived.Laws.MakeOwn
import Derived.Laws.OwnMore
import Derived.Deep.OwnRows
import Derived.Tactics
import Derived.Lib.ConvBytes
import Derived.Laws.Slices
import Derived.WalkKit
import Derived.KernelRfl
import Derived.RowKit3
import Derived.Deep.LoopGhost
import Derived.Deep.QuietTactic
import Derived.BigQuiet
import Derived.WideLaws
import Derived.Deep.DeepCutAuto
import Derived.Deep.CutBlock
import Derived.Deep.RegionHeld3
import Derived.Laws.Rows
import Derived.Lib.AppendStr
import Derived.ArgAppend
import Derived.Laws.IdiomCopy
import Derived.OrdersHeld
import Derived.Laws.BitsLemmas
import Derived.RowKit
import Derived.WalkSpells
import Derived.Test.YtklidannncajiaaWWords
import Derived.Test.YtklidannncajiaaWLast
import Derived.Test.YtklidannncajiaaWTab
import Derived.Test.YtklidannncajiaaWQPut
import Derived.Test.YtklidannncajiaaWApart
import Derived.Test.YtklidannncajiaaWArr
import Derived.Test.YtklidannncajiaaWZeros
import Derived.Test.YtklidannncajiaaWFoot
import Derived.Test.YtklidannncajiaaWKept
import Derived.Test.YtklidannncajiaaWShare
import Derived.Test.YtklidannncajiaaWN
import Derived.Test.YtklidannncajiaaWEqStruct
import Derived.Test.YtklidannncajiaaWRepsOne
import Derived.Test.YtklidannncajiaaWGuard
import Derived.Test.YtklidannncajiaaWNEv
import Derived.Test.YtklidannncajiaaWMore
import Derived.Laws.RangeAny
import Derived.Lib.MapLaws
namespace Go.Proofs
open Go.Shelf
def Try.sortS_ren : Go.Shelf.Ren := ⟨fun | 6 => 48 | 15 => 71 | 14 => 70 | 28 => 96 | 29 => 97 | 20 => 88 | 21 => 89 | 22 => 90 | 23 => 91 | 24 => 92 | 25 => 93 | 26 => 94 | 27 => 95 | 46 => 107 | 47 => 108 | 48 => 109 | 49 => 110 | 50 => 111 | 57 => 116 | n => n, fun | 22 => 22 | 24 => 9 | 25 => 80 | 3 => 3 | 39 => 79 | 0 => 0 | 53 => 138 | 55 => 140 | 4 => 4 | 46 => 132 | 45 => 131 | 50 => 81 | 5 => 5 | 9 => 9 | 66 => 148 | 70 => 152 | 76 => 159 | 77 => 160 | n => n, fun | n => n⟩
theorem Try.sortS : Go.Proofs.SlLaysF.n6 Try.prog Try.sortS_ren := {
  mixed := by kernel_rfl
  f6 := ⟨Try.f48.name, by decide, Try.func48.trans (congrArg some (by kernel_rfl))⟩
  f14 := ⟨Try.f70.name, by decide, Try.func70.trans (congrArg some (by kernel_rfl))⟩
  f15 := Try.func71.trans (congrArg some (by kernel_rfl))
  f20 := ⟨Try.f88.name, by decide, Try.func88.trans (congrArg some (by kernel_rfl))⟩
  f21 := ⟨Try.f89.name, by decide, Try.func89.trans (congrArg some (by kernel_rfl))⟩
  f22 := ⟨Try.f90.name, by decide, Try.func90.trans (congrArg some (by kernel_rfl))⟩
  f23 := ⟨Try.f91.name, by decide, Try.func91.trans (congrArg some (by kernel_rfl))⟩
  f24 := ⟨Try.f92.name, by decide, Try.func92.trans (congrArg some (by kernel_rfl))⟩
  f25 := ⟨Try.f93.name, by decide, Try.func93.trans (congrArg some (by kernel_rfl))⟩
  f26 := ⟨Try.f94.name, by decide, Try.func94.trans (congrArg some (by kernel_rfl))⟩
  f27 := ⟨Try.f95.name, by decide, Try.func95.trans (congrArg some (by kernel_rfl))⟩
  f28 := Try.func96.trans (congrArg some (by kernel_rfl))
  f29 := Try.func97.trans (congrArg some (by kernel_rfl))
  f46 := ⟨Try.f107.name, by decide, Try.func107.trans (congrArg some (by kernel_rfl))⟩
  f47 := Try.func108.trans (congrArg some (by kernel_rfl))
  f48 := Try.func109.trans (congrArg some (by kernel_rfl))
  f49 := ⟨Try.f110.name, by decide, Try.func110.trans (congrArg some (by kernel_rfl))⟩
  f50 := ⟨Try.f111.name, by decide, Try.func111.trans (congrArg some (by kernel_rfl))⟩
  f57 := ⟨Try.f116.name, by decide, Try.func116.trans (congrArg some (by kernel_rfl))⟩
  t0 := Try.underlying0
  a0 := Try.isAgg0
  z0 := Try.sizeOf0
  v0 := Try.zeroValue0
  t3 := Try.underlying3
  a3 := Try.isAgg3
  z3 := Try.sizeOf3
  v3 := Try.zeroValue3
  t4 := Try.underlying4
  a4 := Try.isAgg4
  z4 := Try.sizeOf4
  v4 := Try.zeroValue4
  t5 := Try.underlying5
  a5 := Try.isAgg5
  z5 := Try.sizeOf5
  v5 := Try.zeroValue5
  t9 := Try.underlying9
  a9 := Try.isAgg9
  z9 := Try.sizeOf9
  v9 := Try.zeroValue9
  t22 := Try.underlying22
  a22 := Try.isAgg22
  z22 := Try.sizeOf22
  v22 := Try.zeroValue22
  a24 := Try.isAgg9
  z24 := Try.sizeOf9
  t25 := Try.underlying80
  a25 := Try.isAgg80
  z25 := Try.sizeOf80
  v25 := Try.zeroValue80
  t39 := Try.underlying79
  a39 := Try.isAgg79
  z39 := Try.sizeOf79
  v39 := Try.zeroValue79
  t45 := Try.underlying131
  a45 := Try.isAgg131
  z45 := Try.sizeOf131
  v45 := Try.zeroValue131
  t46 := Try.underlying132
  a46 := Try.isAgg132
  z46 := Try.sizeOf132
  v46 := Try.zeroValue132
  t50 := Try.underlying81
  a50 := Try.isAgg81
  z50 := Try.sizeOf81
  v50 := Try.zeroValue81
  t53 := Try.underlying138
  a53 := Try.isAgg138
  z53 := Try.sizeOf138
  v53 := Try.zeroValue138
  t55 := Try.underlying140
  a55 := Try.isAgg140
  z55 := Try.sizeOf140
  v55 := Try.zeroValue140
  t66 := Try.underlying148
  a66 := Try.isAgg148
  z66 := Try.sizeOf148
  v66 := Try.zeroValue148
  t70 := Try.underlying152
  a70 := Try.isAgg152
  z70 := Try.sizeOf152
  v70 := Try.zeroValue152
  t76 := Try.underlying159
  a76 := Try.isAgg159
  z76 := Try.sizeOf159
  v76 := Try.zeroValue159
  t77 := Try.underlying160
  a77 := Try.isAgg160
  z77 := Try.sizeOf160
  v77 := Try.zeroValue160 }
end Go.Proofs

namespace Go.Proofs
open Go.Shelf
def Try.lays156_ren : Go.Shelf.Ren := ⟨fun | 156 => 50 | 165 => 72 | 166 => 73 | 169 => 74 | 240 => 98 | 241 => 99 | 276 => 112 | 277 => 113 | n => n, fun | 31 => 22 | 9 => 9 | 3 => 3 | 4 => 4 | 0 => 0 | 20 => 20 | 72 => 113 | 76 => 117 | 70 => 110 | 37 => 111 | 75 => 116 | 127 => 141 | 164 => 154 | 5 => 5 | 80 => 119 | n => n, fun | n => n⟩
theorem Try.lays156 : Go.Proofs.Lays.n156 Try.prog Try.lays156_ren := {
  mixed := by kernel_rfl
  f156 := Try.func50.trans (congrArg some (by kernel_rfl))
  f165 := Try.func72.trans (congrArg some (by kernel_rfl))
  f166 := Try.func73.trans (congrArg some (by kernel_rfl))
  f169 := Try.func74.trans (congrArg some (by kernel_rfl))
  f240 := Try.func98.trans (congrArg some (by kernel_rfl))
  f241 := Try.func99.trans (congrArg some (by kernel_rfl))
  f276 := Try.func112.trans (congrArg some (by kernel_rfl))
  f277 := Try.func113.trans (congrArg some (by kernel_rfl))
  t0 := Try.underlying0
  a0 := Try.isAgg0
  z0 := Try.sizeOf0
  v0 := Try.zeroValue0
  t3 := Try.underlying3
  a3 := Try.isAgg3
  z3 := Try.sizeOf3
  v3 := Try.zeroValue3
  t4 := Try.underlying4
  a4 := Try.isAgg4
  z4 := Try.sizeOf4
  v4 := Try.zeroValue4
  t9 := Try.underlying9
  a9 := Try.isAgg9
  z9 := Try.sizeOf9
  v9 := Try.zeroValue9
  t20 := Try.underlying20
  a20 := Try.isAgg20
  z20 := Try.sizeOf20
  v20 := Try.zeroValue20
  t31 := Try.underlying22
  a31 := Try.isAgg22
  z31 := Try.sizeOf22
  v31 := Try.zeroValue22
  t37 := Try.underlying111
  a37 := Try.isAgg111
  z37 := Try.sizeOf111
  v37 := Try.zeroValue111
  t70 := Try.underlying110
  a70 := Try.isAgg110
  z70 := Try.sizeOf110
  v70 := Try.zeroValue110
  t72 := Try.underlying113
  a72 := Try.isAgg113
  z72 := Try.sizeOf113
  v72 := Try.zeroValue113
  t75 := Try.underlying116
  a75 := Try.isAgg116
  z75 := Try.sizeOf116
  v75 := Try.zeroValue116
  t76 := Try.underlying117
  a76 := Try.isAgg117
  z76 := Try.sizeOf117
  v76 := Try.zeroValue117
  t127 := Try.underlying141
  a127 := Try.isAgg141
  z127 := Try.sizeOf141
  v127 := Try.zeroValue141
  t164 := Try.underlying154
  a164 := Try.isAgg154
  z164 := Try.sizeOf154
  v164 := Try.zeroValue154 }
theorem Try.Builder_Extra_156 : Builder.Extra Try.prog Try.lays156_ren := {
  sizeBuilder := by kernel_rfl
  liesBuilder := by kernel_rfl
  t5 := Try.underlying5
  a5 := Try.isAgg5
  z5 := Try.sizeOf5
  v5 := Try.zeroValue5
  infoByte := by kernel_rfl
  cellsByte := by kernel_rfl
  sizeByte := by kernel_rfl
  neB5 := by decide }
open Go.RowKit in
/-- strings.Join: "Join concatenates the elements of its first argument to create a single string. The separator string sep is placed between elements in the resulting string.": HOWEVER MANY ELEMENTS. Below the heap's end the world is as it was. (LAID: no walk: one application.) -/
theorem Try.strings_Join (bk o c : Nat) (xs : List ByteArray) (sep : ByteArray) (w : World) (hcells : ∀ (j : Nat) x, xs[j]? = some x → w.cell? ⟨bk, o + j, none⟩ = some (.string x)) (hbk : bk < w.heap.size) (hN : xs.length ≤ 140737488355328) (hcap : xs.length ≤ c) (hlen : (Lib.join (xs.map (·.data.toList)) sep.data.toList).length ≤ 140737488355328) :
    Calls Try.prog 50 #[.slice (some ⟨bk, o, none⟩) xs.length c, .string sep] w fun e w' => e = .returned (.string ⟨(Lib.join (xs.map (·.data.toList)) sep.data.toList).toArray⟩) ∧ Below w.heap.size w w' := Any.strings_Join Try.lays156 Try.Builder_Extra_156 bk o c xs sep w hcells hbk hN hcap hlen
def Try.lays128_ren : Go.Shelf.Ren := ⟨fun | 128 => 96 | n => n, fun | 51 => 138 | 3 => 3 | 4 => 4 | 46 => 79 | 5 => 5 | 9 => 9 | n => n, fun | n => n⟩
theorem Try.lays128 : Go.Proofs.Lays.n128 Try.prog Try.lays128_ren := {
  mixed := by kernel_rfl
  f128 := Try.func96.trans (congrArg some (by kernel_rfl))
  t3 := Try.underlying3
  a3 := Try.isAgg3
  z3 := Try.sizeOf3
  v3 := Try.zeroValue3
  t4 := Try.underlying4
  a4 := Try.isAgg4
  z4 := Try.sizeOf4
  v4 := Try.zeroValue4
  t5 := Try.underlying5
  a5 := Try.isAgg5
  z5 := Try.sizeOf5
  v5 := Try.zeroValue5
  t9 := Try.underlying9
  a9 := Try.isAgg9
  z9 := Try.sizeOf9
  v9 := Try.zeroValue9
  t46 := Try.underlying79
  a46 := Try.isAgg79
  z46 := Try.sizeOf79
  v46 := Try.zeroValue79
  t51 := Try.underlying138
  a51 := Try.isAgg138
  z51 := Try.sizeOf138
  v51 := Try.zeroValue138 }
/-- bits.Len32: "Len32 returns the minimum number of bits required to represent x; the result is 0 for x == 0.": IT RETURNS 'Lib.bitLen x'; the world is as it was. ('h0', 'h1': x is a uint32.) (LAID: no walk: one application.) -/
theorem Try.bits_Len32 (x : Int) (w : World) (h0 : 0 ≤ x) (h1 : x ≤ 4294967295) :
    Calls Try.prog 96 #[.int .u32 x] w fun e w' => e = .returned (.int .i64 (Lib.bitLen x.toNat)) ∧ w' = w := Any.bits_Len32 Try.lays128 x w h0 h1
def Try.lays125_ren : Go.Shelf.Ren := ⟨fun | 125 => 71 | 128 => 96 | 129 => 97 | n => n, fun | 46 => 79 | 3 => 3 | 51 => 138 | 53 => 140 | 4 => 4 | 5 => 5 | 9 => 9 | n => n, fun | n => n⟩
theorem Try.lays125 : Go.Proofs.Lays.n125 Try.prog Try.lays125_ren := {
  mixed := by kernel_rfl
  f125 := Try.func71.trans (congrArg some (by kernel_rfl))
  f128 := Try.func96.trans (congrArg some (by kernel_rfl))
  f129 := Try.func97.trans (congrArg some (by kernel_rfl))
  t3 := Try.underlying3
  a3 := Try.isAgg3
  z3 := Try.sizeOf3
  v3 := Try.zeroValue3
  t4 := Try.underlying4
  a4 := Try.isAgg4
  z4 := Try.sizeOf4
  v4 := Try.zeroValue4
  t5 := Try.underlying5
  a5 := Try.isAgg5
  z5 := Try.sizeOf5
  v5 := Try.zeroValue5
  t9 := Try.underlying9
  a9 := Try.isAgg9
  z9 := Try.sizeOf9
  v9 := Try.zeroValue9
  t46 := Try.underlying79
  a46 := Try.isAgg79
  z46 := Try.sizeOf79
  v46 := Try.zeroValue79
  t51 := Try.underlying138
  a51 := Try.isAgg138
  z51 := Try.sizeOf138
  v51 := Try.zeroValue138
  t53 := Try.underlying140
  a53 := Try.isAgg140
  z53 := Try.sizeOf140
  v53 := Try.zeroValue140 }
/-- bits.Len: "Len returns the minimum number of bits required to represent x; the result is 0 for x == 0.": IT RETURNS 'Lib.bitLen x'; the world is as it was. (A uint has 64 bits in the model.) ITS CALLEE bits.Len64 IS MET BY ITS OWN CONTRACT OFF THE SHELF (lay that first). (LAID: no walk: one application.) -/
theorem Try.bits_Len (x : Int) (w : World) (h0 : 0 ≤ x) (h1 : x ≤ 18446744073709551615) :
    Calls Try.prog 71 #[.int .u64 x] w fun e w' => e = .returned (.int .i64 (Lib.bitLen x.toNat)) ∧ w' = w := Any.bits_Len Try.lays125 x w h0 h1
def Try.lays213_ren : Go.Shelf.Ren := ⟨fun | 213 => 86 | 265 => 104 | n => n, fun | 9 => 9 | 3 => 3 | n => n, fun | n => n⟩
theorem Try.lays213 : Go.Proofs.Lays.n213 Try.prog Try.lays213_ren := {
  mixed := by kernel_rfl
  f213 := Try.func86.trans (congrArg some (by kernel_rfl))
  f265 := Try.func104.trans (congrArg some (by kernel_rfl))
  t3 := Try.underlying3
  a3 := Try.isAgg3
  z3 := Try.sizeOf3
  v3 := Try.zeroValue3
  t9 := Try.underlying9
  a9 := Try.isAgg9
  z9 := Try.sizeOf9
  v9 := Try.zeroValue9 }
open Go.RowKit in
/-- internal/bytealg.CompareString (what strings.Compare calls): IT RETURNS 'Lib.compareBytes a b'; the world is as it was. (LAID: no walk: one application.) -/
theorem Try.bytealg_CompareString (a b : ByteArray) (w : World) :
    Calls Try.prog 86 #[.string a, .string b] w fun e w' => e = .returned (.int .i64 (Lib.compareBytes a.data.toList b.data.toList)) ∧ w' = w := Any.bytealg_CompareString Try.lays213 a b w
def Try.lays106_ren : Go.Shelf.Ren := ⟨fun | 106 => 65 | 213 => 86 | 265 => 104 | n => n, fun | 9 => 9 | 3 => 3 | n => n, fun | n => n⟩
theorem Try.lays106 : Go.Proofs.Lays.n106 Try.prog Try.lays106_ren := {
  mixed := by kernel_rfl
  f106 := Try.func65.trans (congrArg some (by kernel_rfl))
  f213 := Try.func86.trans (congrArg some (by kernel_rfl))
  f265 := Try.func104.trans (congrArg some (by kernel_rfl))
  t3 := Try.underlying3
  a3 := Try.isAgg3
  z3 := Try.sizeOf3
  v3 := Try.zeroValue3
  t9 := Try.underlying9
  a9 := Try.isAgg9
  z9 := Try.sizeOf9
  v9 := Try.zeroValue9 }
open Go.RowKit in
/-- strings.Compare: "Compare returns an integer comparing two strings lexicographically. The result will be 0 if a == b, -1 if a < b, and +1 if a > b.": IT RETURNS 'Lib.compareBytes a b'; the world is as it was. (LAID: no walk: one application.) -/
theorem Try.strings_Compare (a b : ByteArray) (w : World) :
    Calls Try.prog 65 #[.string a, .string b] w fun e w' => e = .returned (.int .i64 (Lib.compareBytes a.data.toList b.data.toList)) ∧ w' = w := Any.strings_Compare Try.lays106 a b w
def Try.lays215_ren : Go.Shelf.Ren := ⟨fun | 215 => 100 | n => n, fun | 3 => 3 | 4 => 4 | n => n, fun | n => n⟩
theorem Try.lays215 : Go.Proofs.Lays.n215 Try.prog Try.lays215_ren := {
  mixed := by kernel_rfl
  f215 := Try.func100.trans (congrArg some (by kernel_rfl))
  t3 := Try.underlying3
  a3 := Try.isAgg3
  z3 := Try.sizeOf3
  v3 := Try.zeroValue3
  t4 := Try.underlying4
  a4 := Try.isAgg4
  z4 := Try.sizeOf4
  v4 := Try.zeroValue4 }
open Go.RowKit in
/-- cmp.isNaN at int: 'x != x': false. (LAID: no walk: one application.) -/
theorem Try.cmp_isNaN_int (x : Int) (w : World) :
    Calls Try.prog 100 #[.int .i64 x] w fun e w' => e = .returned (.bool false) ∧ w' = w := Any.cmp_isNaN_int Try.lays215 x w
def Try.lays122_ren : Go.Shelf.Ren := ⟨fun | 122 => 83 | 215 => 100 | n => n, fun | 3 => 3 | 4 => 4 | n => n, fun | n => n⟩
theorem Try.lays122 : Go.Proofs.Lays.n122 Try.prog Try.lays122_ren := {
  mixed := by kernel_rfl
  f122 := Try.func83.trans (congrArg some (by kernel_rfl))
  f215 := Try.func100.trans (congrArg some (by kernel_rfl))
  t3 := Try.underlying3
  a3 := Try.isAgg3
  z3 := Try.sizeOf3
  v3 := Try.zeroValue3
  t4 := Try.underlying4
  a4 := Try.isAgg4
  z4 := Try.sizeOf4
  v4 := Try.zeroValue4 }
open Go.RowKit in
/-- cmp.Compare at int: "Compare returns -1 if x is less than y, 0 if x equals y, +1 if x is greater than y.": IT RETURNS 'Lib.compareInt x y'; the world is as it was. (LAID: no walk: one application.) -/
theorem Try.cmp_Compare_int (x y : Int) (w : World) :
    Calls Try.prog 83 #[.int .i64 x, .int .i64 y] w fun e w' => e = .returned (.int .i64 (Lib.compareInt x y)) ∧ w' = w := Any.cmp_Compare_int Try.lays122 x y w
def Try.lays129_ren : Go.Shelf.Ren := ⟨fun | 129 => 97 | n => n, fun | 53 => 140 | 3 => 3 | 4 => 4 | 46 => 79 | 5 => 5 | 9 => 9 | n => n, fun | n => n⟩
theorem Try.lays129 : Go.Proofs.Lays.n129 Try.prog Try.lays129_ren := {
  mixed := by kernel_rfl
  f129 := Try.func97.trans (congrArg some (by kernel_rfl))
  t3 := Try.underlying3
  a3 := Try.isAgg3
  z3 := Try.sizeOf3
  v3 := Try.zeroValue3
  t4 := Try.underlying4
  a4 := Try.isAgg4
  z4 := Try.sizeOf4
  v4 := Try.zeroValue4
  t5 := Try.underlying5
  a5 := Try.isAgg5
  z5 := Try.sizeOf5
  v5 := Try.zeroValue5
  t9 := Try.underlying9
  a9 := Try.isAgg9
  z9 := Try.sizeOf9
  v9 := Try.zeroValue9
  t46 := Try.underlying79
  a46 := Try.isAgg79
  z46 := Try.sizeOf79
  v46 := Try.zeroValue79
  t53 := Try.underlying140
  a53 := Try.isAgg140
  z53 := Try.sizeOf140
  v53 := Try.zeroValue140 }
/-- bits.Len64: "Len64 returns the minimum number of bits required to represent x; the result is 0 for x == 0.": IT RETURNS 'Lib.bitLen x'; the world is as it was. ('h0', 'h1': x is a uint64.) (LAID: no walk: one application.) -/
theorem Try.bits_Len64 (x : Int) (w : World) (h0 : 0 ≤ x) (h1 : x ≤ 18446744073709551615) :
    Calls Try.prog 97 #[.int .u64 x] w fun e w' => e = .returned (.int .i64 (Lib.bitLen x.toNat)) ∧ w' = w := Any.bits_Len64 Try.lays129 x w h0 h1
def Try.lays206_ren : Go.Shelf.Ren := ⟨fun | 206 => 75 | n => n, fun | 9 => 9 | 4 => 4 | 3 => 3 | n => n, fun | n => n⟩
theorem Try.lays206 : Go.Proofs.Lays.n206 Try.prog Try.lays206_ren := {
  mixed := by kernel_rfl
  f206 := Try.func75.trans (congrArg some (by kernel_rfl))
  t3 := Try.underlying3
  a3 := Try.isAgg3
  z3 := Try.sizeOf3
  v3 := Try.zeroValue3
  t4 := Try.underlying4
  a4 := Try.isAgg4
  z4 := Try.sizeOf4
  v4 := Try.zeroValue4
  t9 := Try.underlying9
  a9 := Try.isAgg9
  z9 := Try.sizeOf9
  v9 := Try.zeroValue9 }
open Go.RowKit Go.Lib in
/-- internal/stringslite.HasPrefix (what strings.HasPrefix calls). (LAID: no walk: one application.) -/
theorem Try.stringslite_HasPrefix (s p : ByteArray) (w : World) :
    Calls Try.prog 75 #[.string s, .string p] w fun e w' => e = .returned (.bool (Lib.hasPrefix s.data.toList p.data.toList)) ∧ w' = w := Any.stringslite_HasPrefix Try.lays206 s p w
def Try.lays99_ren : Go.Shelf.Ren := ⟨fun | 99 => 52 | 206 => 75 | n => n, fun | 9 => 9 | 4 => 4 | 3 => 3 | n => n, fun | n => n⟩
theorem Try.lays99 : Go.Proofs.Lays.n99 Try.prog Try.lays99_ren := {
  mixed := by kernel_rfl
  f99 := Try.func52.trans (congrArg some (by kernel_rfl))
  f206 := Try.func75.trans (congrArg some (by kernel_rfl))
  t3 := Try.underlying3
  a3 := Try.isAgg3
  z3 := Try.sizeOf3
  v3 := Try.zeroValue3
  t4 := Try.underlying4
  a4 := Try.isAgg4
  z4 := Try.sizeOf4
  v4 := Try.zeroValue4
  t9 := Try.underlying9
  a9 := Try.isAgg9
  z9 := Try.sizeOf9
  v9 := Try.zeroValue9 }
open Go.RowKit Go.Lib in
/-- strings.HasPrefix: "HasPrefix reports whether the string s begins with prefix.": IT RETURNS 'Lib.hasPrefix s prefix'; the world is as it was. (LAID: no walk: one application.) -/
theorem Try.strings_HasPrefix (s p : ByteArray) (w : World) :
    Calls Try.prog 52 #[.string s, .string p] w fun e w' => e = .returned (.bool (Lib.hasPrefix s.data.toList p.data.toList)) ∧ w' = w := Any.strings_HasPrefix Try.lays99 s p w
def Try.lays194_ren : Go.Shelf.Ren := ⟨fun | 194 => 49 | n => n, fun | 31 => 22 | 9 => 9 | 3 => 3 | 4 => 4 | 0 => 0 | n => n, fun | n => n⟩
theorem Try.lays194 : Go.Proofs.Lays.n194 Try.prog Try.lays194_ren := {
  mixed := by kernel_rfl
  f194 := Try.func49.trans (congrArg some (by kernel_rfl))
  t0 := Try.underlying0
  a0 := Try.isAgg0
  z0 := Try.sizeOf0
  v0 := Try.zeroValue0
  t3 := Try.underlying3
  a3 := Try.isAgg3
  z3 := Try.sizeOf3
  v3 := Try.zeroValue3
  t4 := Try.underlying4
  a4 := Try.isAgg4
  z4 := Try.sizeOf4
  v4 := Try.zeroValue4
  t9 := Try.underlying9
  a9 := Try.isAgg9
  z9 := Try.sizeOf9
  v9 := Try.zeroValue9
  t31 := Try.underlying22
  a31 := Try.isAgg22
  z31 := Try.sizeOf22
  v31 := Try.zeroValue22 }
open Go.RowKit Go.Lib Go.Sort in
/-- slices.Compact at []string: "Compact replaces consecutive runs of equal elements with a single copy. This is like the uniq command found on Unix. Compact modifies the contents of the slice s and returns the modified slice, which may have a smaller length. Compact zeroes the elements between the new length and the original length. The result preserves the nilness of s.": IT RETURNS THE SLICE CUT TO 'Lib.compact zs'; ITS CELLS HOLD 'Lib.compact zs', THEN ZERO VALUES up to the old length; all else is as it was, but for the count of draws. IN THE WORDS OF slices.Sort's CONTRACT ('Holds', 'putRow'): so the everyday 'slices.Sort(xs); xs = slices.Compact(xs)' goes from the one contract to the other. It asks 'zs.length ≤ cap' (every slice's: the reslicing 's[:k]' looks at it). Length 0, nil: '.._empty'. (LAID: no walk: one application.) -/
theorem Try.slices_Compact_string (blk off cap : Nat) (zs : List (List UInt8)) (w : World) (hH : Holds encStr w blk off zs.toArray) (hsz : zs.length ≤ 9223372036854775807) (hcap : zs.length ≤ cap) :
    Calls Try.prog 49 #[.slice (some ⟨blk, off, none⟩) zs.length cap] w fun e w' => e = .returned (.slice (some ⟨blk, off, none⟩) (Lib.compact zs).length cap) ∧ ∃ q, w' = putRow encStr (Sort.ahead w q) blk off (Lib.compact zs ++ List.replicate (zs.length - (Lib.compact zs).length) []).toArray := Any.slices_Compact_string Try.lays194 blk off cap zs w hH hsz hcap
open Go.RowKit Go.Lib Go.Sort in
/-- The same at a slice of length 0, a nil one too: it comes back as it is. (LAID: no walk: one application.) -/
theorem Try.slices_Compact_string_empty (a : Option Addr) (cap : Nat) (w : World) :
    Calls Try.prog 49 #[.slice a 0 cap] w fun e w' => e = .returned (.slice a 0 cap) ∧ w' = w := Any.slices_Compact_string_empty Try.lays194 a cap w
end Go.Proofs

-- Laid by a program of this session (wip/ownprint.py, wip/hooks.py) over the seat's translation. Lean checks it.
namespace Go.Proofs.Ytklidannncajiaa.OW
open Go.RowKit Go.Proofs.YtklidannncajiaaW.PrintWords Go.Proofs.YtklidannncajiaaW.PrintLast Go.Proofs.YtklidannncajiaaW.PrintMore
attribute [local go_sem] max2_int min2_int max_two min_two max_three min_three max_four min_four   -- for this text's walks alone
set_option linter.unusedVariables false
set_option linter.unusedSimpArgs false



def errW : Option Int → Value
  | none => .nilIface
  | some c => .iface 0 (.int .i64 c)
theorem errW_none : errW none = .nilIface := rfl
theorem errW_some (c : Int) : errW (some c) = .iface 0 (.int .i64 c) := rfl

theorem info3 : (Try.prog.info? 3).map (fun i => (i.zero, i.size, i.bytes)) = some (some (.int .i64 0), 1, 8) := by kernel_rfl
theorem info9 : (Try.prog.info? 9).map (fun i => (i.zero, i.size, i.bytes)) = some (some (.string ⟨#[]⟩), 1, 16) := by kernel_rfl
theorem info21 : (Try.prog.info? 21).map (fun i => (i.zero, i.size, i.bytes)) = some (some (.int .i32 0), 1, 4) := by kernel_rfl
theorem info24 : (Try.prog.info? 24).map (fun i => (i.zero, i.size, i.bytes)) = some (some (.agg #[(.int .i64 0), (.string ⟨#[]⟩)]), 2, 24) := by kernel_rfl
theorem info72 : (Try.prog.info? 72).map (fun i => (i.zero, i.size, i.bytes)) = some (some (.agg #[(.bool false), (.slice none 0 0)]), 2, 32) := by kernel_rfl
theorem info91 : (Try.prog.info? 91).map (fun i => (i.zero, i.size, i.bytes)) = some (some (.agg #[(.int .i32 0), (.int .i64 0)]), 2, 16) := by kernel_rfl
theorem info96 : (Try.prog.info? 96).map (fun i => (i.zero, i.size, i.bytes)) = some (some (.agg #[(.int .i64 0), (.slice none 0 0), (.string ⟨#[]⟩)]), 3, 48) := by kernel_rfl
theorem info121 : (Try.prog.info? 121).map (fun i => (i.zero, i.size, i.bytes)) = some (some (.agg #[(.int .i64 0), (.int .i64 0)]), 2, 16) := by kernel_rfl
-- the values' own types
/-! #### struct type 121 -/
structure S121 where
  f0 : Int
  f1 : Int
def z121 : S121 := ⟨(0 : Int), (0 : Int)⟩
def k121 : Kd S121 := Kd.iso (Kd.pair (Kd.int .i64) (Kd.int .i64)) (fun x : S121 => (x.f0, x.f1))
theorem k121_open {w : World} {x : S121} {cs : List Value} (h : k121.K w x cs) : cs = [.int .i64 x.f0, .int .i64 x.f1] := by
  obtain ⟨_, _, rfl, rfl, rfl⟩ := h
  exact rfl
theorem k121_mkM (w : World) (base : Nat) (ok : Nat → Prop) (x : S121)  : k121.M w base ok x [.int .i64 x.f0, .int .i64 x.f1] := ⟨[.int .i64 x.f0], [.int .i64 x.f1], rfl, rfl, rfl⟩
def rd_T121 (xs : List S121) (i : Int) : S121 := xs.getD i.toNat z121
theorem at_T121 {w : World} {A : Option Addr} {n : Nat} {xs : List S121} (h : Kd.C k121 w A n xs) (i : Int) (h0 : 0 ≤ i) (h1 : i < n) : ∃ ad , A = some ad ∧ w.cell? (ad.add (i.toNat * 2)) = some (.int .i64 (rd_T121 xs i).f0) ∧ w.cell? ⟨(ad.add (i.toNat * 2)).block, (ad.add (i.toNat * 2)).off + 1, none⟩ = some (.int .i64 (rd_T121 xs i).f1) := by
  obtain ⟨ad, c, e, _, hK, hc0⟩ := Kd.C_get h z121 i h0 h1
  have hc : ∀ j u, c[j]? = some u → w.cell? (ad.add (i.toNat * 2 + j)) = some u := hc0
  obtain rfl := k121_open hK
  exact ⟨ad, e, hc 0 _ rfl, by rw [← add_field _ _ 1 (by omega)]; exact hc 1 _ rfl⟩

/-! #### struct type 91 -/
structure S91 where
  f0 : Int
  f1 : Int
def z91 : S91 := ⟨(0 : Int), (0 : Int)⟩
def k91 : Kd S91 := Kd.iso (Kd.pair (Kd.int .i32) (Kd.int .i64)) (fun x : S91 => (x.f0, x.f1))
theorem k91_open {w : World} {x : S91} {cs : List Value} (h : k91.K w x cs) : cs = [.int .i32 x.f0, .int .i64 x.f1] := by
  obtain ⟨_, _, rfl, rfl, rfl⟩ := h
  exact rfl
theorem k91_openM {w : World} {base : Nat} {ok : Nat → Prop} {x : S91} {cs : List Value} (h : k91.M w base ok x cs) : cs = [.int .i32 x.f0, .int .i64 x.f1] := by
  obtain ⟨_, _, rfl, rfl, rfl⟩ := h
  exact rfl
theorem k91_mkM (w : World) (base : Nat) (ok : Nat → Prop) (x : S91)  : k91.M w base ok x [.int .i32 x.f0, .int .i64 x.f1] := ⟨[.int .i32 x.f0], [.int .i64 x.f1], rfl, rfl, rfl⟩
def rd_T91 (xs : List S91) (i : Int) : S91 := xs.getD i.toNat z91
/-! #### struct type 72 -/
structure S72 where
  f0 : Bool
  f1 : (List S91)
def z72 : S72 := ⟨false, ([] : List S91)⟩
def k72 : Kd S72 := Kd.iso (Kd.pair Kd.bool (Kd.slice 91 k91)) (fun x : S72 => (x.f0, x.f1))
theorem k72_open {w : World} {x : S72} {cs : List Value} (h : k72.K w x cs) : ∃ A1 c1, cs = [.bool x.f0, .slice A1 x.f1.length c1] ∧ x.f1.length ≤ c1 ∧ k91.C w A1 x.f1.length x.f1 := by
  obtain ⟨_, _, rfl, rfl, ⟨A1, c1, rfl, l1, g1⟩⟩ := h
  exact ⟨A1, c1, rfl, l1, g1⟩
theorem k72_openM {w : World} {base : Nat} {ok : Nat → Prop} {x : S72} {cs : List Value} (h : k72.M w base ok x cs) : ∃ v1, cs = [.bool x.f0, v1] ∧ k91.R 91 w base ok v1 x.f1 := by
  obtain ⟨_, _, rfl, rfl, ⟨v1, rfl, g1⟩⟩ := h
  exact ⟨v1, rfl, g1⟩
theorem k72_mkM (w : World) (base : Nat) (ok : Nat → Prop) (x : S72) {v1 : Value} (g1 : k91.R 91 w base ok v1 x.f1) : k72.M w base ok x [.bool x.f0, v1] := ⟨[.bool x.f0], [v1], rfl, rfl, ⟨v1, rfl, g1⟩⟩
def rd_T72 (xs : List S72) (i : Int) : S72 := xs.getD i.toNat z72
theorem at_T72 {w : World} {A : Option Addr} {n : Nat} {xs : List S72} (h : Kd.C k72 w A n xs) (i : Int) (h0 : 0 ≤ i) (h1 : i < n) : ∃ ad A1 c1, A = some ad ∧ w.cell? (ad.add (i.toNat * 2)) = some (.bool (rd_T72 xs i).f0) ∧ w.cell? ⟨(ad.add (i.toNat * 2)).block, (ad.add (i.toNat * 2)).off + 1, none⟩ = some (.slice A1 (rd_T72 xs i).f1.length c1) ∧ (rd_T72 xs i).f1.length ≤ c1 ∧ k91.C w A1 (rd_T72 xs i).f1.length (rd_T72 xs i).f1 := by
  obtain ⟨ad, c, e, _, hK, hc0⟩ := Kd.C_get h z72 i h0 h1
  have hc : ∀ j u, c[j]? = some u → w.cell? (ad.add (i.toNat * 2 + j)) = some u := hc0
  obtain ⟨A1, c1, rfl, l1, g1⟩ := k72_open hK
  exact ⟨ad, A1, c1, e, hc 0 _ rfl, by rw [← add_field _ _ 1 (by omega)]; exact hc 1 _ rfl, l1, g1⟩

/-! #### struct type 96 -/
structure S96 where
  f0 : Int
  f1 : (List S121)
  f2 : ByteArray
def z96 : S96 := ⟨(0 : Int), ([] : List S121), (⟨#[]⟩ : ByteArray)⟩
def k96 : Kd S96 := Kd.iso (Kd.pair (Kd.int .i64) (Kd.pair (Kd.slice 121 k121) Kd.string)) (fun x : S96 => (x.f0, x.f1, x.f2))
theorem k96_openM {w : World} {base : Nat} {ok : Nat → Prop} {x : S96} {cs : List Value} (h : k96.M w base ok x cs) : ∃ v1, cs = [.int .i64 x.f0, v1, .string x.f2] ∧ k121.R 121 w base ok v1 x.f1 := by
  obtain ⟨_, _, rfl, rfl, ⟨_, _, rfl, ⟨v1, rfl, g1⟩, rfl⟩⟩ := h
  exact ⟨v1, rfl, g1⟩
theorem k96_mkM (w : World) (base : Nat) (ok : Nat → Prop) (x : S96) {v1 : Value} (g1 : k121.R 121 w base ok v1 x.f1) : k96.M w base ok x [.int .i64 x.f0, v1, .string x.f2] := ⟨[.int .i64 x.f0], [v1, .string x.f2], rfl, rfl, ⟨[v1], [.string x.f2], rfl, ⟨v1, rfl, g1⟩, rfl⟩⟩
def rd_T96 (xs : List S96) (i : Int) : S96 := xs.getD i.toNat z96
/-! #### struct type 24 -/
structure S24 where
  f0 : Int
  f1 : ByteArray
def z24 : S24 := ⟨(0 : Int), (⟨#[]⟩ : ByteArray)⟩
def k24 : Kd S24 := Kd.iso (Kd.pair (Kd.int .i64) Kd.string) (fun x : S24 => (x.f0, x.f1))
theorem k24_open {w : World} {x : S24} {cs : List Value} (h : k24.K w x cs) : cs = [.int .i64 x.f0, .string x.f1] := by
  obtain ⟨_, _, rfl, rfl, rfl⟩ := h
  exact rfl
theorem k24_openM {w : World} {base : Nat} {ok : Nat → Prop} {x : S24} {cs : List Value} (h : k24.M w base ok x cs) : cs = [.int .i64 x.f0, .string x.f1] := by
  obtain ⟨_, _, rfl, rfl, rfl⟩ := h
  exact rfl
theorem k24_mkM (w : World) (base : Nat) (ok : Nat → Prop) (x : S24)  : k24.M w base ok x [.int .i64 x.f0, .string x.f1] := ⟨[.int .i64 x.f0], [.string x.f1], rfl, rfl, rfl⟩
def rd_T24 (xs : List S24) (i : Int) : S24 := xs.getD i.toNat z24
theorem at_T24 {w : World} {A : Option Addr} {n : Nat} {xs : List S24} (h : Kd.C k24 w A n xs) (i : Int) (h0 : 0 ≤ i) (h1 : i < n) : ∃ ad , A = some ad ∧ w.cell? (ad.add (i.toNat * 2)) = some (.int .i64 (rd_T24 xs i).f0) ∧ w.cell? ⟨(ad.add (i.toNat * 2)).block, (ad.add (i.toNat * 2)).off + 1, none⟩ = some (.string (rd_T24 xs i).f1) := by
  obtain ⟨ad, c, e, _, hK, hc0⟩ := Kd.C_get h z24 i h0 h1
  have hc : ∀ j u, c[j]? = some u → w.cell? (ad.add (i.toNat * 2 + j)) = some u := hc0
  obtain rfl := k24_open hK
  exact ⟨ad, e, hc 0 _ rfl, by rw [← add_field _ _ 1 (by omega)]; exact hc 1 _ rfl⟩

end Go.Proofs.Ytklidannncajiaa.OW

namespace Go.Proofs.Ytklidannncajiaa.OW
open Go.RowKit Go.Proofs.YtklidannncajiaaW.PrintWords Go.Proofs.YtklidannncajiaaW.PrintLast Go.Proofs.YtklidannncajiaaW.PrintMore

/-- The graph at block g has these nodes. -/
structure GraphAt (w : World) (g : Nat) (ns : List S72) : Prop where
  row : ∃ A c, w.cell? ⟨g, 0, none⟩ = some (.slice A ns.length c) ∧ ns.length ≤ c ∧ Kd.C k72 w A ns.length ns
theorem GraphAt.below {w w1 : World} {g : Nat} {ns : List S72} (h : GraphAt w g ns) (hb : Below w.heap.size w w1) : GraphAt w1 g ns := by
  obtain ⟨A, c, h1, h2, h3⟩ := h.row
  exact ⟨A, c, pw_cell_below hb h1, h2, Kd.C_below h3 hb⟩
set_option maxHeartbeats 1000000 in
set_option maxRecDepth 100000 in
theorem graph_Nodes.calls (g : Nat) (ns : List S72) (w : World) (hG : GraphAt w g ns) :
    Calls Try.prog 33 #[.pointer (some ⟨g, 0, none⟩)] w fun e w' => e = .returned (.int .i64 ns.length) ∧ w' = w := by
  obtain ⟨A, c, h1, h2, h3⟩ := hG.row
  have H3 := Aside0.mk h3
  clear h3 hG
  go_enter Try.func33, Try.ntmps33
  go_wp2
  go_ret
  exact ⟨rfl, rfl⟩
def nodeAt (ns : List S72) (n : Int) : S72 := if 0 ≤ n then rd_T72 ns n else z72
set_option maxHeartbeats 1000000 in
set_option maxRecDepth 100000 in
theorem graph_get.calls (g : Nat) (ns : List S72) (n : Int) (w : World) (hG : GraphAt w g ns) :
    Calls Try.prog 78 #[.pointer (some ⟨g, 0, none⟩), .int .i64 n] w fun e w' => ∃ A c, e = .returned (.agg #[.bool (nodeAt ns n).f0, .slice A (nodeAt ns n).f1.length c]) ∧ (nodeAt ns n).f1.length ≤ c ∧ Kd.C k91 w' A (nodeAt ns n).f1.length (nodeAt ns n).f1 ∧ Below w.heap.size w w' := by
  obtain ⟨A, c, h1, h2, h3⟩ := hG.row
  have HG := Aside0.mk hG
  have H3 := Aside0.mk h3
  have HB0 := Aside0.mk ((Below.refl w.heap.size w).alloc (Nat.le_refl _) (.cells #[.bool false, .slice none 0 0] 72))
  clear h3 hG
  by_cases hn : 0 ≤ n ∧ n < ns.length
  · obtain ⟨hn0, hn1⟩ := hn
    have e : nodeAt ns n = rd_T72 ns n := if_pos hn0
    rw [e]
    clear e
    obtain ⟨ad, A1, c1, rfl, hx0, hx1, hl1, hC1⟩ := at_T72 H3.out n hn0 hn1
    have HC := Aside0.mk hC1
    have HL := Aside0.mk hl1
    clear hC1 hl1
    have h1' := pw_cell_below HB0.out h1
    have hx0' := pw_cell_below HB0.out hx0
    have hx1' := pw_cell_below HB0.out hx1
    have ne : ad.block ≠ w.heap.size := by
      have := World.block_lt_of_cell? w _ hx0
      rw [add_block] at this
      omega
    clear h1 hx0 hx1
    have d0 : decide (n < 0) = false := decide_eq_false (by omega)
    have d1 : decide ((ns.length : Int) ≤ n) = false := decide_eq_false (by omega)
    go_enter Try.func78, Try.ntmps78
    go_wp2_with ((with_reducible refine gate_callee (f := 33) rfl ?_); (try (refine gate_guard (by rfl) ?_; dsimp only)); refine goesL_ (some 10) rfl rfl Try.func33 (by kernel_rfl) rfl #[.pointer (some ⟨g, 0, none⟩)] rfl (by (try simp only [List.map_toArray, List.map_cons, List.map_nil]); first | done | rfl) ?_; (with_reducible refine (graph_Nodes.calls g ns _ (HG.out.below HB0.out)).mono ?_); rintro e w' ⟨rfl, rfl⟩; refine ⟨_, rfl, ?_⟩)
    exact bodyPost_ret (v := .agg #[.bool (rd_T72 ns n).f0, .slice A1 (rd_T72 ns n).f1.length c1]) (by simp [results, Try.results78, go_sem]) rfl ⟨A1, c1, rfl, HL.out, Kd.C_below HC.out ((Below.refl _ _).alloc (Nat.le_refl _) _), (Below.refl _ _).alloc (Nat.le_refl _) _⟩
  · have e : nodeAt ns n = z72 := by
      unfold nodeAt
      by_cases h0 : 0 ≤ n
      · rw [if_pos h0]
        unfold rd_T72
        rw [List.getD_eq_getElem?_getD, List.getElem?_eq_none (by omega)]
        rfl
      · rw [if_neg h0]
    rw [e]
    clear e
    by_cases h0 : n < 0
    · have d0 : decide (n < 0) = true := decide_eq_true h0
      go_enter Try.func78, Try.ntmps78
      go_wp2
      exact bodyPost_ret (v := .agg #[.bool false, .slice none 0 0]) (by simp [results, Try.results78, go_sem]) rfl ⟨none, 0, rfl, Nat.le_refl _, ⟨rfl, by simp [z72], fun h => absurd h (by simp [z72])⟩, (Below.refl _ _).alloc (Nat.le_refl _) _⟩
    · have d0 : decide (n < 0) = false := decide_eq_false h0
      have d1 : decide ((ns.length : Int) ≤ n) = true := decide_eq_true (by omega)
      go_enter Try.func78, Try.ntmps78
      go_wp2_with ((with_reducible refine gate_callee (f := 33) rfl ?_); (try (refine gate_guard (by rfl) ?_; dsimp only)); refine goesL_ (some 10) rfl rfl Try.func33 (by kernel_rfl) rfl #[.pointer (some ⟨g, 0, none⟩)] rfl (by (try simp only [List.map_toArray, List.map_cons, List.map_nil]); first | done | rfl) ?_; (with_reducible refine (graph_Nodes.calls g ns _ (HG.out.below HB0.out)).mono ?_); rintro e w' ⟨rfl, rfl⟩; refine ⟨_, rfl, ?_⟩)
      exact bodyPost_ret (v := .agg #[.bool false, .slice none 0 0]) (by simp [results, Try.results78, go_sem]) rfl ⟨none, 0, rfl, Nat.le_refl _, ⟨rfl, by simp [z72], fun h => absurd h (by simp [z72])⟩, (Below.refl _ _).alloc (Nat.le_refl _) _⟩
def api_Edge.f (l0 : List S91) : Option (List S91) := if l0.length < 8796093022208 then (some l0) else none
set_option maxHeartbeats 8000000 in
set_option maxRecDepth 100000 in
theorem api_Edge.calls (A0 : Option Addr) (c0 : Nat) (l0 : List S91) (r : List S91) (w : World) (hr0 : Kd.C k91 w A0 l0.length l0) (hc0 : l0.length ≤ c0) (h : api_Edge.f l0 = some r) :
    Calls Try.prog 79 #[.slice A0 l0.length c0] w fun e w' => ∃ v0_ : Value, e = .returned (v0_) ∧ Kd.R k91 91 w' w.heap.size (fun _ => True) v0_ r ∧ Below w.heap.size w w' := by
  have HR0 := Aside0.mk hr0
  have hnil : A0 = none → l0 = [] := by
    intro hA
    cases l0 with
    | nil => rfl
    | cons x xs =>
      obtain ⟨ad, e, _⟩ := hr0.2.2 (by simp)
      rw [hA] at e
      cases e
  clear hr0 hc0
  unfold api_Edge.f at h
  by_cases c : l0.length < 8796093022208
  · rw [if_pos c] at h
    obtain rfl := Option.some.inj h
    clear h
    have C := Aside0.mk c
    clear c
    cases A0 with
    | none =>
      obtain rfl := hnil rfl
      clear hnil
      have kq := fun W : World => Lib.run_eql_slice_nil (P := Try.prog) W 70 91 none 0 c0 0 0 Try.underlying70
      go_enter Try.func79, Try.ntmps79
      go_wp2
      go_ret
      exact ⟨_, rfl, Kd.R_nil _ _ _ _ _, Below.refl _ _⟩
    | some ad =>
      clear hnil
      have kq := fun W : World => Lib.run_eql_slice_nil (P := Try.prog) W 70 91 (some ad) l0.length c0 0 0 Try.underlying70
      go_enter Try.func79, Try.ntmps79
      go_wp2_with (first | ((with_reducible refine gate_dst (N := 5) rfl ?_); refine Kd.R_lit (w0 := w) k91 w.heap.size 91 ?hg (N := 5) ?hd (xs := ([] : List S91)) (inner := []) (ok := fun _ => True) (okp := fun _ => True) ?hr ?hp (fun _ hk => hk) trivial (Below.refl _ _) (Nat.le_refl _) (by simp) ?_; (case hd => rfl); (case hg => rfl); (case hr => first | (go_simp; done) | (go_simp; rfl)); (case hp => exact Reps.none _ _); intro v1 w1 ho1 hb1 _ _; have HO := Aside0.mk ho1; have HB := Aside0.mk hb1; clear ho1 hb1) | ((with_reducible refine gate_dst (N := 7) rfl ?_); refine Kd.R_append_rows (w0 := w) k91 w.heap.size rfl _ _ 70 91 (.agg #[.int .i32 0, .int .i64 0]) 16 rfl Try.underlying70 info91 rfl (by decide) (by decide) _ ([] : List S91) l0 (some ad) l0.length c0 (fun _ => True) (fun _ => False) rfl rfl HO.out (Kd.C_below HR0.out HB.out) (fun x cs hx => by rw [k91_open hx]; exact k91_mkM _ _ _ x) (fun _ hk => hk.elim) (fun _ _ => trivial) HB.out HB.out.size (by have := C.out; simp; omega) ?_; intro v2 w2 ho2 hb2 _ _; have HO2 := Aside0.mk ho2; have HB2 := Aside0.mk hb2; clear ho2 hb2))
      go_ret
      exact ⟨_, rfl, by have h := HO2.out; rwa [List.nil_append] at h, HB2.out⟩
  · rw [if_neg c] at h
    cases h


theorem field72_0 (a b : Value) (W : World) : (Instr.field 72 (.agg #[a, b]) 0).run Try.prog W = .ok a W := by
  have hu72 := Try.underlying72
  simp [Instr.field, run_underlying hu72, asAgg, part, Try.isAgg4]
theorem field72_1 (a b : Value) (W : World) : (Instr.field 72 (.agg #[a, b]) 1).run Try.prog W = .ok b W := by
  have hu72 := Try.underlying72
  simp [Instr.field, run_underlying hu72, asAgg, part, Try.isAgg70]
set_option maxHeartbeats 1000000 in
set_option maxRecDepth 100000 in
theorem graph_Final.calls (g : Nat) (ns : List S72) (n : Int) (w : World) (hG : GraphAt w g ns) :
    Calls Try.prog 56 #[.pointer (some ⟨g, 0, none⟩), .int .i64 n] w fun e w' => e = .returned (.bool (nodeAt ns n).f0) ∧ Below w.heap.size w w' := by
  have HG := Aside0.mk hG
  clear hG
  have kf := field72_0
  go_enter Try.func56, Try.ntmps56
  go_wp2_with ((with_reducible refine gate_callee (f := 78) rfl ?_); refine goesL_ (some 7) rfl rfl Try.func78 (by kernel_rfl) rfl #[.pointer (some ⟨g, 0, none⟩), .int .i64 n] rfl (by (try simp only [List.map_toArray, List.map_cons, List.map_nil]); first | done | rfl) ?_; (with_reducible refine (graph_get.calls g ns n _ HG.out).mono ?_); rintro e w1 ⟨A, c, rfl, hl, hC, hb⟩; refine ⟨_, rfl, ?_⟩; have HB := Aside0.mk hb; clear hl hC hb)
  go_ret
  exact ⟨rfl, HB.out⟩
def graph_Edges.f (ns : List S72) (n : Int) : Option (List S91) := api_Edge.f (nodeAt ns n).f1
set_option maxHeartbeats 1000000 in
set_option maxRecDepth 100000 in
theorem graph_Edges.calls (g : Nat) (ns : List S72) (n : Int) (r : List S91) (w : World) (hG : GraphAt w g ns) (h : graph_Edges.f ns n = some r) :
    Calls Try.prog 57 #[.pointer (some ⟨g, 0, none⟩), .int .i64 n] w fun e w' => ∃ v0_ : Value, e = .returned v0_ ∧ Kd.R k91 91 w' w.heap.size (fun _ => True) v0_ r ∧ Below w.heap.size w w' := by
  have HG := Aside0.mk hG
  have H := Aside0.mk (show api_Edge.f (nodeAt ns n).f1 = some r from h)
  clear hG h
  have kf := field72_1
  go_enter Try.func57, Try.ntmps57
  go_wp2_with (first | ((with_reducible refine gate_callee (f := 78) rfl ?_); refine goesL_ (some 7) rfl rfl Try.func78 (by kernel_rfl) rfl #[.pointer (some ⟨g, 0, none⟩), .int .i64 n] rfl (by (try simp only [List.map_toArray, List.map_cons, List.map_nil]); first | done | rfl) ?_; (with_reducible refine (graph_get.calls g ns n _ HG.out).mono ?_); rintro e w1 ⟨A, c, rfl, hl, hC, hb⟩; refine ⟨_, rfl, ?_⟩; have HB := Aside0.mk hb; have HL := Aside0.mk hl; have HC := Aside0.mk hC; clear hl hC hb) | ((with_reducible refine gate_callee (f := 79) rfl ?_); refine goesL_ (some 9) rfl rfl Try.func79 (by kernel_rfl) rfl #[.slice A (nodeAt ns n).f1.length c] rfl (by (try simp only [List.map_toArray, List.map_cons, List.map_nil]); first | done | rfl) ?_; (with_reducible refine (api_Edge.calls A c _ r _ HC.out HL.out H.out).mono ?_); rintro e w2 ⟨v, rfl, ho, hb⟩; refine ⟨_, rfl, ?_⟩; have HO := Aside0.mk ho; have HB2 := Aside0.mk (below_step HB.out hb); clear ho hb))
  go_ret
  exact ⟨_, rfl, Kd.R_lower HO.out HB.out.size, HB2.out⟩
end Go.Proofs.Ytklidannncajiaa.OW

namespace Go.Proofs.Ytklidannncajiaa.OW
open Go.RowKit Go.Proofs.YtklidannncajiaaW.PrintWords Go.Proofs.YtklidannncajiaaW.PrintLast Go.Proofs.YtklidannncajiaaW.PrintMore

/-- Block k holds cells of type t. -/
def Typed (w : World) (k t : Nat) : Prop := ∃ cells, w.heap[k]? = some (.cells cells t (0, 0))
theorem Typed.det {w : World} {k t t' : Nat} (h : Typed w k t) (h' : Typed w k t') : t = t' := by
  obtain ⟨c, hc⟩ := h
  obtain ⟨c', hc'⟩ := h'
  rw [hc] at hc'
  injection hc' with hc'
  injection hc' with _ h2
theorem Typed.lt {w : World} {k t : Nat} (h : Typed w k t) : k < w.heap.size := by
  obtain ⟨c, hc⟩ := h
  exact (Array.getElem?_eq_some_iff.1 hc).1
/-- Only blocks of which P tells were written (P k t: block k, of type t); others were made. -/
structure KeptBy (P : Nat → Nat → Prop) (w w' : World) : Prop where
  os : w'.os = w.os
  tape : w'.tape = w.tape
  output : w'.output = w.output
  size : w.heap.size ≤ w'.heap.size
  block : ∀ k, k < w.heap.size → (∀ t, Typed w k t → ¬ P k t) → w'.heap[k]? = w.heap[k]?
namespace KeptBy
variable {P P' : Nat → Nat → Prop} {w w1 w2 : World}
theorem refl (P : Nat → Nat → Prop) (w : World) : KeptBy P w w := ⟨rfl, rfl, rfl, Nat.le_refl _, fun _ _ _ => rfl⟩
theorem mono (h : KeptBy P w w1) (hp : ∀ k t, P k t → P' k t) : KeptBy P' w w1 := ⟨h.os, h.tape, h.output, h.size, fun k hk ht => h.block k hk (fun t h1 h2 => ht t h1 (hp k t h2))⟩
theorem trans (h : KeptBy P w w1) (h1 : KeptBy P w1 w2) : KeptBy P w w2 :=
  ⟨h1.os.trans h.os, h1.tape.trans h.tape, h1.output.trans h.output, Nat.le_trans h.size h1.size, fun k hk ht => by
    have e := h.block k hk ht
    exact (h1.block k (Nat.lt_of_lt_of_le hk h.size) (fun t ⟨c, hc⟩ => ht t ⟨c, e ▸ hc⟩)).trans e⟩
theorem of_below (h : Below w.heap.size w w1) : KeptBy P w w1 := ⟨h.os, h.tape, h.output, h.size, fun k hk _ => h.block k hk⟩
theorem of_grown {row : Option Nat} (h : w.grownBy w1 row) (hr : ∀ k, row = some k → ∃ t, Typed w k t ∧ P k t) : KeptBy P w w1 :=
  ⟨h.os, h.tape, h.output, h.size, fun k hk ht => h.block k hk (fun e => by
    obtain ⟨t, h1, h2⟩ := hr k e.symm
    exact ht t h1 h2)⟩
theorem to_below {B : Nat} (h : KeptBy P w w1) (hp : ∀ k t, P k t → B ≤ k) (hB : B ≤ w.heap.size) : Below B w w1 :=
  ⟨h.os, h.tape, h.output, h.size, fun k hk => h.block k (by omega) (fun t _ h2 => by have := hp k t h2; omega)⟩
theorem typed (h : KeptBy P w w1) {k t : Nat} (ht : Typed w k t) (hn : ¬ P k t) : w1.heap[k]? = w.heap[k]? :=
  h.block k ht.lt (fun t' h1 h2 => by rw [h1.det ht] at h2; exact hn h2)
theorem cell (h : KeptBy P w w1) {a : Addr} {v : Value} (hc : w.cell? a = some v) (hn : ∀ t, Typed w a.block t → ¬ P a.block t) : w1.cell? a = some v := by
  have := h.block a.block (World.block_lt_of_cell? w a hc) hn
  simpa [World.cell?, this] using hc
theorem row {α : Type} {d : Kd α} {e base : Nat} {v : Value} {xs : List α} {ok : Nat → Prop} (h : KeptBy P w w1) (ho : d.R e w base ok v xs) (hn : ∀ k t, t ∈ e :: d.E → base ≤ k → ¬ P k t) : d.R e w1 base ok v xs :=
  Kd.R_mono (Kd.R_step (Kd.R_bound ho) (fun k hk hlt => by
    obtain ⟨_, h1, h2, q, hq, hc⟩ := hk
    exact h.typed hc (hn k q hq h1))) (fun _ hk => hk.1)
theorem setCell (w : World) {a : Addr} {t : Nat} (ht : Typed w a.block t) (hp : P a.block t) (v : Value) : KeptBy P w (w.setCell a v) :=
  ⟨rfl, rfl, rfl, by simp [World.setCell], fun k hk hn => Below.heap_setCell w a v k (fun e => by subst e; exact hn t ht hp)⟩
end KeptBy
section
variable {P : Program} {ops : Array Oper} {Q : Exit → Act → World → Prop}
/-- A call of a function value: its captured pointers behind its arguments. -/
theorem goesV_ {rest : List Oper} {oi : Oper} {a : Act} {w : World} (N : Option Tmp) (hd : oi.dst = N) (hg : oi.guard = none) {f : FuncId} {fn : Func} {c : Operand} {ops_ : Array Operand} {ts : Array TypeId} {cap : Array Value} (hf : P.funcs[f]? = some fn) (hname : (fn.name == "runtime.NumGoroutine") = false) (hb : fn.body.isSome = true) (args : Array Value)
    (hop : oi.op = .call { callee := .value c, args := ops_, argTypes := ts }) (hc : a.eval c = .func (.func f) #[] cap) (hargs : ops_.map a.eval ++ cap = args)
    (h : Calls P f args w fun e w' => ∃ v, e = .returned v ∧ wpList P ops Q rest (a.put N v) w') : wpList P ops Q (oi :: rest) a w := by
  refine wpList_plain hg fun K hK => ?_
  have he := enters_ hf hname hb args w
  have hrun : (execOp a.eval oi).run P w = .ok (.enter f args) w := by
    unfold execOp
    simp [hop, resolve, Deferred.ofValue, invoke, hc, hargs, he]
  unfold Oper.wp
  rw [hrun, Oper.upon_enter]
  refine h.mono fun e w'' hh => ?_
  obtain ⟨v, rfl, hk⟩ := hh
  subst hd
  exact hK _ _ hk
theorem gate_value {rest : List Oper} {o : Oper} {a : Act} {W : World} {t : Tmp} {ops_ : Array Operand} {ts : Array TypeId} (_ho : o.op = .call { callee := .value (.tmp t), args := ops_, argTypes := ts }) (h : wpList P ops Q (o :: rest) a W) : wpList P ops Q (o :: rest) a W := h
end
/-- A function value (function gf, what it captured) that takes a text and tells whether to go on: step by step, as 'step' says; Inv holds of the world from step to step; it writes what Pc tells. -/
structure YieldsBy {α : Type} (gf : FuncId) (cap : Array Value) (Pc : Nat → Nat → Prop) (Inv : α → World → Prop) (step : α → ByteArray → Option (α × Bool)) : Prop where
  fn : ∃ fn, Try.prog.funcs[gf]? = some fn ∧ (fn.name == "runtime.NumGoroutine") = false ∧ fn.body.isSome = true
  call : ∀ a s a' go W, step a s = some (a', go) → Inv a W → Calls Try.prog gf (#[.string s] ++ cap) W fun e W' => e = .returned (.bool go) ∧ Inv a' W' ∧ KeptBy Pc W W'
  keep : ∀ a W W', Inv a W → KeptBy (fun _ t => t = 96) W W' → Inv a W'
  pc : ∀ k t, Pc k t → t ≠ 96 ∧ t ≠ 121
end Go.Proofs.Ytklidannncajiaa.OW

namespace Go.Proofs.Ytklidannncajiaa.OW
open Go.RowKit Go.Proofs.YtklidannncajiaaW.PrintWords Go.Proofs.YtklidannncajiaaW.PrintLast Go.Proofs.YtklidannncajiaaW.PrintMore

/-- The iterator at block g stands at pos. -/
def IterAt (w : World) (g : Nat) (s : ByteArray) (pos : Nat) : Prop := w.heap[g]? = some (.stringIter s pos)
def stepIter (w : World) (g : Nat) (s : ByteArray) (pos : Nat) : World := { w with heap := w.heap.setIfInBounds g (.stringIter s pos) }
section
variable {P : Program}
theorem run_next_at {W : World} {g : Nat} {s : ByteArray} {pos : Nat} (h : IterAt W g s pos) (ty : TypeId) (hp : pos < s.size) :
    (Instr.next (.pointer (some ⟨g, 0, none⟩)) true ty).run P W = .ok (.tuple #[.bool true, .int .i64 pos, .int .i32 (Utf8.decode s pos).1]) (stepIter W g s (pos + (Utf8.decode s pos).2)) := by
  unfold IterAt at h
  simp only [Instr.next, getObj, setObj, Sem.run_bind, Sem.run, h, Result.andThen, hp, if_true]
  simp [goInt, stepIter]
theorem run_next_stop {W : World} {g : Nat} {s : ByteArray} {pos : Nat} (h : IterAt W g s pos) (ty : TypeId) (hp : ¬ pos < s.size) :
    (Instr.next (.pointer (some ⟨g, 0, none⟩)) true ty).run P W = .ok (.tuple #[.bool false]) W := by
  unfold IterAt at h
  simp [Instr.next, getObj, Sem.run, h, hp]
end
theorem IterAt.lt {w : World} {g : Nat} {s : ByteArray} {pos : Nat} (h : IterAt w g s pos) : g < w.heap.size := (Array.getElem?_eq_some_iff.1 h).1
theorem IterAt.step {w : World} {g : Nat} {s : ByteArray} {pos : Nat} (h : IterAt w g s pos) (pos' : Nat) : IterAt (stepIter w g s pos') g s pos' := by
  unfold IterAt stepIter
  rw [Array.getElem?_setIfInBounds]
  simp [h.lt]
theorem IterAt.below {w w1 : World} {g : Nat} {s : ByteArray} {pos : Nat} (h : IterAt w g s pos) (hb : Below w.heap.size w w1) : IterAt w1 g s pos := (hb.block g h.lt).trans h
theorem step_below {B : Nat} {w W : World} {g : Nat} (h : Below B w W) (hg : B ≤ g) (s : ByteArray) (pos : Nat) : Below B w (stepIter W g s pos) :=
  ⟨h.os, h.tape, h.output, by simpa [stepIter] using h.size, fun i hi => by
    unfold stepIter
    rw [Array.getElem?_setIfInBounds, if_neg (by omega)]
    exact h.block i hi⟩
/-- The runes from a place on. -/
def runesFrom (s : ByteArray) : Nat → Nat → List Int
  | 0, _ => []
  | f + 1, pos => if pos < s.size then ((Utf8.decode s pos).1 : Int) :: runesFrom s f (pos + (Utf8.decode s pos).2) else []
theorem decode_pos (s : ByteArray) (pos : Nat) (h : pos < s.size) : 1 ≤ (Utf8.decode s pos).2 := by
  by_cases ha : (s[pos]'h).toNat < 128
  · rw [decode_ascii s pos h ha]
    exact Nat.le_refl 1
  · exact (decode_high s pos h (by omega)).2
theorem runesFrom_fuel (s : ByteArray) : ∀ (f f' pos : Nat), s.size ≤ f + pos → s.size ≤ f' + pos → runesFrom s f pos = runesFrom s f' pos := by
  intro f
  induction f with
  | zero =>
    intro f' pos h h'
    cases f' with
    | zero => rfl
    | succ f' => simp only [runesFrom]; rw [if_neg (by omega)]
  | succ f ih =>
    intro f' pos h h'
    by_cases hp : pos < s.size
    · cases f' with
      | zero => omega
      | succ f' =>
        have := decode_pos s pos hp
        simp only [runesFrom]
        rw [if_pos hp, if_pos hp, ih f' _ (by omega) (by omega)]
    · cases f' with
      | zero => simp only [runesFrom]; rw [if_neg hp]
      | succ f' => simp only [runesFrom]; rw [if_neg hp, if_neg hp]
/-- All runes of a string as a range tells them. -/
def runes (s : ByteArray) (pos : Nat) : List Int := runesFrom s s.size pos
theorem runes_end (s : ByteArray) (pos : Nat) (h : ¬ pos < s.size) : runes s pos = [] := by
  unfold runes
  cases hs : s.size with
  | zero => rfl
  | succ n => simp only [runesFrom]; rw [if_neg h]
theorem runes_next (s : ByteArray) (pos : Nat) (h : pos < s.size) : runes s pos = ((Utf8.decode s pos).1 : Int) :: runes s (pos + (Utf8.decode s pos).2) := by
  have h1 := decode_pos s pos h
  unfold runes
  obtain ⟨n, hn⟩ : ∃ n, s.size = n + 1 := ⟨s.size - 1, by omega⟩
  conv => lhs; rw [hn]
  simp only [runesFrom]
  rw [if_pos h, runesFrom_fuel s n s.size _ (by omega) (by omega)]
theorem runes_len (s : ByteArray) : ∀ (d pos : Nat), s.size - pos ≤ d → (runes s pos).length ≤ s.size - pos := by
  intro d
  induction d with
  | zero => intro pos h; rw [runes_end s pos (by omega)]; simp
  | succ d ih =>
    intro pos h
    by_cases hp : pos < s.size
    · have h1 := decode_pos s pos hp
      have := ih (pos + (Utf8.decode s pos).2) (by omega)
      rw [runes_next s pos hp, List.length_cons]
      omega
    · rw [runes_end s pos hp]; simp
end Go.Proofs.Ytklidannncajiaa.OW

namespace Go.Proofs.Ytklidannncajiaa.OW
open Go.RowKit

theorem size_list (s : ByteArray) : s.size = s.data.toList.length := Lib.size_eq s
theorem bytes_ext {a b : ByteArray} (h : a.data.toList = b.data.toList) : a = b := by
  cases a with | mk x => cases b with | mk y => simp only at h; rw [Array.toList_inj.1 h]
/-- What is left of a text from a place on. -/
def cut (s : ByteArray) (n : Nat) : ByteArray := s.extract n s.size
theorem cut_data (s : ByteArray) (n : Nat) : (cut s n).data.toList = s.data.toList.drop n := by
  unfold cut
  rw [Lib.extract_data, List.take_of_length_le (by rw [List.length_drop, ← size_list]; exact Nat.le_refl _)]
theorem cut_size (s : ByteArray) (n : Nat) : (cut s n).size = s.size - n := by rw [size_list, cut_data, List.length_drop, size_list]
theorem head_data (s : ByteArray) (n : Nat) : (s.extract 0 n).data.toList = s.data.toList.take n := by
  rw [Lib.extract_data]; simp
theorem decode_cut (s : ByteArray) (n pos : Nat) : Utf8.decode (cut s n) pos = Utf8.decode s (n + pos) := by
  rw [← Lib.decodeL_drop, ← Lib.decodeL_drop, cut_data, List.drop_drop]
theorem decode_le_size (s : ByteArray) (pos : Nat) (h : pos < s.size) : pos + (Utf8.decode s pos).2 ≤ s.size := by
  have h1 : s.data.toList.drop pos ≠ [] := by
    intro e
    have := congrArg List.length e
    rw [List.length_drop, ← size_list] at this
    simp at this
    omega
  have h2 := Lib.decodeL_le _ h1
  rw [Lib.decodeL_drop, List.length_drop, ← size_list] at h2
  omega
theorem runes_cut_at (s : ByteArray) (n : Nat) : ∀ (d pos : Nat), s.size ≤ n + pos + d → runes (cut s n) pos = runes s (n + pos) := by
  intro d
  induction d with
  | zero =>
    intro pos h
    rw [runes_end _ _ (by rw [cut_size]; omega), runes_end _ _ (by omega)]
  | succ d ih =>
    intro pos h
    by_cases hp : n + pos < s.size
    · have h1 := decode_pos s (n + pos) hp
      rw [runes_next _ _ (by rw [cut_size]; omega), runes_next _ _ hp, decode_cut, ih _ (by omega), Nat.add_assoc]
    · rw [runes_end _ _ (by rw [cut_size]; omega), runes_end _ _ (by omega)]
theorem runes_cut (s : ByteArray) (n : Nat) : runes (cut s n) 0 = runes s n := runes_cut_at s n s.size 0 (by omega)
/-- No bytes that are none. -/
def Clean (s : ByteArray) : Prop := (65533 : Int) ∉ runes s 0
instance (s : ByteArray) : Decidable (Clean s) := inferInstanceAs (Decidable (¬ _))
theorem runes_first (s : ByteArray) (h : 0 < s.size) : runes s 0 = ((Utf8.decode s 0).1 : Int) :: runes (cut s (Utf8.decode s 0).2) 0 := by
  rw [runes_next s 0 h, runes_cut, Nat.zero_add]
theorem Clean.cut_ {s : ByteArray} (h : Clean s) (h0 : 0 < s.size) : Clean (cut s (Utf8.decode s 0).2) := by
  unfold Clean at h ⊢
  rw [runes_first s h0] at h
  exact fun hm => h (List.mem_cons_of_mem _ hm)
theorem Clean.first_ {s : ByteArray} (h : Clean s) (h0 : 0 < s.size) : (Utf8.decode s 0).1 ≠ 65533 := by
  unfold Clean at h
  rw [runes_first s h0] at h
  intro e
  exact h (by rw [e]; exact List.mem_cons_self)
theorem encode_rune (r : Nat) (hv : r ≤ 1114111) (hs : r < 55296 ∨ 57343 < r) : (Utf8.encode (r : Int)).data.toList = Lib.encodeRune (r : Int) := by
  have hval : Utf8.valid (r : Int) = true := by simp [Utf8.valid]; omega
  unfold Utf8.encode Lib.encodeRune
  simp only [hval, if_true, Int.toNat_natCast]
  have key : ∀ n : Nat, ∀ z : Int, z = n → UInt8.ofNat n = z.toNat.toUInt8 := by
    intro n z hz
    subst hz
    simp
  by_cases c1 : r < 128
  · rw [if_pos c1, Lib.encodeRuneZ_one (by omega) (by omega)]
    simp
  · rw [if_neg c1]
    by_cases c2 : r < 2048
    · rw [if_pos c2, Lib.encodeRuneZ_two (by omega) (by omega)]
      simp only [List.map_cons, List.map_nil]
      rw [key (192 + r / 64) (192 + (r : Int) / 64) (by omega), key (128 + r % 64) (128 + (r : Int) % 64) (by omega)]
    · rw [if_neg c2]
      by_cases c3 : r < 65536
      · rw [if_pos c3, Lib.encodeRuneZ_three (by omega)]
        simp only [List.map_cons, List.map_nil]
        rw [key (224 + r / 4096) (224 + (r : Int) / 4096) (by omega), key (128 + r / 64 % 64) (128 + (r : Int) / 64 % 64) (by omega), key (128 + r % 64) (128 + (r : Int) % 64) (by omega)]
      · rw [if_neg c3, Lib.encodeRuneZ_four (by omega) (by omega)]
        simp only [List.map_cons, List.map_nil]
        rw [key (240 + r / 262144) (240 + (r : Int) / 262144) (by omega), key (128 + r / 4096 % 64) (128 + (r : Int) / 4096 % 64) (by omega), key (128 + r / 64 % 64) (128 + (r : Int) / 64 % 64) (by omega), key (128 + r % 64) (128 + (r : Int) % 64) (by omega)]
theorem decodeN_ok (n b0 b1 b2 b3 : Nat) (hn : (Lib.decodeN n b0 b1 b2 b3).1 ≠ 65533) : (Lib.decodeN n b0 b1 b2 b3).1 ≤ 1114111 ∧ ((Lib.decodeN n b0 b1 b2 b3).1 < 55296 ∨ 57343 < (Lib.decodeN n b0 b1 b2 b3).1) := by
  have h := hn
  clear hn
  rcases Lib.decodeN_shape n b0 b1 b2 b3 with ⟨c, e⟩ | ⟨c1, c2, c3, cv, e⟩ | ⟨c1, c2, c3, c4, cv, cs, e⟩ | ⟨c1, c2, c3, c4, c5, cv, cw, e⟩ | e
  all_goals rw [e] at h ⊢
  all_goals dsimp only at h ⊢
  all_goals omega
theorem decode_ok (s : ByteArray) (pos : Nat) (h : (Utf8.decode s pos).1 ≠ 65533) : (Utf8.decode s pos).1 ≤ 1114111 ∧ ((Utf8.decode s pos).1 < 55296 ∨ 57343 < (Utf8.decode s pos).1) := by
  rw [Lib.decode_N] at h ⊢
  exact decodeN_ok _ _ _ _ _ h
/-- A rune of a text, written anew, is the bytes that it was read from. -/
theorem encode_first (s : ByteArray) (h0 : 0 < s.size) (h : (Utf8.decode s 0).1 ≠ 65533) : Utf8.encode ((Utf8.decode s 0).1 : Int) ++ cut s (Utf8.decode s 0).2 = s := by
  have hd : Lib.decodeL s.data.toList = Utf8.decode s 0 := by have := Lib.decodeL_drop s 0; rwa [List.drop_zero] at this
  have hne : s.data.toList ≠ [] := by intro e; rw [size_list, e] at h0; simp at h0
  have he := Lib.encode_decode s.data.toList hne (by rw [hd]; exact fun hc => h hc.1)
  obtain ⟨h1, h2⟩ := decode_ok s 0 h
  apply bytes_ext
  have happ : ∀ a b : ByteArray, (a ++ b).data.toList = a.data.toList ++ b.data.toList := by intro a b; simp
  rw [happ, encode_rune _ h1 h2, cut_data]
  rw [hd] at he
  rw [he, List.take_append_drop]
theorem encode_size (s : ByteArray) (h0 : 0 < s.size) (h : (Utf8.decode s 0).1 ≠ 65533) : (Utf8.encode ((Utf8.decode s 0).1 : Int)).size = (Utf8.decode s 0).2 := by
  have h1 := congrArg ByteArray.size (encode_first s h0 h)
  rw [ByteArray.size_append, cut_size] at h1
  have h2 := decode_le_size s 0 h0
  omega
theorem runes_empty : runes ⟨#[]⟩ 0 = [] := runes_end _ _ (by decide)
theorem runes_nil_iff (s : ByteArray) : runes s 0 = [] ↔ s.size = 0 := by
  constructor
  · intro h
    by_cases h0 : 0 < s.size
    · rw [runes_first s h0] at h; cases h
    · omega
  · intro h
    exact runes_end _ _ (by omega)
/-- Two clean texts of the same runes are one. -/
theorem runes_inj : ∀ (d : Nat) (a b : ByteArray), a.size ≤ d → Clean a → Clean b → runes a 0 = runes b 0 → a = b := by
  intro d
  induction d with
  | zero =>
    intro a b ha _ _ h
    have h1 : runes a 0 = [] := (runes_nil_iff a).2 (by omega)
    have h2 : b.size = 0 := (runes_nil_iff b).1 (h ▸ h1)
    apply bytes_ext
    have e1 : a.data.toList = [] := List.length_eq_zero_iff.1 (by rw [← size_list]; omega)
    have e2 : b.data.toList = [] := List.length_eq_zero_iff.1 (by rw [← size_list]; omega)
    rw [e1, e2]
  | succ d ih =>
    intro a b ha ca cb h
    by_cases h0 : 0 < a.size
    · by_cases h1 : 0 < b.size
      · have e1 := runes_first a h0
        have e2 := runes_first b h1
        rw [e1, e2] at h
        injection h with h2 h3
        have hp := decode_pos a 0 h0
        have := ih (cut a (Utf8.decode a 0).2) (cut b (Utf8.decode b 0).2) (by rw [cut_size]; omega) (ca.cut_ h0) (cb.cut_ h1) h3
        rw [← encode_first a h0 (ca.first_ h0), ← encode_first b h1 (cb.first_ h1), this, h2]
      · have : runes b 0 = [] := (runes_nil_iff b).2 (by omega)
        rw [this, runes_first a h0] at h
        cases h
    · have h2 : runes a 0 = [] := (runes_nil_iff a).2 (by omega)
      have h3 : b.size = 0 := (runes_nil_iff b).1 (h ▸ h2)
      apply bytes_ext
      have e1 : a.data.toList = [] := List.length_eq_zero_iff.1 (by rw [← size_list]; omega)
      have e2 : b.data.toList = [] := List.length_eq_zero_iff.1 (by rw [← size_list]; omega)
      rw [e1, e2]
end Go.Proofs.Ytklidannncajiaa.OW
