/- Parts of the proof, one after the other: Shelf, B1, W1, W2, W3, W4, B2, W5, W6, W7, W8, W9, W10. No condition. -/
import Derived.Test.YtikcmjamioopbaaM10
import Derived.Shelf.Small.Bits
import Derived.Shelf.Strconv.Itoa0
import Derived.Shelf.Slices.SearchI
import Derived.Shelf.SortM.Plain
import Derived.Shelf.SortM.SortNone
import Derived.Test.YtikcmjamioopbaaProg
import Derived.IntWalk
import Derived.Laws.StructEq
import Derived.KernelRfl
/-
  DERIVED: THE SHELF's CONTRACTS AT THIS DUMP, IN PLAIN WORDS (tools/lay-plain.mjs out of 'TryShelf.lean', which tools/lay-shelf.mjs wrote): THE SAME DECLARATIONS UNDER THE SAME NAMES: 'import', 'namespace', 'open', 'def', 'theorem' AND NOTHING ELSE: no command of the shelf's: FOR A HAND-IN. Each laying: the table of numbers ('.._ren') and one theorem, a field a fact of the dump's own or the kernel's comparison; each contract: ONE APPLICATION.
-/
namespace Go.Proofs
open Go.Shelf
def Try.lays128_ren : Go.Shelf.Ren := ⟨fun | 128 => 75 | n => n, fun | 51 => 113 | 3 => 3 | 4 => 4 | 46 => 99 | 5 => 5 | 9 => 9 | n => n, fun | n => n⟩
theorem Try.lays128 : Go.Proofs.Lays.n128 Try.prog Try.lays128_ren := {
  mixed := by kernel_rfl
  f128 := Try.func75.trans (congrArg some (by kernel_rfl))
  t3 := Try.underlying3
  a3 := Try.isAgg3
  z3 := Try.sizeOf3
  v3 := Try.zeroValue3
  t4 := Try.underlying4
  a4 := Try.isAgg4
  z4 := Try.sizeOf4
  v4 := Try.zeroValue4
  t5 := Try.underlying5
  a5 := Try.isAgg5
  z5 := Try.sizeOf5
  v5 := Try.zeroValue5
  t9 := Try.underlying9
  a9 := Try.isAgg9
  z9 := Try.sizeOf9
  v9 := Try.zeroValue9
  t46 := Try.underlying99
  a46 := Try.isAgg99
  z46 := Try.sizeOf99
  v46 := Try.zeroValue99
  t51 := Try.underlying113
  a51 := Try.isAgg113
  z51 := Try.sizeOf113
  v51 := Try.zeroValue113 }
/-- bits.Len32: "Len32 returns the minimum number of bits required to represent x; the result is 0 for x == 0.": IT RETURNS 'Lib.bitLen x'; the world is as it was. ('h0', 'h1': x is a uint32.) (LAID: no walk: one application.) -/
theorem Try.bits_Len32 (x : Int) (w : World) (h0 : 0 ≤ x) (h1 : x ≤ 4294967295) :
    Calls Try.prog 75 #[.int .u32 x] w fun e w' => e = .returned (.int .i64 (Lib.bitLen x.toNat)) ∧ w' = w := Any.bits_Len32 Try.lays128 x w h0 h1
def Try.lays125_ren : Go.Shelf.Ren := ⟨fun | 125 => 61 | 128 => 75 | 129 => 76 | n => n, fun | 46 => 99 | 3 => 3 | 51 => 113 | 53 => 115 | 4 => 4 | 5 => 5 | 9 => 9 | n => n, fun | n => n⟩
theorem Try.lays125 : Go.Proofs.Lays.n125 Try.prog Try.lays125_ren := {
  mixed := by kernel_rfl
  f125 := Try.func61.trans (congrArg some (by kernel_rfl))
  f128 := Try.func75.trans (congrArg some (by kernel_rfl))
  f129 := Try.func76.trans (congrArg some (by kernel_rfl))
  t3 := Try.underlying3
  a3 := Try.isAgg3
  z3 := Try.sizeOf3
  v3 := Try.zeroValue3
  t4 := Try.underlying4
  a4 := Try.isAgg4
  z4 := Try.sizeOf4
  v4 := Try.zeroValue4
  t5 := Try.underlying5
  a5 := Try.isAgg5
  z5 := Try.sizeOf5
  v5 := Try.zeroValue5
  t9 := Try.underlying9
  a9 := Try.isAgg9
  z9 := Try.sizeOf9
  v9 := Try.zeroValue9
  t46 := Try.underlying99
  a46 := Try.isAgg99
  z46 := Try.sizeOf99
  v46 := Try.zeroValue99
  t51 := Try.underlying113
  a51 := Try.isAgg113
  z51 := Try.sizeOf113
  v51 := Try.zeroValue113
  t53 := Try.underlying115
  a53 := Try.isAgg115
  z53 := Try.sizeOf115
  v53 := Try.zeroValue115 }
/-- bits.Len: "Len returns the minimum number of bits required to represent x; the result is 0 for x == 0.": IT RETURNS 'Lib.bitLen x'; the world is as it was. (A uint has 64 bits in the model.) ITS CALLEE bits.Len64 IS MET BY ITS OWN CONTRACT OFF THE SHELF (lay that first). (LAID: no walk: one application.) -/
theorem Try.bits_Len (x : Int) (w : World) (h0 : 0 ≤ x) (h1 : x ≤ 18446744073709551615) :
    Calls Try.prog 61 #[.int .u64 x] w fun e w' => e = .returned (.int .i64 (Lib.bitLen x.toNat)) ∧ w' = w := Any.bits_Len Try.lays125 x w h0 h1
def Try.lays129_ren : Go.Shelf.Ren := ⟨fun | 129 => 76 | n => n, fun | 53 => 115 | 3 => 3 | 4 => 4 | 46 => 99 | 5 => 5 | 9 => 9 | n => n, fun | n => n⟩
theorem Try.lays129 : Go.Proofs.Lays.n129 Try.prog Try.lays129_ren := {
  mixed := by kernel_rfl
  f129 := Try.func76.trans (congrArg some (by kernel_rfl))
  t3 := Try.underlying3
  a3 := Try.isAgg3
  z3 := Try.sizeOf3
  v3 := Try.zeroValue3
  t4 := Try.underlying4
  a4 := Try.isAgg4
  z4 := Try.sizeOf4
  v4 := Try.zeroValue4
  t5 := Try.underlying5
  a5 := Try.isAgg5
  z5 := Try.sizeOf5
  v5 := Try.zeroValue5
  t9 := Try.underlying9
  a9 := Try.isAgg9
  z9 := Try.sizeOf9
  v9 := Try.zeroValue9
  t46 := Try.underlying99
  a46 := Try.isAgg99
  z46 := Try.sizeOf99
  v46 := Try.zeroValue99
  t53 := Try.underlying115
  a53 := Try.isAgg115
  z53 := Try.sizeOf115
  v53 := Try.zeroValue115 }
/-- bits.Len64: "Len64 returns the minimum number of bits required to represent x; the result is 0 for x == 0.": IT RETURNS 'Lib.bitLen x'; the world is as it was. ('h0', 'h1': x is a uint64.) (LAID: no walk: one application.) -/
theorem Try.bits_Len64 (x : Int) (w : World) (h0 : 0 ≤ x) (h1 : x ≤ 18446744073709551615) :
    Calls Try.prog 76 #[.int .u64 x] w fun e w' => e = .returned (.int .i64 (Lib.bitLen x.toNat)) ∧ w' = w := Any.bits_Len64 Try.lays129 x w h0 h1
def Try.laysNm237_ren : Go.Shelf.Ren := ⟨fun | 37 => 91 | n => n, fun | 3 => 3 | 4 => 4 | n => n, fun | n => n⟩
theorem Try.laysNm237 : Go.Proofs.Lays2.n37 Try.prog Try.laysNm237_ren := {
  mixed := by kernel_rfl
  f37 := Try.func91.trans (congrArg some (by kernel_rfl))
  t3 := Try.underlying3
  a3 := Try.isAgg3
  z3 := Try.sizeOf3
  v3 := Try.zeroValue3
  t4 := Try.underlying4
  a4 := Try.isAgg4
  z4 := Try.sizeOf4
  v4 := Try.zeroValue4 }
open Go.RowKit Go.Lib in
/-- cmp.isNaN[int]: 'x != x': false. (LAID: no walk: one application.) -/
theorem Try.cmp_isNaN_int2 (x : Int) (w : World) :
    Calls Try.prog 91 #[.int .i64 x] w fun e w' => e = .returned (.bool false) ∧ w' = w := Any.cmp_isNaN_int2 Try.laysNm237 x w
def Try.laysNm231_ren : Go.Shelf.Ren := ⟨fun | 31 => 72 | 37 => 91 | n => n, fun | 3 => 3 | 4 => 4 | n => n, fun | n => n⟩
theorem Try.laysNm231 : Go.Proofs.Lays2.n31 Try.prog Try.laysNm231_ren := {
  mixed := by kernel_rfl
  f31 := Try.func72.trans (congrArg some (by kernel_rfl))
  f37 := Try.func91.trans (congrArg some (by kernel_rfl))
  t3 := Try.underlying3
  a3 := Try.isAgg3
  z3 := Try.sizeOf3
  v3 := Try.zeroValue3
  t4 := Try.underlying4
  a4 := Try.isAgg4
  z4 := Try.sizeOf4
  v4 := Try.zeroValue4 }
open Go.RowKit Go.Lib in
/-- cmp.Less[int]: "Less reports whether x is less than y.": 'x < y'; the world is as it was. (LAID: no walk: one application.) -/
theorem Try.cmp_Less_int2 (x y : Int) (w : World) :
    Calls Try.prog 72 #[.int .i64 x, .int .i64 y] w fun e w' => e = .returned (.bool (decide (x < y))) ∧ w' = w := Any.cmp_Less_int2 Try.laysNm231 x y w
def Try.laysSlM5_f48_ren : Go.Shelf.Ren := ⟨fun | 5 => 48 | 8 => 61 | 7 => 60 | 19 => 75 | 20 => 76 | 10 => 66 | 11 => 67 | 12 => 68 | 13 => 69 | 14 => 70 | 15 => 71 | 16 => 72 | 17 => 73 | 18 => 74 | 30 => 86 | 31 => 87 | 32 => 88 | 33 => 89 | 34 => 90 | 35 => 91 | 40 => 96 | n => n, fun | 23 => 30 | 25 => 3 | 3 => 3 | 32 => 99 | 22 => 30 | 0 => 0 | 44 => 113 | 46 => 115 | 4 => 4 | 36 => 106 | 35 => 105 | 41 => 110 | 5 => 5 | 9 => 9 | 53 => 121 | 57 => 125 | 63 => 129 | 64 => 130 | n => n, fun | n => n⟩
theorem Try.laysSlM5_f48 : Go.Proofs.SlLaysM.n5 Try.prog Try.laysSlM5_f48_ren := {
  mixed := by kernel_rfl
  f5 := ⟨Try.f48.name, by decide, Try.func48.trans (congrArg some (by kernel_rfl))⟩
  f7 := ⟨Try.f60.name, by decide, Try.func60.trans (congrArg some (by kernel_rfl))⟩
  f8 := Try.func61.trans (congrArg some (by kernel_rfl))
  f10 := ⟨Try.f66.name, by decide, Try.func66.trans (congrArg some (by kernel_rfl))⟩
  f11 := ⟨Try.f67.name, by decide, Try.func67.trans (congrArg some (by kernel_rfl))⟩
  f12 := ⟨Try.f68.name, by decide, Try.func68.trans (congrArg some (by kernel_rfl))⟩
  f13 := ⟨Try.f69.name, by decide, Try.func69.trans (congrArg some (by kernel_rfl))⟩
  f14 := ⟨Try.f70.name, by decide, Try.func70.trans (congrArg some (by kernel_rfl))⟩
  f15 := ⟨Try.f71.name, by decide, Try.func71.trans (congrArg some (by kernel_rfl))⟩
  f16 := ⟨Try.f72.name, by decide, Try.func72.trans (congrArg some (by kernel_rfl))⟩
  f17 := ⟨Try.f73.name, by decide, Try.func73.trans (congrArg some (by kernel_rfl))⟩
  f18 := ⟨Try.f74.name, by decide, Try.func74.trans (congrArg some (by kernel_rfl))⟩
  f19 := Try.func75.trans (congrArg some (by kernel_rfl))
  f20 := Try.func76.trans (congrArg some (by kernel_rfl))
  f30 := ⟨Try.f86.name, by decide, Try.func86.trans (congrArg some (by kernel_rfl))⟩
  f31 := Try.func87.trans (congrArg some (by kernel_rfl))
  f32 := Try.func88.trans (congrArg some (by kernel_rfl))
  f33 := ⟨Try.f89.name, by decide, Try.func89.trans (congrArg some (by kernel_rfl))⟩
  f34 := ⟨Try.f90.name, by decide, Try.func90.trans (congrArg some (by kernel_rfl))⟩
  f35 := ⟨Try.f91.name, by decide, Try.func91.trans (congrArg some (by kernel_rfl))⟩
  f40 := ⟨Try.f96.name, by decide, Try.func96.trans (congrArg some (by kernel_rfl))⟩
  t0 := Try.underlying0
  a0 := Try.isAgg0
  z0 := Try.sizeOf0
  v0 := Try.zeroValue0
  t3 := Try.underlying3
  a3 := Try.isAgg3
  z3 := Try.sizeOf3
  v3 := Try.zeroValue3
  t4 := Try.underlying4
  a4 := Try.isAgg4
  z4 := Try.sizeOf4
  v4 := Try.zeroValue4
  t5 := Try.underlying5
  a5 := Try.isAgg5
  z5 := Try.sizeOf5
  v5 := Try.zeroValue5
  t9 := Try.underlying9
  a9 := Try.isAgg9
  z9 := Try.sizeOf9
  v9 := Try.zeroValue9
  t22 := Try.underlying30
  a22 := Try.isAgg30
  z22 := Try.sizeOf30
  v22 := Try.zeroValue30
  t23 := Try.underlying30
  a23 := Try.isAgg30
  z23 := Try.sizeOf30
  v23 := Try.zeroValue30
  t25 := Try.underlying3
  a25 := Try.isAgg3
  z25 := Try.sizeOf3
  v25 := Try.zeroValue3
  t32 := Try.underlying99
  a32 := Try.isAgg99
  z32 := Try.sizeOf99
  v32 := Try.zeroValue99
  t35 := Try.underlying105
  a35 := Try.isAgg105
  z35 := Try.sizeOf105
  v35 := Try.zeroValue105
  t36 := Try.underlying106
  a36 := Try.isAgg106
  z36 := Try.sizeOf106
  v36 := Try.zeroValue106
  t41 := Try.underlying110
  a41 := Try.isAgg110
  z41 := Try.sizeOf110
  v41 := Try.zeroValue110
  t44 := Try.underlying113
  a44 := Try.isAgg113
  z44 := Try.sizeOf113
  v44 := Try.zeroValue113
  t46 := Try.underlying115
  a46 := Try.isAgg115
  z46 := Try.sizeOf115
  v46 := Try.zeroValue115
  t53 := Try.underlying121
  a53 := Try.isAgg121
  z53 := Try.sizeOf121
  v53 := Try.zeroValue121
  t57 := Try.underlying125
  a57 := Try.isAgg125
  z57 := Try.sizeOf125
  v57 := Try.zeroValue125
  t63 := Try.underlying129
  a63 := Try.isAgg129
  z63 := Try.sizeOf129
  v63 := Try.zeroValue129
  t64 := Try.underlying130
  a64 := Try.isAgg130
  z64 := Try.sizeOf130
  v64 := Try.zeroValue130 }
open Go.Sort Go.RowKit in
theorem Try.slices_Sort_int (blk off cap : Nat) (zs : List Int) (w : World) (hH : Holds (Value.int .i64) w blk off zs.toArray) (hblk : blk < w.heap.size) (hsz : zs.length < 4611686018427387904) :
    Calls Try.prog 48 #[.slice (some ⟨blk, off, none⟩) zs.length cap] w fun e w' =>
      e = .returned (.tuple #[]) ∧ ∃ n os, w' = grow (putRow (Value.int .i64) (Sort.ahead w n) blk off (zs.mergeSort fun x y => decide (x ≤ y)).toArray) os := AnyM.slices_Sort_int Try.laysSlM5_f48 blk off cap zs w hH hblk hsz
def Try.laysSlM6_f57_ren : Go.Shelf.Ren := ⟨fun | 6 => 57 | 8 => 61 | 9 => 65 | 19 => 75 | 20 => 76 | 21 => 77 | 22 => 78 | 23 => 79 | 24 => 80 | 25 => 81 | 26 => 82 | 27 => 83 | 28 => 84 | 29 => 85 | 36 => 92 | 31 => 87 | 32 => 88 | 37 => 93 | 38 => 94 | 39 => 95 | 41 => 97 | n => n, fun | 27 => 61 | 29 => 9 | 3 => 3 | 32 => 99 | 26 => 61 | 0 => 0 | 44 => 113 | 46 => 115 | 4 => 4 | 36 => 106 | 35 => 105 | 41 => 110 | 5 => 5 | 9 => 9 | 53 => 121 | 57 => 125 | 63 => 129 | 64 => 130 | n => n, fun | n => n⟩
theorem Try.laysSlM6_f57 : Go.Proofs.SlLaysM.n6 Try.prog Try.laysSlM6_f57_ren := {
  mixed := by kernel_rfl
  f6 := ⟨Try.f57.name, by decide, Try.func57.trans (congrArg some (by kernel_rfl))⟩
  f8 := Try.func61.trans (congrArg some (by kernel_rfl))
  f9 := ⟨Try.f65.name, by decide, Try.func65.trans (congrArg some (by kernel_rfl))⟩
  f19 := Try.func75.trans (congrArg some (by kernel_rfl))
  f20 := Try.func76.trans (congrArg some (by kernel_rfl))
  f21 := ⟨Try.f77.name, by decide, Try.func77.trans (congrArg some (by kernel_rfl))⟩
  f22 := ⟨Try.f78.name, by decide, Try.func78.trans (congrArg some (by kernel_rfl))⟩
  f23 := ⟨Try.f79.name, by decide, Try.func79.trans (congrArg some (by kernel_rfl))⟩
  f24 := ⟨Try.f80.name, by decide, Try.func80.trans (congrArg some (by kernel_rfl))⟩
  f25 := ⟨Try.f81.name, by decide, Try.func81.trans (congrArg some (by kernel_rfl))⟩
  f26 := ⟨Try.f82.name, by decide, Try.func82.trans (congrArg some (by kernel_rfl))⟩
  f27 := ⟨Try.f83.name, by decide, Try.func83.trans (congrArg some (by kernel_rfl))⟩
  f28 := ⟨Try.f84.name, by decide, Try.func84.trans (congrArg some (by kernel_rfl))⟩
  f29 := ⟨Try.f85.name, by decide, Try.func85.trans (congrArg some (by kernel_rfl))⟩
  f31 := Try.func87.trans (congrArg some (by kernel_rfl))
  f32 := Try.func88.trans (congrArg some (by kernel_rfl))
  f36 := ⟨Try.f92.name, by decide, Try.func92.trans (congrArg some (by kernel_rfl))⟩
  f37 := ⟨Try.f93.name, by decide, Try.func93.trans (congrArg some (by kernel_rfl))⟩
  f38 := ⟨Try.f94.name, by decide, Try.func94.trans (congrArg some (by kernel_rfl))⟩
  f39 := ⟨Try.f95.name, by decide, Try.func95.trans (congrArg some (by kernel_rfl))⟩
  f41 := ⟨Try.f97.name, by decide, Try.func97.trans (congrArg some (by kernel_rfl))⟩
  t0 := Try.underlying0
  a0 := Try.isAgg0
  z0 := Try.sizeOf0
  v0 := Try.zeroValue0
  t3 := Try.underlying3
  a3 := Try.isAgg3
  z3 := Try.sizeOf3
  v3 := Try.zeroValue3
  t4 := Try.underlying4
  a4 := Try.isAgg4
  z4 := Try.sizeOf4
  v4 := Try.zeroValue4
  t5 := Try.underlying5
  a5 := Try.isAgg5
  z5 := Try.sizeOf5
  v5 := Try.zeroValue5
  t9 := Try.underlying9
  a9 := Try.isAgg9
  z9 := Try.sizeOf9
  v9 := Try.zeroValue9
  t26 := Try.underlying61
  a26 := Try.isAgg61
  z26 := Try.sizeOf61
  v26 := Try.zeroValue61
  t27 := Try.underlying61
  a27 := Try.isAgg61
  z27 := Try.sizeOf61
  v27 := Try.zeroValue61
  t29 := Try.underlying9
  a29 := Try.isAgg9
  z29 := Try.sizeOf9
  v29 := Try.zeroValue9
  t32 := Try.underlying99
  a32 := Try.isAgg99
  z32 := Try.sizeOf99
  v32 := Try.zeroValue99
  t35 := Try.underlying105
  a35 := Try.isAgg105
  z35 := Try.sizeOf105
  v35 := Try.zeroValue105
  t36 := Try.underlying106
  a36 := Try.isAgg106
  z36 := Try.sizeOf106
  v36 := Try.zeroValue106
  t41 := Try.underlying110
  a41 := Try.isAgg110
  z41 := Try.sizeOf110
  v41 := Try.zeroValue110
  t44 := Try.underlying113
  a44 := Try.isAgg113
  z44 := Try.sizeOf113
  v44 := Try.zeroValue113
  t46 := Try.underlying115
  a46 := Try.isAgg115
  z46 := Try.sizeOf115
  v46 := Try.zeroValue115
  t53 := Try.underlying121
  a53 := Try.isAgg121
  z53 := Try.sizeOf121
  v53 := Try.zeroValue121
  t57 := Try.underlying125
  a57 := Try.isAgg125
  z57 := Try.sizeOf125
  v57 := Try.zeroValue125
  t63 := Try.underlying129
  a63 := Try.isAgg129
  z63 := Try.sizeOf129
  v63 := Try.zeroValue129
  t64 := Try.underlying130
  a64 := Try.isAgg130
  z64 := Try.sizeOf130
  v64 := Try.zeroValue130 }
open Go.Sort Go.RowKit in
theorem Try.slices_Sort_string (blk off cap : Nat) (ss : List (List UInt8)) (w : World) (hH : Holds encStr w blk off ss.toArray) (hblk : blk < w.heap.size) (hsz : ss.length < 4611686018427387904) :
    Calls Try.prog 57 #[.slice (some ⟨blk, off, none⟩) ss.length cap] w fun e w' =>
      e = .returned (.tuple #[]) ∧ ∃ n os, w' = grow (putRow encStr (Sort.ahead w n) blk off (ss.mergeSort fun x y => decide (x ≤ y)).toArray) os := AnyM.slices_Sort_string Try.laysSlM6_f57 blk off cap ss w hH hblk hsz
open Go.RowKit Go.Sort in
/-- .. and plain. (LAID AT THE INSTANCE 'slices.Sort[[]string,string]': no walk: one application.) -/
theorem Try.slices_Sort_string_none (p : Option Addr) (cap : Nat) (w : World) :
    Calls Try.prog 57 #[.slice p 0 cap] w fun e w' => e = .returned (.tuple #[]) ∧ w' = w := AnyM.slices_Sort_string_none Try.laysSlM6_f57 p cap w
open Go.RowKit Go.Sort in
/-- .. and plain. (LAID AT THE INSTANCE 'slices.Sort[[]int,int]': no walk: one application.) -/
theorem Try.slices_Sort_int_none (p : Option Addr) (cap : Nat) (w : World) :
    Calls Try.prog 48 #[.slice p 0 cap] w fun e w' => e = .returned (.tuple #[]) ∧ w' = w := AnyM.slices_Sort_int_none Try.laysSlM5_f48 p cap w
end Go.Proofs
/- What the chapter's values read as. -/
namespace Go.Proofs.Ytikcmjamioopbaa.W
open Go.RowKit E M
set_option linter.unusedVariables false
set_option linter.unusedSimpArgs false
theorem w64 {n : Int} (h : -9223372036854775808 ≤ n) (h' : n ≤ 9223372036854775807) : IntKind.i64.wrap n = n := IntWalk.i64_in n ⟨h, h'⟩
theorem idx_map {α : Type} {f : α → List T} {l : List α} {k : Nat} (h : k < l.length) : (l.map f)[((k : Nat) : Int).toNat]? = some (f l[k]) := by simp [h]
abbrev iC (n : Int) : C := .a (.t (.v (.int .i64 n)))
abbrev i64T (n : Int) : List T := [.v (.int .i64 n)]
abbrev i64A (n : Int) : A := .t (.v (.int .i64 n))
abbrev eT (e : Int × Int) : List T := [.v (.int .i64 e.1), .v (.int .i64 e.2)]
abbrev eC (e : Int × Int) : C := .g [.t (.v (.int .i64 e.1)), .t (.v (.int .i64 e.2))]
abbrev grC (z : Nz) (L : List (Int × Int)) : C := .g [.t (.sl z 2 (L.map eT))]
abbrev iL (z : Nz) (l : List Int) : C := .a (.t (.sl z 1 (l.map i64T)))
abbrev i64L (l : List Int) : (∀ x, (i64T x).length = 1) := fun _ => rfl
theorem i64l : ∀ x, (i64T x).length = 1 := fun _ => rfl
theorem eTl : ∀ x, (eT x).length = 2 := fun _ => rfl
def ltI (a b : Int) : Bool := decide (a < b)
theorem ordI : Ord ltI := ⟨fun a => by simp [ltI], fun a b c => by simp [ltI]; omega, fun a b => by simp [ltI]; omega⟩
abbrev GE := List (Int × Int)
abbrev pr (a b : Int) : Value := .agg #[.int .i64 a, .int .i64 b]
theorem part0 (a b : Int) (w : World) : (part 3 #[.int .i64 a, .int .i64 b] (0 * 1)).run Try.prog w = .ok (.int .i64 a) w := by kernel_rfl
theorem part1 (a b : Int) (w : World) : (part 3 #[.int .i64 a, .int .i64 b] (1 * 1)).run Try.prog w = .ok (.int .i64 b) w := by kernel_rfl
theorem sz3 (w : World) : (sizeOf 3).run Try.prog w = .ok 1 w := by kernel_rfl
theorem eq70 (a b c d : Int) (w : World) : (Op.equal 70 (pr a b) (pr c d)).run Try.prog w = .ok (a == c && b == d) w := by
  have h3 : ∀ (x y : Int), (Op.equalIn 9999 3 (.int .i64 x) (.int .i64 y)).run Try.prog w = .ok (x == y) w := fun x y => run_equalIn_int w 9998 3 .i64 .i64 x y Try.underlying3
  have q0 := part0 a b w
  have q1 := part1 a b w
  have q2 := part0 c d w
  have q3 := part1 c d w
  show (Op.equalIn (9999 + 1) 70 (pr a b) (pr c d)).run Try.prog w = _
  rw [Op.equalIn]
  simp only [Sem.run_bind, run_underlying Try.underlying70, Result.andThen_ok, sz3]
  simp only [Std.Legacy.Range.forIn_eq_forIn_range', Std.Legacy.Range.size, Nat.sub_zero, Nat.add_sub_cancel, Nat.div_one, List.range'_succ, List.range'_zero, List.forIn_cons, List.forIn_nil, Sem.run_bind, q0, q1, q2, q3, h3, Result.andThen_ok]
  have r1 : (part 3 #[.int .i64 a, .int .i64 b] 1).run Try.prog w = .ok (.int .i64 b) w := q1
  have r3 : (part 3 #[.int .i64 c, .int .i64 d] 1).run Try.prog w = .ok (.int .i64 d) w := q3
  by_cases h1 : a = c
  · subst h1
    by_cases h2 : b = d
    · subst h2; simp [r1, r3, h3, Result.andThen]
    · have : (b == d) = false := by simpa using h2
      simp [r1, r3, h3, h2, this, Result.andThen]
  · have : (a == c) = false := by simpa using h1
    simp [h1, this, Result.andThen]
theorem prC {c : Ctx} {a b : Int} {v : Value} (h : RepX c (.c (eC (a, b))) v) : v = pr a b := by
  obtain ⟨us, rfl, h2⟩ := h
  obtain ⟨us⟩ := us
  match us, h2 with
  | [], h2 => have := h2.1; simp at this
  | [_], h2 => have := h2.1; simp at this
  | [u0, u1], h2 =>
    have e0 := h2.2 0 _ _ rfl rfl
    have e1 := h2.2 1 _ _ rfl rfl
    cases e0 with | t e0 => cases e1 with | t e1 =>
    cases e0; cases e1; rfl
  | _ :: _ :: _ :: _, h2 => have := h2.1; simp at this
/-- two edges are compared -/
theorem q_eqE {o : Oper} {s : S} {x y : Operand} {u : TypeId} {a b c d : Int} (ho : o.op = .binOp .eql 70 x y u) (hx : s.eval x = .c (eC (a, b))) (hy : s.eval y = .c (eC (c, d))) : QV Try.prog o s (bX (decide ((a, b) = (c, d)))) :=
  .of_same (fun _ => nolp) fun cx w act hm hrep => by
    have ha := hrep x (by rw [ho]; simp [Op.operands])
    have hb := hrep y (by rw [ho]; simp [Op.operands])
    rw [hx] at ha
    rw [hy] at hb
    have e1 := prC ha
    have e2 := prC hb
    have e3 : (a == c && b == d) = decide ((a, b) = (c, d)) := by
      by_cases h1 : a = c <;> by_cases h2 : b = d <;> simp [h1, h2]
    have hu : Try.prog.underlying 70 = some (.array 2 3) := Try.underlying70
    refine ⟨.bool (decide ((a, b) = (c, d))), ?_, tv_rep rfl⟩
    have hq : (Op.equalIn 10000 70 (pr a b) (pr c d)).run Try.prog w = .ok (a == c && b == d) w := eq70 a b c d w
    simp only [execOp, ho, e1, e2, Sem.run_bind, run_eqGuard_agg (P := Try.prog) w .eql 70 x y _ _ (by kernel_rfl), Result.andThen_ok, run_eql_struct, hq, e3]
    rfl
end Go.Proofs.Ytikcmjamioopbaa.W
namespace Go.Proofs.Ytikcmjamioopbaa.W
open Go.RowKit E M
set_option linter.unusedVariables false
set_option linter.unusedSimpArgs false
set_option linter.unusedSectionVars false
theorem take_all {α : Type} {l : List α} {n i : Nat} (hi : i ≤ l.length) (h : ¬ ((i : Nat) : Int) < ((l.length : Nat) : Int)) : l.take i = l := List.take_of_length_le (by omega)
theorem mem_take_succ {α : Type} {l : List α} {i : Nat} (h : i < l.length) (x : α) : x ∈ l.take (i + 1) ↔ x ∈ l.take i ∨ x = l[i] := by
  rw [List.take_succ_eq_append_getElem h, List.mem_append, List.mem_singleton]
theorem mem_of {L : GE} {k : Nat} (h : k < L.length) {a b : Int} (e : L[k].1 = a ∧ L[k].2 = b) : (a, b) ∈ L := by
  have : L[k] = (a, b) := by rw [← e.1, ← e.2]
  rw [← this]; exact List.getElem_mem h
theorem rmE_succ {L : GE} {n : Int} {i : Nat} (h : i < L.length) : rmE (L.take (i + 1)) n = rmE (L.take i) n ++ (if L[i].1 ≠ n ∧ L[i].2 ≠ n then [L[i]] else []) := by
  rw [List.take_succ_eq_append_getElem h]
  unfold rmE
  rw [List.filter_append]
  congr 1
  by_cases h1 : L[i].1 = n <;> by_cases h2 : L[i].2 = n <;> simp [h1, h2]
theorem lvE_succ {L : GE} {n : Int} {i : Nat} (h : i < L.length) : lvE (L.take (i + 1)) n = lvE (L.take i) n ++ (if L[i].1 ≠ n then [L[i]] else []) := by
  rw [List.take_succ_eq_append_getElem h]
  unfold lvE
  rw [List.filter_append]
  congr 1
  by_cases h1 : L[i].1 = n <;> simp [h1]
theorem rmE_len {L : GE} {n : Int} : (rmE L n).length ≤ L.length := List.length_filter_le _ _
theorem lvE_len {L : GE} {n : Int} : (lvE L n).length ≤ L.length := List.length_filter_le _ _
theorem addE_len {L : GE} {a b : Int} : (addE L a b).length ≤ L.length + 1 := by unfold addE; split <;> simp

set_option maxRecDepth 20000 in
theorem same_any (a b : List Int) (z1 z2 : Nz) (ha : a.length ≤ 1000000) (hb : b.length ≤ 1000000) : Pure Try.prog 14 [iL z1 a, iL z2 b] (bX (decide (a = b))) := by
  intro H
  refine Spec.enter Try.func14 rfl ?_
  refine AW.wk (Wk.keep 26 [(0, .c (iL z1 a)), (1, .c (iL z2 b))] [] (H) rfl ⟨rfl, rfl, trivial⟩ trivial (fun _ _ h => h) rfl) ?_
  refine AW.seq ?_
  refine AW.reg ?_
  refine SeqK.q (q_asC rfl rfl) rfl rfl rfl ?_
  refine SeqK.nil ?_
  refine AW.seq ?_
  refine AW.seq ?_
  refine AW.reg ?_
  refine SeqK.q (q_mvC rfl rfl) rfl rfl rfl ?_
  refine SeqK.q (q_len rfl Fx.un30 rfl) rfl rfl rfl ?_
  refine SeqK.q (q_mvC rfl rfl) rfl rfl rfl ?_
  refine SeqK.q (q_len rfl Fx.un30 rfl) rfl rfl rfl ?_
  refine SeqK.q (q_neq rfl rfl rfl) rfl rfl rfl ?_
  refine SeqK.nil ?_
  refine AW.condD rfl (fun h10 => ?_) (fun h10 => ?_)
  ·
    refine AW.seq ?_
    refine AW.reg ?_
    refine SeqK.q (q_asC rfl rfl) rfl rfl rfl ?_
    refine SeqK.nil ?_
    refine AW.ret ?_
    exact fin_x (x := .c _) H (.tmp rfl .nil) rfl (fun _ _ h => h) ⟨by rw [decide_eq_false]; rintro rfl; exact h10 rfl, rfl⟩
  ·
    have hl : a.length = b.length := by simp at h10; omega
    refine AW.skip ?_
    refine AW.seq ?_
    refine AW.seq ?_
    refine AW.reg ?_
    refine SeqK.q (q_asC rfl rfl) rfl rfl rfl ?_
    refine SeqK.nil ?_
    refine AW.block ?_
    refine AW.loop (fun (k : Nat) s => (k ≤ a.length ∧ a.take k = b.take k) ∧ s = ⟨26, sp [(0, .c (iL z1 a)), (1, .c (iL z2 b)), (4, bX false), (5, iX .i64 ((k : Nat) : Int))], lv [], H⟩) (fun k => a.length - k) 0 ⟨_, Wk.keep 26 [(0, .c (iL z1 a)), (1, .c (iL z2 b)), (4, bX false), (5, iX .i64 ((((0 : Nat)) : Nat) : Int))] [] (H) rfl ⟨rfl, rfl, rfl, rfl, trivial⟩ trivial (fun _ _ h => h) rfl, ⟨Nat.zero_le _, rfl⟩, rfl⟩ (fun k s hs => ?_)
    obtain ⟨⟨hk, hpre⟩, rfl⟩ := hs
    refine AW.seq ?_
    refine AW.seq ?_
    refine AW.reg ?_
    refine SeqK.q (q_mvC rfl rfl) rfl rfl rfl ?_
    refine SeqK.q (q_mvC rfl rfl) rfl rfl rfl ?_
    refine SeqK.q (q_len rfl Fx.un30 rfl) rfl rfl rfl ?_
    refine SeqK.q (q_lss rfl rfl rfl) rfl rfl rfl ?_
    refine SeqK.nil ?_
    refine AW.condD rfl (fun h14 => ?_) (fun h14 => ?_)
    ·
      have hka : k < a.length := by simp at h14; omega
      refine AW.skip ?_
      refine AW.seq ?_
      refine AW.block ?_
      refine AW.seq ?_
      refine AW.draw Fx.mo ?_
      refine LexK.q (q_mvC rfl rfl) rfl rfl rfl ?_
      refine LexK.q (q_mvC rfl rfl) rfl rfl rfl ?_
      refine LexK.q (q_index _ rfl Fx.sl30 rfl rfl (by omega) (idx_map hka)) rfl rfl rfl ?_
      refine LexK.q (q_load (.a _) rfl Fx.ty3 rfl rfl rfl) rfl rfl rfl ?_
      refine LexK.q (q_mvC rfl rfl) rfl rfl rfl ?_
      refine LexK.q (q_mvC rfl rfl) rfl rfl rfl ?_
      refine LexK.q (q_index _ rfl Fx.sl30 rfl rfl (by omega) (idx_map (hl ▸ hka))) rfl rfl rfl ?_
      refine LexK.q (q_load (.a _) rfl Fx.ty3 rfl rfl rfl) rfl rfl rfl ?_
      refine LexK.q (q_neq rfl rfl rfl) rfl rfl rfl ?_
      refine LexK.nil (by kernel_rfl) ?_
      refine AW.condD rfl (fun h25 => ?_) (fun h25 => ?_)
      ·
        refine AW.seq ?_
        refine AW.reg ?_
        refine SeqK.q (q_asC rfl rfl) rfl rfl rfl ?_
        refine SeqK.nil ?_
        refine AW.ret ?_
        exact fin_x (x := .c _) H (.tmp rfl .nil) rfl (fun _ _ h => h) ⟨by rw [decide_eq_false]; intro e; apply h25; simp [e], rfl⟩
      ·
        refine AW.skip ?_
        refine AW.reg ?_
        refine SeqK.q (q_mvC rfl rfl) rfl rfl rfl ?_
        refine SeqK.q (q_add _ rfl rfl rfl (w64 (by omega) (by omega))) rfl rfl rfl ?_
        refine SeqK.q (q_asC rfl rfl) rfl rfl rfl ?_
        refine SeqK.nil ?_
        exact ⟨k + 1, _, Wk.keep 26 [(0, .c (iL z1 a)), (1, .c (iL z2 b)), (4, bX false), (5, iX .i64 (((k + 1) : Nat) : Int))] [] (H) rfl ⟨rfl, rfl, rfl, rfl, trivial⟩ trivial (fun _ _ h => h) rfl, by omega, ⟨by omega, by rw [List.take_succ_eq_append_getElem hka, List.take_succ_eq_append_getElem (hl ▸ hka), hpre]; simp at h25; rw [h25]⟩, rfl⟩
    ·
      refine AW.exit ?_
      refine eth_e ?_
      refine eth_e ?_
      refine exit_here ?_
      refine AW.seq ?_
      refine AW.reg ?_
      refine SeqK.q (q_asC rfl rfl) rfl rfl rfl ?_
      refine SeqK.nil ?_
      refine AW.ret ?_
      exact fin_x (x := .c _) H (.tmp rfl .nil) rfl (fun _ _ h => h) ⟨by
        rw [decide_eq_true]
        have : k = a.length := by simp at h14; omega
        subst this
        rw [List.take_length, hl, List.take_length] at hpre; exact hpre, rfl⟩

set_option maxRecDepth 20000 in
theorem has_any (L : GE) (z : Nz) (a b : Int) (hL : L.length ≤ 1000000) : Pure Try.prog 24 [grC z L, iC a, iC b] (bX (decide ((a, b) ∈ L))) := by
  intro H
  refine Spec.enter Try.func24 rfl ?_
  refine AW.wk (Wk.keep 24 [(0, .c (grC z L)), (1, .c (iC a)), (2, .c (iC b))] [] (H) rfl ⟨rfl, rfl, rfl, trivial⟩ trivial (fun _ _ h => h) rfl) ?_
  refine AW.seq ?_
  refine AW.reg ?_
  refine SeqK.r (b_box (r := [_]) rfl rfl rfl rfl rfl rfl) rfl ?_
  refine SeqK.q (q_asC rfl rfl) rfl rfl rfl ?_
  refine SeqK.nil ?_
  refine AW.seq ?_
  refine AW.seq ?_
  refine AW.reg ?_
  refine SeqK.q (q_asC rfl rfl) rfl rfl rfl ?_
  refine SeqK.nil ?_
  refine AW.block ?_
  refine AW.loop (fun (k : Nat) s => (k ≤ L.length ∧ (a, b) ∉ L.take k) ∧ s = ⟨24, sp [(1, .c (iC a)), (2, .c (iC b)), (3, .lp 3 0), (6, bX false), (7, iX .i64 ((k : Nat) : Int))], lv [(3, .box [.t (.sl z 2 (L.map eT))])], H⟩) (fun k => L.length - k) 0 ⟨_, Wk.keep 24 [(1, .c (iC a)), (2, .c (iC b)), (3, .lp 3 0), (6, bX false), (7, iX .i64 ((((0 : Nat)) : Nat) : Int))] [(3, .box [.t (.sl z 2 (L.map eT))])] (H) rfl ⟨rfl, rfl, rfl, rfl, rfl, trivial⟩ ⟨rfl, trivial⟩ (fun _ _ h => h) rfl, ⟨Nat.zero_le _, by simp⟩, rfl⟩ (fun k s hs => ?_)
  obtain ⟨⟨hk, hpre⟩, rfl⟩ := hs
  refine AW.seq ?_
  refine AW.seq ?_
  refine AW.reg ?_
  refine SeqK.q (q_mvC rfl rfl) rfl rfl rfl ?_
  refine SeqK.q (q_fieldL _ rfl Fx.fl26_0 rfl rfl) rfl rfl rfl ?_
  refine SeqK.r (b_load (r := .a _) rfl Fx.ty24 rfl rfl rfl rfl rfl rfl) rfl ?_
  refine SeqK.q (q_len rfl Fx.un24 rfl) rfl rfl rfl ?_
  refine SeqK.q (q_lss rfl rfl rfl) rfl rfl rfl ?_
  refine SeqK.nil ?_
  refine AW.condD rfl (fun h12 => ?_) (fun h12 => ?_)
  ·
    have hka : k < L.length := by simp at h12; omega
    refine AW.skip ?_
    refine AW.seq ?_
    refine AW.block ?_
    refine AW.seq ?_
    refine AW.reg ?_
    refine SeqK.q (q_fieldL _ rfl Fx.fl26_0 rfl rfl) rfl rfl rfl ?_
    refine SeqK.r (b_load (r := .a _) rfl Fx.ty24 rfl rfl rfl rfl rfl rfl) rfl ?_
    refine SeqK.q (q_mvC rfl rfl) rfl rfl rfl ?_
    refine SeqK.q (q_index _ rfl Fx.sl24 rfl rfl (by omega) (idx_map hka)) rfl rfl rfl ?_
    refine SeqK.q (q_load (.g [_, _]) rfl Fx.ty70 rfl rfl rfl) rfl rfl rfl ?_
    refine SeqK.q (q_mvC rfl rfl) rfl rfl rfl ?_
    refine SeqK.q (q_mvC rfl rfl) rfl rfl rfl ?_
    refine SeqK.q (q_build2 (zs := [_, _]) (r := [_, _]) [(0, 1), (1, 1)] _ rfl Fx.ze70 rfl Fx.bp70 rfl rfl rfl rfl) rfl rfl rfl ?_
    refine SeqK.q (q_eqE rfl rfl rfl) rfl rfl rfl ?_
    refine SeqK.nil ?_
    refine AW.cond _ rfl (fun h23 => ?_) (fun h23 => ?_)
    ·
      refine AW.seq ?_
      refine AW.reg ?_
      refine SeqK.q (q_asC rfl rfl) rfl rfl rfl ?_
      refine SeqK.nil ?_
      refine AW.ret ?_
      exact fin_x (x := .c _) H (.tmp rfl .nil) rfl (fun _ _ h => h) ⟨by rw [decide_eq_true]; exact mem_of hka (by simpa using h23), rfl⟩
    ·
      refine AW.skip ?_
      refine AW.reg ?_
      refine SeqK.q (q_mvC rfl rfl) rfl rfl rfl ?_
      refine SeqK.q (q_add _ rfl rfl rfl (w64 (by omega) (by omega))) rfl rfl rfl ?_
      refine SeqK.q (q_asC rfl rfl) rfl rfl rfl ?_
      refine SeqK.nil ?_
      exact ⟨k + 1, _, Wk.keep 24 [(1, .c (iC a)), (2, .c (iC b)), (3, .lp 3 0), (6, bX false), (7, iX .i64 (((k + 1) : Nat) : Int))] [(3, .box [.t (.sl z 2 (L.map eT))])] (H) rfl ⟨rfl, rfl, rfl, rfl, rfl, trivial⟩ ⟨rfl, trivial⟩ (fun _ _ h => h) rfl, by omega, ⟨by omega, by rw [mem_take_succ hka]; rintro (h | h); exact hpre h; simp [← h] at h23⟩, rfl⟩
  ·
    refine AW.exit ?_
    refine eth_e ?_
    refine eth_e ?_
    refine exit_here ?_
    refine AW.seq ?_
    refine AW.reg ?_
    refine SeqK.q (q_asC rfl rfl) rfl rfl rfl ?_
    refine SeqK.nil ?_
    refine AW.ret ?_
    exact fin_x (x := .c _) H (.tmp rfl .nil) rfl (fun _ _ h => h) ⟨by rw [decide_eq_false]; rwa [List.take_of_length_le (by simp at h12; omega)] at hpre, rfl⟩

set_option maxRecDepth 20000 in
theorem refadd_any (L : GE) (a b : Int) (hL : L.length ≤ 100000) : Pure Try.prog 35 [grC .un L, iC a, iC b] (.tup [grC .un (addE L a b), .a (.t (.v (.bool (!decide ((a, b) ∈ L)))))]) := by
  intro H
  refine Spec.enter Try.func35 rfl ?_
  refine AW.wk (Wk.keep 23 [(0, .c (grC .un L)), (1, .c (iC a)), (2, .c (iC b))] [] (H) rfl ⟨rfl, rfl, rfl, trivial⟩ trivial (fun _ _ h => h) rfl) ?_
  refine AW.seq ?_
  refine AW.reg ?_
  refine SeqK.r (b_box (r := [_]) rfl rfl rfl rfl rfl rfl) rfl ?_
  refine SeqK.r (b_alloc (r := [_]) rfl rfl Fx.ze26 rfl rfl rfl rfl) rfl ?_
  refine SeqK.q (q_asC rfl rfl) rfl rfl rfl ?_
  refine SeqK.nil ?_
  refine AW.seq ?_
  refine AW.seq ?_
  refine AW.reg ?_
  refine SeqK.r (b_load (r := .g [_]) rfl Fx.ty26 rfl rfl rfl rfl rfl rfl) rfl ?_
  refine SeqK.q (q_mvC rfl rfl) rfl rfl rfl ?_
  refine SeqK.q (q_mvC rfl rfl) rfl rfl rfl ?_
  refine SeqK.q (q_call _ rfl Fx.fn24 rfl (has_any L .un a b (by omega)) rfl) rfl rfl rfl ?_
  refine SeqK.nil ?_
  refine AW.cond _ rfl (fun h11 => ?_) (fun h11 => ?_)
  ·
    refine AW.seq ?_
    refine AW.reg ?_
    refine SeqK.r (b_load (r := .g [_]) rfl Fx.ty26 rfl rfl rfl rfl rfl rfl) rfl ?_
    refine SeqK.r (b_store (r := [_]) rfl rfl Fx.ty26 rfl rfl rfl rfl rfl rfl) rfl ?_
    refine SeqK.q (q_asC rfl rfl) rfl rfl rfl ?_
    refine SeqK.nil ?_
    refine AW.ret ?_
    exact fin_x (x := .tup [_, _]) H (.cellL rfl rfl Fx.ty26 rfl rfl (.tmp rfl .nil)) rfl (fun _ _ h => h) ⟨by have h := h11; simp at h; simp [addE, h, mkC], rfl⟩
  ·
    refine AW.skip ?_
    refine AW.seq ?_
    refine AW.reg ?_
    refine SeqK.q (q_build0 rfl Fx.el24) rfl rfl rfl ?_
    refine SeqK.q (q_fieldL _ rfl Fx.fl26_0 rfl rfl) rfl rfl rfl ?_
    refine SeqK.r (b_load (r := .a _) rfl Fx.ty24 rfl rfl rfl rfl rfl rfl) rfl ?_
    refine SeqK.r (b_app0 rfl Fx.el24 rfl rfl (by simp; omega) rfl rfl rfl) rfl ?_
    refine SeqK.q (q_mvC rfl rfl) rfl rfl rfl ?_
    refine SeqK.q (q_mvC rfl rfl) rfl rfl rfl ?_
    refine SeqK.q (q_build2 (zs := [_, _]) (r := [_, _]) [(0, 1), (1, 1)] _ rfl Fx.ze70 rfl Fx.bp70 rfl rfl rfl rfl) rfl rfl rfl ?_
    refine SeqK.q (q_buildSlice _ rfl Fx.el24 rfl (by decide) rfl) rfl rfl rfl ?_
    refine SeqK.r (b_app rfl Fx.el24 rfl rfl rfl ((by simp : _ = (L ++ [(a, b)]).map eT)) (by simp; omega) rfl rfl) rfl ?_
    refine SeqK.xw 21 rfl XW.un ?_
    refine SeqK.q (q_build2 (zs := [_]) (r := [_]) [(0, 1)] _ rfl Fx.ze26 rfl Fx.bp26 rfl rfl rfl rfl) rfl rfl rfl ?_
    refine SeqK.r (b_store (r := [_]) rfl rfl Fx.ty26 rfl rfl rfl rfl rfl rfl) rfl ?_
    refine SeqK.q (q_asC rfl rfl) rfl rfl rfl ?_
    refine SeqK.nil ?_
    refine AW.ret ?_
    exact fin_x (x := .tup [_, _]) H (.cellL rfl rfl Fx.ty26 rfl rfl (.tmp rfl .nil)) rfl (fun _ _ h => h) ⟨by have h := h11; simp at h; simp [addE, h, mkC], rfl⟩

theorem XW.gsl {z : Nz} {sz : Nat} {es : List (List T)} : XW (.c (.g [.t (.sl z sz es)])) (.c (.g [.t (.sl .un sz es)])) := ⟨rfl, fun c v h => by
  obtain ⟨us, rfl, h1, h2⟩ := h
  refine ⟨us, rfl, by simpa using h1, fun i x v hx hv => ?_⟩
  cases i with
  | zero =>
    simp at hx; subst hx
    have := h2 0 _ v rfl hv
    cases this with | t h => exact .t h.forget
  | succ i => simp at hx⟩
theorem Spec.xw {P : Program} {f : FuncId} {args : List C} {H : Heap} {Q Q' : X → Heap → Prop} (h : E.Spec P f args H Q) (hq : ∀ x H', Q x H' → ∃ y, XW x y ∧ Q' y H') : E.Spec P f args H Q' :=
  fun c w vs h1 h2 => (h c w vs h1 h2).mono fun _ _ ⟨v, x, H', c', e, q, r, hc, hx⟩ => by
    obtain ⟨y, h3, h4⟩ := hq x H' q
    exact ⟨v, y, H', c', e, h4, h3.2 c' v r, hc, hx⟩

set_option maxRecDepth 20000 in
theorem lv_z (L : GE) (n : Int) (hL : L.length ≤ 100000) (H : Heap) : E.Spec Try.prog 26 [grC .un L, iC n] H fun x H' => x = .c (.g [.t (.sl .ne 2 ((lvE L n).map eT))]) ∧ H' = H := by
  refine Spec.enter Try.func26 rfl ?_
  refine AW.wk (Wk.keep 34 [(0, .c (grC .un L)), (1, .c (iC n))] [] (H) rfl ⟨rfl, rfl, trivial⟩ trivial (fun _ _ h => h) rfl) ?_
  refine AW.seq ?_
  refine AW.reg ?_
  refine SeqK.r (b_box (r := [_]) rfl rfl rfl rfl rfl rfl) rfl ?_
  refine SeqK.r (b_alloc (r := [_]) rfl rfl Fx.ze26 rfl rfl rfl rfl) rfl ?_
  refine SeqK.nil ?_
  refine AW.seq ?_
  refine AW.reg ?_
  refine SeqK.q (q_build2 (zs := [_]) (r := [_]) [(0, 1)] _ rfl Fx.ze26 rfl Fx.bp26 rfl rfl rfl rfl) rfl rfl rfl ?_
  refine SeqK.r (b_alloc (r := [_]) rfl rfl Fx.ze26 rfl rfl rfl rfl) rfl ?_
  refine SeqK.r (b_store (r := [_]) rfl rfl Fx.ty26 rfl rfl rfl rfl rfl rfl) rfl ?_
  refine SeqK.nil ?_
  refine AW.seq ?_
  refine AW.seq ?_
  refine AW.reg ?_
  refine SeqK.q (q_asC rfl rfl) rfl rfl rfl ?_
  refine SeqK.nil ?_
  refine AW.block ?_
  refine AW.tipL 5 0 70 2 rfl rfl (fun k0 hk0 => ?_)
  refine AW.loop (fun (i : Nat) s => ∃ (k5 : Nat) (E : List (List T)), (i ≤ L.length ∧ E = (lvE (L.take i) n).map eT ∧ H k5 = none) ∧ s = ⟨34, sp [(1, .c (iC n)), (2, .lp 2 0), (4, .lp 4 0), (5, .lp 5 0), (6, iX .i64 ((i : Nat) : Int))], lv [(2, .box [.t (.sl .un 2 (L.map eT))]), (4, .box [.t (.v (.slice none 0 0))]), (5, .box [.ts k5 .ne 2 E])], upd H k5 (some (.tip 70 2 E.length))⟩) (fun i => L.length - i) 0 ⟨_, Wk.keep 34 [(1, .c (iC n)), (2, .lp 2 0), (4, .lp 4 0), (5, .lp 5 0), (6, iX .i64 ((((0 : Nat)) : Nat) : Int))] [(2, .box [.t (.sl .un 2 (L.map eT))]), (4, .box [.t (.v (.slice none 0 0))]), (5, .box [.ts (k0) .ne 2 ([])])] (upd H (k0) (some (.tip 70 2 ([]).length))) rfl ⟨rfl, rfl, rfl, rfl, rfl, trivial⟩ ⟨rfl, rfl, rfl, trivial⟩ (fun _ _ h => h) rfl, k0, [], ⟨Nat.zero_le _, rfl, hk0⟩, rfl⟩ (fun i s hs => ?_)
  obtain ⟨k5, E, ⟨hi, hE, hk5⟩, rfl⟩ := hs
  have hEl : E.length ≤ L.length := by rw [hE, List.length_map]; exact Nat.le_trans lvE_len (by simp; omega)
  refine AW.seq ?_
  refine AW.seq ?_
  refine AW.reg ?_
  refine SeqK.q (q_mvC rfl rfl) rfl rfl rfl ?_
  refine SeqK.q (q_fieldL _ rfl Fx.fl26_0 rfl rfl) rfl rfl rfl ?_
  refine SeqK.r (b_load (r := .a _) rfl Fx.ty24 rfl rfl rfl rfl rfl rfl) rfl ?_
  refine SeqK.q (q_len rfl Fx.un24 rfl) rfl rfl rfl ?_
  refine SeqK.q (q_lss rfl rfl rfl) rfl rfl rfl ?_
  refine SeqK.nil ?_
  refine AW.condD rfl (fun h12 => ?_) (fun h12 => ?_)
  ·
    have hka : i < L.length := by simp at h12; omega
    refine AW.skip ?_
    refine AW.seq ?_
    refine AW.block ?_
    refine AW.seq ?_
    refine AW.reg ?_
    refine SeqK.q (q_fieldL _ rfl Fx.fl26_0 rfl rfl) rfl rfl rfl ?_
    refine SeqK.r (b_load (r := .a _) rfl Fx.ty24 rfl rfl rfl rfl rfl rfl) rfl ?_
    refine SeqK.q (q_mvC rfl rfl) rfl rfl rfl ?_
    refine SeqK.q (q_index _ rfl Fx.sl24 rfl rfl (by omega) (idx_map hka)) rfl rfl rfl ?_
    refine SeqK.q (q_indexP _ rfl Fx.ar70 rfl rfl (by omega) (by omega) rfl) rfl rfl rfl ?_
    refine SeqK.q (q_load (.a _) rfl Fx.ty3 rfl rfl rfl) rfl rfl rfl ?_
    refine SeqK.q (q_mvC rfl rfl) rfl rfl rfl ?_
    refine SeqK.q (q_neq rfl rfl rfl) rfl rfl rfl ?_
    refine SeqK.nil ?_
    refine AW.condD rfl (fun h22 => ?_) (fun h22 => ?_)
    ·
      refine AW.drawO [0, 1, 2, 3, 4, 5, 6, 7, 8, 9, 10] Fx.mo (by kernel_rfl) ?_
      refine LexO.q rfl (by kernel_rfl) (q_fieldL _ rfl Fx.fl26_0 rfl rfl) rfl rfl rfl ?_
      refine LexO.r rfl (by kernel_rfl) (b_load (r := .a _) rfl Fx.ty24 rfl rfl rfl rfl rfl rfl) rfl ?_
      refine LexO.q rfl (by kernel_rfl) (q_fieldL _ rfl Fx.fl26_0 rfl rfl) rfl rfl rfl ?_
      refine LexO.r rfl (by kernel_rfl) (b_load (r := .a _) rfl Fx.ty24 rfl rfl rfl rfl rfl rfl) rfl ?_
      refine LexO.q rfl (by kernel_rfl) (q_mvC rfl rfl) rfl rfl rfl ?_
      refine LexO.q rfl (by kernel_rfl) (q_index _ rfl Fx.sl24 rfl rfl (by omega) (idx_map hka)) rfl rfl rfl ?_
      refine LexO.q rfl (by kernel_rfl) (q_load (.g [_, _]) rfl Fx.ty70 rfl rfl rfl) rfl rfl rfl ?_
      refine LexO.q rfl (by kernel_rfl) (q_buildSlice _ rfl Fx.el24 rfl (by decide) rfl) rfl rfl rfl ?_
      refine LexO.app1 rfl (by kernel_rfl) (by kernel_rfl) (by kernel_rfl) rfl (by assumption) rfl Fx.el24 rfl rfl (by simp; omega) rfl rfl (fun k31 hk31 => ?_)
      refine LexO.q rfl (by kernel_rfl) (q_fieldL _ rfl Fx.fl26_0 rfl rfl) rfl rfl rfl ?_
      refine LexO.r rfl (by kernel_rfl) (b_store (r := [_]) rfl rfl Fx.ty24 rfl rfl rfl rfl rfl rfl) rfl ?_
      refine LexO.nil (by kernel_rfl) ?_
      refine AW.reg ?_
      refine SeqK.q (q_mvC rfl rfl) rfl rfl rfl ?_
      refine SeqK.q (q_add _ rfl rfl rfl (w64 (by omega) (by omega))) rfl rfl rfl ?_
      refine SeqK.q (q_asC rfl rfl) rfl rfl rfl ?_
      refine SeqK.nil ?_
      exact ⟨i + 1, _, Wk.keep 34 [(1, .c (iC n)), (2, .lp 2 0), (4, .lp 4 0), (5, .lp 5 0), (6, iX .i64 (((i + 1) : Nat) : Int))] [(2, .box [.t (.sl .un 2 (L.map eT))]), (4, .box [.t (.v (.slice none 0 0))]), (5, .box [.ts (k31) .ne 2 (E ++ [eT L[i]])])] (upd H (k31) (some (.tip 70 2 (E ++ [eT L[i]]).length))) rfl ⟨rfl, rfl, rfl, rfl, rfl, trivial⟩ ⟨rfl, rfl, rfl, trivial⟩ (fun _ _ h => h) rfl, by omega, k31, E ++ [eT L[i]], ⟨by omega, by rw [lvE_succ hka, if_pos (by simp_all), hE]; simp, hk31⟩, rfl⟩
    ·
      refine AW.skip ?_
      refine AW.reg ?_
      refine SeqK.q (q_mvC rfl rfl) rfl rfl rfl ?_
      refine SeqK.q (q_add _ rfl rfl rfl (w64 (by omega) (by omega))) rfl rfl rfl ?_
      refine SeqK.q (q_asC rfl rfl) rfl rfl rfl ?_
      refine SeqK.nil ?_
      exact ⟨i + 1, _, Wk.keep 34 [(1, .c (iC n)), (2, .lp 2 0), (4, .lp 4 0), (5, .lp 5 0), (6, iX .i64 (((i + 1) : Nat) : Int))] [(2, .box [.t (.sl .un 2 (L.map eT))]), (4, .box [.t (.v (.slice none 0 0))]), (5, .box [.ts (k5) .ne 2 (E)])] (upd H (k5) (some (.tip 70 2 (E).length))) rfl ⟨rfl, rfl, rfl, rfl, rfl, trivial⟩ ⟨rfl, rfl, rfl, trivial⟩ (fun _ _ h => h) rfl, by omega, k5, E, ⟨by omega, by rw [lvE_succ hka, if_neg (by simp_all), hE]; simp, hk5⟩, rfl⟩
  ·
    refine AW.exit ?_
    refine eth_e ?_
    refine eth_e ?_
    refine exit_here ?_
    refine AW.seq ?_
    refine AW.reg ?_
    refine SeqK.r (b_load (r := .g [_]) rfl Fx.ty26 rfl rfl rfl rfl rfl rfl) rfl ?_
    refine SeqK.r (b_store (r := [_]) rfl rfl Fx.ty26 rfl rfl rfl rfl rfl rfl) rfl ?_
    refine SeqK.nil ?_
    refine AW.ret ?_
    have hEL : E = (lvE L n).map eT := by rw [hE, List.take_of_length_le (by simp at h12; omega)]
    subst hEL
    exact fin_w (x := .c _) (H) (.cellL rfl rfl Fx.ty26 rfl rfl .nil) rfl (upd_sub hk5) (⟨rfl, rfl⟩)

theorem lv_any (L : GE) (n : Int) (hL : L.length ≤ 100000) : Pure Try.prog 26 [grC .un L, iC n] (.c (grC .un (lvE L n))) := fun H =>
  Spec.xw (lv_z L n hL H) fun x H' ⟨h1, h2⟩ => ⟨_, by rw [h1]; exact XW.gsl, rfl, h2⟩
set_option maxRecDepth 20000 in
theorem rm_z (L : GE) (n : Int) (hL : L.length ≤ 100000) (H : Heap) : E.Spec Try.prog 27 [grC .un L, iC n] H fun x H' => x = .c (.g [.t (.sl .ne 2 ((rmE L n).map eT))]) ∧ H' = H := by
  refine Spec.enter Try.func27 rfl ?_
  refine AW.wk (Wk.keep 44 [(0, .c (grC .un L)), (1, .c (iC n))] [] (H) rfl ⟨rfl, rfl, trivial⟩ trivial (fun _ _ h => h) rfl) ?_
  refine AW.seq ?_
  refine AW.reg ?_
  refine SeqK.r (b_box (r := [_]) rfl rfl rfl rfl rfl rfl) rfl ?_
  refine SeqK.r (b_alloc (r := [_]) rfl rfl Fx.ze26 rfl rfl rfl rfl) rfl ?_
  refine SeqK.nil ?_
  refine AW.seq ?_
  refine AW.reg ?_
  refine SeqK.q (q_build2 (zs := [_]) (r := [_]) [(0, 1)] _ rfl Fx.ze26 rfl Fx.bp26 rfl rfl rfl rfl) rfl rfl rfl ?_
  refine SeqK.r (b_alloc (r := [_]) rfl rfl Fx.ze26 rfl rfl rfl rfl) rfl ?_
  refine SeqK.r (b_store (r := [_]) rfl rfl Fx.ty26 rfl rfl rfl rfl rfl rfl) rfl ?_
  refine SeqK.nil ?_
  refine AW.seq ?_
  refine AW.seq ?_
  refine AW.reg ?_
  refine SeqK.q (q_asC rfl rfl) rfl rfl rfl ?_
  refine SeqK.nil ?_
  refine AW.block ?_
  refine AW.tipL 5 0 70 2 rfl rfl (fun k0 hk0 => ?_)
  refine AW.loop (fun (i : Nat) s => ∃ (k5 : Nat) (E : List (List T)), (i ≤ L.length ∧ E = (rmE (L.take i) n).map eT ∧ H k5 = none) ∧ s = ⟨44, sp [(1, .c (iC n)), (2, .lp 2 0), (4, .lp 4 0), (5, .lp 5 0), (6, iX .i64 ((i : Nat) : Int))], lv [(2, .box [.t (.sl .un 2 (L.map eT))]), (4, .box [.t (.v (.slice none 0 0))]), (5, .box [.ts k5 .ne 2 E])], upd H k5 (some (.tip 70 2 E.length))⟩) (fun i => L.length - i) 0 ⟨_, Wk.keep 44 [(1, .c (iC n)), (2, .lp 2 0), (4, .lp 4 0), (5, .lp 5 0), (6, iX .i64 ((((0 : Nat)) : Nat) : Int))] [(2, .box [.t (.sl .un 2 (L.map eT))]), (4, .box [.t (.v (.slice none 0 0))]), (5, .box [.ts (k0) .ne 2 ([])])] (upd H (k0) (some (.tip 70 2 ([]).length))) rfl ⟨rfl, rfl, rfl, rfl, rfl, trivial⟩ ⟨rfl, rfl, rfl, trivial⟩ (fun _ _ h => h) rfl, k0, [], ⟨Nat.zero_le _, rfl, hk0⟩, rfl⟩ (fun i s hs => ?_)
  obtain ⟨k5, E, ⟨hi, hE, hk5⟩, rfl⟩ := hs
  have hEl : E.length ≤ L.length := by rw [hE, List.length_map]; exact Nat.le_trans rmE_len (by simp; omega)
  refine AW.seq ?_
  refine AW.seq ?_
  refine AW.reg ?_
  refine SeqK.q (q_mvC rfl rfl) rfl rfl rfl ?_
  refine SeqK.q (q_fieldL _ rfl Fx.fl26_0 rfl rfl) rfl rfl rfl ?_
  refine SeqK.r (b_load (r := .a _) rfl Fx.ty24 rfl rfl rfl rfl rfl rfl) rfl ?_
  refine SeqK.q (q_len rfl Fx.un24 rfl) rfl rfl rfl ?_
  refine SeqK.q (q_lss rfl rfl rfl) rfl rfl rfl ?_
  refine SeqK.nil ?_
  refine AW.condD rfl (fun h12 => ?_) (fun h12 => ?_)
  ·
    have hka : i < L.length := by simp at h12; omega
    refine AW.skip ?_
    refine AW.seq ?_
    refine AW.block ?_
    refine AW.seq ?_
    refine AW.reg ?_
    refine SeqK.q (q_fieldL _ rfl Fx.fl26_0 rfl rfl) rfl rfl rfl ?_
    refine SeqK.r (b_load (r := .a _) rfl Fx.ty24 rfl rfl rfl rfl rfl rfl) rfl ?_
    refine SeqK.q (q_mvC rfl rfl) rfl rfl rfl ?_
    refine SeqK.q (q_index _ rfl Fx.sl24 rfl rfl (by omega) (idx_map hka)) rfl rfl rfl ?_
    refine SeqK.q (q_indexP _ rfl Fx.ar70 rfl rfl (by omega) (by omega) rfl) rfl rfl rfl ?_
    refine SeqK.q (q_load (.a _) rfl Fx.ty3 rfl rfl rfl) rfl rfl rfl ?_
    refine SeqK.q (q_mvC rfl rfl) rfl rfl rfl ?_
    refine SeqK.q (q_neq rfl rfl rfl) rfl rfl rfl ?_
    refine SeqK.qD (q_mvC rfl rfl) rfl rfl rfl (fun g23 => ?_) (fun g23 => ?_)
    ·
      refine SeqK.on (q_fieldL _ rfl Fx.fl26_0 rfl rfl) rfl rfl rfl rfl rfl ?_
      refine SeqK.rOn (b_load (r := .a _) rfl Fx.ty24 rfl rfl rfl rfl rfl rfl) rfl rfl rfl ?_
      refine SeqK.on (q_mvC rfl rfl) rfl rfl rfl rfl rfl ?_
      refine SeqK.on (q_index _ rfl Fx.sl24 rfl rfl (by omega) (idx_map hka)) rfl rfl rfl rfl rfl ?_
      refine SeqK.on (q_indexP _ rfl Fx.ar70 rfl rfl (by omega) (by omega) rfl) rfl rfl rfl rfl rfl ?_
      refine SeqK.on (q_load (.a _) rfl Fx.ty3 rfl rfl rfl) rfl rfl rfl rfl rfl ?_
      refine SeqK.on (q_mvC rfl rfl) rfl rfl rfl rfl rfl ?_
      refine SeqK.on (q_neq rfl rfl rfl) rfl rfl rfl rfl rfl ?_
      refine SeqK.q (q_pkT rfl rfl rfl) rfl rfl rfl ?_
      refine SeqK.nil ?_
      refine AW.condD rfl (fun h32 => ?_) (fun h32 => ?_)
      ·
        refine AW.drawO [0, 1, 2, 3, 4, 5, 6, 7, 8, 9, 10] Fx.mo (by kernel_rfl) ?_
        refine LexO.q rfl (by kernel_rfl) (q_fieldL _ rfl Fx.fl26_0 rfl rfl) rfl rfl rfl ?_
        refine LexO.r rfl (by kernel_rfl) (b_load (r := .a _) rfl Fx.ty24 rfl rfl rfl rfl rfl rfl) rfl ?_
        refine LexO.q rfl (by kernel_rfl) (q_fieldL _ rfl Fx.fl26_0 rfl rfl) rfl rfl rfl ?_
        refine LexO.r rfl (by kernel_rfl) (b_load (r := .a _) rfl Fx.ty24 rfl rfl rfl rfl rfl rfl) rfl ?_
        refine LexO.q rfl (by kernel_rfl) (q_mvC rfl rfl) rfl rfl rfl ?_
        refine LexO.q rfl (by kernel_rfl) (q_index _ rfl Fx.sl24 rfl rfl (by omega) (idx_map hka)) rfl rfl rfl ?_
        refine LexO.q rfl (by kernel_rfl) (q_load (.g [_, _]) rfl Fx.ty70 rfl rfl rfl) rfl rfl rfl ?_
        refine LexO.q rfl (by kernel_rfl) (q_buildSlice _ rfl Fx.el24 rfl (by decide) rfl) rfl rfl rfl ?_
        refine LexO.app1 rfl (by kernel_rfl) (by kernel_rfl) (by kernel_rfl) rfl (by assumption) rfl Fx.el24 rfl rfl (by simp; omega) rfl rfl (fun k41 hk41 => ?_)
        refine LexO.q rfl (by kernel_rfl) (q_fieldL _ rfl Fx.fl26_0 rfl rfl) rfl rfl rfl ?_
        refine LexO.r rfl (by kernel_rfl) (b_store (r := [_]) rfl rfl Fx.ty24 rfl rfl rfl rfl rfl rfl) rfl ?_
        refine LexO.nil (by kernel_rfl) ?_
        refine AW.reg ?_
        refine SeqK.q (q_mvC rfl rfl) rfl rfl rfl ?_
        refine SeqK.q (q_add _ rfl rfl rfl (w64 (by omega) (by omega))) rfl rfl rfl ?_
        refine SeqK.q (q_asC rfl rfl) rfl rfl rfl ?_
        refine SeqK.nil ?_
        exact ⟨i + 1, _, Wk.keep 44 [(1, .c (iC n)), (2, .lp 2 0), (4, .lp 4 0), (5, .lp 5 0), (6, iX .i64 (((i + 1) : Nat) : Int))] [(2, .box [.t (.sl .un 2 (L.map eT))]), (4, .box [.t (.v (.slice none 0 0))]), (5, .box [.ts (k41) .ne 2 (E ++ [eT L[i]])])] (upd H (k41) (some (.tip 70 2 (E ++ [eT L[i]]).length))) rfl ⟨rfl, rfl, rfl, rfl, rfl, trivial⟩ ⟨rfl, rfl, rfl, trivial⟩ (fun _ _ h => h) rfl, by omega, k41, E ++ [eT L[i]], ⟨by omega, by rw [rmE_succ hka, if_pos (by simp_all), hE]; simp, hk41⟩, rfl⟩
      ·
        refine AW.skip ?_
        refine AW.reg ?_
        refine SeqK.q (q_mvC rfl rfl) rfl rfl rfl ?_
        refine SeqK.q (q_add _ rfl rfl rfl (w64 (by omega) (by omega))) rfl rfl rfl ?_
        refine SeqK.q (q_asC rfl rfl) rfl rfl rfl ?_
        refine SeqK.nil ?_
        exact ⟨i + 1, _, Wk.keep 44 [(1, .c (iC n)), (2, .lp 2 0), (4, .lp 4 0), (5, .lp 5 0), (6, iX .i64 (((i + 1) : Nat) : Int))] [(2, .box [.t (.sl .un 2 (L.map eT))]), (4, .box [.t (.v (.slice none 0 0))]), (5, .box [.ts (k5) .ne 2 (E)])] (upd H (k5) (some (.tip 70 2 (E).length))) rfl ⟨rfl, rfl, rfl, rfl, rfl, trivial⟩ ⟨rfl, rfl, rfl, trivial⟩ (fun _ _ h => h) rfl, by omega, k5, E, ⟨by omega, by rw [rmE_succ hka, if_neg (by simp_all), hE]; simp, hk5⟩, rfl⟩
    ·
      refine SeqK.off rfl rfl rfl rfl rfl rfl ?_
      refine SeqK.off rfl rfl rfl rfl rfl rfl ?_
      refine SeqK.off rfl rfl rfl rfl rfl rfl ?_
      refine SeqK.off rfl rfl rfl rfl rfl rfl ?_
      refine SeqK.off rfl rfl rfl rfl rfl rfl ?_
      refine SeqK.off rfl rfl rfl rfl rfl rfl ?_
      refine SeqK.off rfl rfl rfl rfl rfl rfl ?_
      refine SeqK.off rfl rfl rfl rfl rfl rfl ?_
      refine SeqK.q (q_pkF rfl rfl rfl) rfl rfl rfl ?_
      refine SeqK.nil ?_
      refine AW.condF rfl ?_
      refine AW.skip ?_
      refine AW.reg ?_
      refine SeqK.q (q_mvC rfl rfl) rfl rfl rfl ?_
      refine SeqK.q (q_add _ rfl rfl rfl (w64 (by omega) (by omega))) rfl rfl rfl ?_
      refine SeqK.q (q_asC rfl rfl) rfl rfl rfl ?_
      refine SeqK.nil ?_
      exact ⟨i + 1, _, Wk.keep 44 [(1, .c (iC n)), (2, .lp 2 0), (4, .lp 4 0), (5, .lp 5 0), (6, iX .i64 (((i + 1) : Nat) : Int))] [(2, .box [.t (.sl .un 2 (L.map eT))]), (4, .box [.t (.v (.slice none 0 0))]), (5, .box [.ts (k5) .ne 2 (E)])] (upd H (k5) (some (.tip 70 2 (E).length))) rfl ⟨rfl, rfl, rfl, rfl, rfl, trivial⟩ ⟨rfl, rfl, rfl, trivial⟩ (fun _ _ h => h) rfl, by omega, k5, E, ⟨by omega, by rw [rmE_succ hka, if_neg (by simp_all), hE]; simp, hk5⟩, rfl⟩
  ·
    refine AW.exit ?_
    refine eth_e ?_
    refine eth_e ?_
    refine exit_here ?_
    refine AW.seq ?_
    refine AW.reg ?_
    refine SeqK.r (b_load (r := .g [_]) rfl Fx.ty26 rfl rfl rfl rfl rfl rfl) rfl ?_
    refine SeqK.r (b_store (r := [_]) rfl rfl Fx.ty26 rfl rfl rfl rfl rfl rfl) rfl ?_
    refine SeqK.nil ?_
    refine AW.ret ?_
    have hEL : E = (rmE L n).map eT := by rw [hE, List.take_of_length_le (by simp at h12; omega)]
    subst hEL
    exact fin_w (x := .c _) (H) (.cellL rfl rfl Fx.ty26 rfl rfl .nil) rfl (upd_sub hk5) (⟨rfl, rfl⟩)

theorem rm_any (L : GE) (n : Int) (hL : L.length ≤ 100000) : Pure Try.prog 27 [grC .un L, iC n] (.c (grC .un (rmE L n))) := fun H =>
  Spec.xw (rm_z L n hL H) fun x H' ⟨h1, h2⟩ => ⟨_, by rw [h1]; exact XW.gsl, rfl, h2⟩
end Go.Proofs.Ytikcmjamioopbaa.W
namespace Go.Proofs.Ytikcmjamioopbaa.W
open Go.RowKit E M
set_option linter.unusedVariables false
set_option linter.unusedSimpArgs false
set_option linter.unusedSectionVars false
theorem Spec.freezeOr {P : Program} {f : FuncId} {args : List C} {H : Heap} {Q Q' : X → Heap → Prop} (h : E.Spec P f args H Q)
    (hq : ∀ x H', Q x H' → Q' x H' ∨ ∃ k sz e es, H' k = some (.row e sz (es.flatten.map .t)) ∧ (∀ e ∈ es, e.length = sz) ∧ 0 < sz ∧ Q' (fzX k sz es x) (upd H' k none)) : E.Spec P f args H Q' :=
  fun c w vs h1 h2 => (h c w vs h1 h2).mono fun _ _ ⟨v, x, H', c', e, q, r, hc, hx⟩ => by
    rcases hq x H' q with q | ⟨k, sz, e0, es, q1, q2, q3, q4⟩
    · exact ⟨v, x, H', c', e, q, r, hc, hx⟩
    · obtain ⟨μ', hm, hc', hx', hv⟩ := hc.freeze (k := k) q1 q2 q3
      have ho : drop k (ownH H') = ownH (upd H' k none) := by
        funext j; cases j <;> rfl
      rw [ho] at hc' hx'
      exact ⟨v, _, _, _, e, q4, fzX_rep hm hv r, hc', hx.trans hx'⟩
theorem put_at {n : Int} : ∀ {l : List Int} {k : Nat}, k ≤ l.length → (∀ j (h : j < l.length), j < k → l[j] < n) → (∀ h : k < l.length, ¬ l[k] < n) → put ltI l n = if ∃ h : k < l.length, l[k] = n then l else l.take k ++ n :: l.drop k
  | [], 0, _, _, _ => by simp [put]
  | [], k + 1, h, _, _ => by simp at h
  | x :: r, 0, _, _, h => by
    have h1 := h (by simp)
    simp only [List.getElem_cons_zero] at h1
    unfold put
    rw [if_neg (by simpa [ltI] using h1)]
    by_cases e : x = n
    · subst e; simp
    · rw [if_neg e, if_neg (by rintro ⟨_, h2⟩; exact e h2)]; simp
  | x :: r, k + 1, hk, hl, h => by
    have h1 := hl 0 (by simp) (by omega)
    simp only [List.getElem_cons_zero] at h1
    unfold put
    rw [if_pos (by simpa [ltI] using h1), put_at (k := k) (by simpa using hk) (fun j hj hjk => by have := hl (j + 1) (by simpa using hj) (by omega); simpa using this) (fun hj => by have := h (by simpa using hj); simpa using this)]
    by_cases e : ∃ h : k < r.length, r[k] = n
    · rw [if_pos e, if_pos (by obtain ⟨h2, h3⟩ := e; exact ⟨by simpa using h2, by simpa using h3⟩)]
    · rw [if_neg e, if_neg (by rintro ⟨h2, h3⟩; exact e ⟨by simpa using h2, by simpa using h3⟩)]; simp
theorem putI_len {l : List Int} {n : Int} : (put ltI l n).length ≤ l.length + 1 := put_len
theorem rowI {l : List Int} : (l.map i64T).flatten.map A.t = l.map i64A := by
  induction l with
  | nil => rfl
  | cons a l ih => simp only [List.map_cons, List.flatten_cons, List.map_append, ih]; rfl
theorem tk_len {l : List Int} {k : Nat} : ((((l.map i64T).take k).flatten).map A.t).length = ((l.map i64T).take k).length * 1 := by
  rw [List.length_map, flat_length (sz := 1) _ (fun e he => by obtain ⟨s, _, rfl⟩ := List.mem_map.1 (List.mem_of_mem_take he); rfl)]

set_option maxRecDepth 20000 in
theorem put_r (l : List Int) (n : Int) (hl : l.length ≤ 1000000) (H : Heap) : E.Spec Try.prog 37 [iL .un l, iC n] H fun x H' => (put ltI l n = l ∧ x = .c (iL .un l) ∧ H' = H) ∨ ∃ k, H k = none ∧ x = .c (.a (.os k 0 (put ltI l n).length 1)) ∧ H' = upd H k (some (.row 3 1 ((put ltI l n).map i64A))) := by
  refine Spec.enter Try.func37 rfl ?_
  refine AW.wk (Wk.keep 45 [(0, .c (iL .un l)), (1, .c (iC n))] [] (H) rfl ⟨rfl, rfl, trivial⟩ trivial (fun _ _ h => h) rfl) ?_
  refine AW.seq ?_
  refine AW.reg ?_
  refine SeqK.q (q_asC rfl rfl) rfl rfl rfl ?_
  refine SeqK.nil ?_
  refine AW.seq ?_
  refine AW.reg ?_
  refine SeqK.q (q_asC rfl rfl) rfl rfl rfl ?_
  refine SeqK.nil ?_
  refine AW.seq ?_
  refine AW.block ?_
  refine AW.loop (fun (k : Nat) s => (k ≤ l.length ∧ ∀ j (h : j < l.length), j < k → l[j] < n) ∧ s = ⟨45, sp [(0, .c (iL .un l)), (1, .c (iC n)), (5, iX .i64 ((k : Nat) : Int))], lv [], H⟩) (fun k => l.length - k) 0 ⟨_, Wk.keep 45 [(0, .c (iL .un l)), (1, .c (iC n)), (5, iX .i64 ((((0 : Nat)) : Nat) : Int))] [] (H) rfl ⟨rfl, rfl, rfl, trivial⟩ trivial (fun _ _ h => h) rfl, ⟨Nat.zero_le _, fun j _ h => absurd h (Nat.not_lt_zero _)⟩, rfl⟩ (fun k s hs => ?_)
  obtain ⟨⟨hk, hpre⟩, rfl⟩ := hs
  refine AW.seq ?_
  refine AW.seq ?_
  refine AW.reg ?_
  refine SeqK.q (q_mvC rfl rfl) rfl rfl rfl ?_
  refine SeqK.q (q_mvC rfl rfl) rfl rfl rfl ?_
  refine SeqK.q (q_len rfl Fx.un30 rfl) rfl rfl rfl ?_
  refine SeqK.q (q_lss rfl rfl rfl) rfl rfl rfl ?_
  refine SeqK.qD (q_mvC rfl rfl) rfl rfl rfl (fun g10 => ?_) (fun g10 => ?_)
  ·
    have hlk : k < l.length := by simp at g10; omega
    refine SeqK.on (q_mvC rfl rfl) rfl rfl rfl rfl rfl ?_
    refine SeqK.on (q_mvC rfl rfl) rfl rfl rfl rfl rfl ?_
    refine SeqK.on (q_index _ rfl Fx.sl30 rfl rfl (by omega) (idx_map hlk)) rfl rfl rfl rfl rfl ?_
    refine SeqK.on (q_load (.a _) rfl Fx.ty3 rfl rfl rfl) rfl rfl rfl rfl rfl ?_
    refine SeqK.on (q_mvC rfl rfl) rfl rfl rfl rfl rfl ?_
    refine SeqK.on (q_lss rfl rfl rfl) rfl rfl rfl rfl rfl ?_
    refine SeqK.q (q_pkT rfl rfl rfl) rfl rfl rfl ?_
    refine SeqK.nil ?_
    refine AW.condD rfl (fun h17 => ?_) (fun h17 => ?_)
    ·
      refine AW.skip ?_
      refine AW.block ?_
      refine AW.reg ?_
      refine SeqK.q (q_mvC rfl rfl) rfl rfl rfl ?_
      refine SeqK.q (q_add _ rfl rfl rfl (w64 (by omega) (by omega))) rfl rfl rfl ?_
      refine SeqK.q (q_asC rfl rfl) rfl rfl rfl ?_
      refine SeqK.nil ?_
      exact ⟨k + 1, _, Wk.keep 45 [(0, .c (iL .un l)), (1, .c (iC n)), (5, iX .i64 (((k + 1) : Nat) : Int))] [] (H) rfl ⟨rfl, rfl, rfl, trivial⟩ trivial (fun _ _ h => h) rfl, by omega, ⟨by omega, fun j hj h9 => by
        rcases Nat.lt_or_ge j k with h | h
        · exact hpre j hj h
        · obtain rfl : j = k := by omega
          simpa using h17⟩, rfl⟩
    ·
      refine AW.exit ?_
      refine eth_e ?_
      refine eth_e ?_
      refine exit_here ?_
      refine AW.seq ?_
      refine AW.seq ?_
      have hnlt : ∀ h : k < l.length, ¬ l[k] < n := by intro h; first | exact h17 | (simp at g10; omega)
      have hput := put_at hk hpre hnlt
      refine AW.reg ?_
      refine SeqK.q (q_mvC rfl rfl) rfl rfl rfl ?_
      refine SeqK.q (q_mvC rfl rfl) rfl rfl rfl ?_
      refine SeqK.q (q_len rfl Fx.un30 rfl) rfl rfl rfl ?_
      refine SeqK.q (q_lss rfl rfl rfl) rfl rfl rfl ?_
      refine SeqK.qD (q_mvC rfl rfl) rfl rfl rfl (fun g24 => ?_) (fun g24 => ?_)
      ·
        have hlk : k < l.length := by simp at g24; omega
        refine SeqK.on (q_mvC rfl rfl) rfl rfl rfl rfl rfl ?_
        refine SeqK.on (q_mvC rfl rfl) rfl rfl rfl rfl rfl ?_
        refine SeqK.on (q_index _ rfl Fx.sl30 rfl rfl (by omega) (idx_map hlk)) rfl rfl rfl rfl rfl ?_
        refine SeqK.on (q_load (.a _) rfl Fx.ty3 rfl rfl rfl) rfl rfl rfl rfl rfl ?_
        refine SeqK.on (q_mvC rfl rfl) rfl rfl rfl rfl rfl ?_
        refine SeqK.on (q_eql rfl rfl rfl) rfl rfl rfl rfl rfl ?_
        refine SeqK.q (q_pkT rfl rfl rfl) rfl rfl rfl ?_
        refine SeqK.nil ?_
        refine AW.condD rfl (fun h31 => ?_) (fun h31 => ?_)
        ·
          refine AW.seq ?_
          refine AW.reg ?_
          refine SeqK.q (q_mvC rfl rfl) rfl rfl rfl ?_
          refine SeqK.q (q_asC rfl rfl) rfl rfl rfl ?_
          refine SeqK.nil ?_
          refine AW.ret ?_
          exact fin_x (x := .c _) (H) (.tmp rfl .nil) rfl (fun _ _ h => h) (.inl ⟨by rw [hput, if_pos ⟨by assumption, by simpa using h31⟩], rfl, rfl⟩)
        ·
          refine AW.skip ?_
          refine AW.seq ?_
          refine AW.drawO [0, 1, 2, 3, 5, 6, 8, 9, 10, 4, 7, 11, 12] Fx.mo (by kernel_rfl) ?_
          refine LexO.q rfl (by kernel_rfl) (q_build0 rfl Fx.el30) rfl rfl rfl ?_
          refine LexO.q rfl (by kernel_rfl) (q_mvC rfl rfl) rfl rfl rfl ?_
          refine LexO.q rfl (by kernel_rfl) (q_mvC rfl rfl) rfl rfl rfl ?_
          refine LexO.q rfl (by kernel_rfl) (q_cut _ _ _ rfl Fx.sl30 rfl (by first | rfl | exact ⟨_, rfl⟩) (by first | rfl | exact ⟨_, rfl⟩) (by omega) (by simp; omega) (by simp [List.map_take] : _ = (l.take k).map i64T)) rfl rfl rfl ?_
          refine LexO.q rfl (by kernel_rfl) (q_mvC rfl rfl) rfl rfl rfl ?_
          refine LexO.q rfl (by kernel_rfl) (q_buildSlice _ rfl Fx.el30 rfl (by decide) rfl) rfl rfl rfl ?_
          refine LexO.q rfl (by kernel_rfl) (q_mvC rfl rfl) rfl rfl rfl ?_
          refine LexO.q rfl (by kernel_rfl) (q_mvC rfl rfl) rfl rfl rfl ?_
          refine LexO.q rfl (by kernel_rfl) (q_cut _ _ _ rfl Fx.sl30 rfl (by first | rfl | exact ⟨_, rfl⟩) (by first | rfl | exact ⟨_, rfl⟩) (by simp; omega) (by simp) (by rw [List.take_length, List.map_drop] : _ = (l.drop k).map i64T)) rfl rfl rfl ?_
          refine LexO.appZR rfl (by kernel_rfl) (by kernel_rfl) (by kernel_rfl) rfl rfl Fx.el30 rfl rfl (by simp; omega) rfl rfl (fun k37 hk37 => ?_)
          refine LexO.appR1 rfl (by kernel_rfl) (by kernel_rfl) (by kernel_rfl) rfl (by assumption) rfl Fx.el30 rfl (by rw [rowI]; simp) rfl (by simp; omega) rfl rfl (fun k40 hk40 => ?_)
          refine LexO.appR1 rfl (by kernel_rfl) (by kernel_rfl) (by kernel_rfl) rfl (by assumption) rfl Fx.el30 rfl (by rw [rowI]; simp) rfl (by simp; omega) rfl rfl (fun k44 hk44 => ?_)
          refine LexO.q rfl (by kernel_rfl) (q_asC rfl rfl) rfl rfl rfl ?_
          refine LexO.nil (by kernel_rfl) ?_
          refine AW.ret ?_
          have e : put ltI l n = l.take k ++ n :: l.drop k := by
            rw [hput, if_neg]; rintro ⟨h1, h2⟩; first | exact h31 (by simpa using h2) | (simp at g24; omega)
          exact fin_x (x := .c _) (_) (.tmp rfl .nil) rfl (fun _ _ h => h) (.inr ⟨k44, hk44, by rw [e]; simp; omega, by rw [e]; rw [rowI, rowI]; simp⟩)
      ·
        refine SeqK.off rfl rfl rfl rfl rfl rfl ?_
        refine SeqK.off rfl rfl rfl rfl rfl rfl ?_
        refine SeqK.off rfl rfl rfl rfl rfl rfl ?_
        refine SeqK.off rfl rfl rfl rfl rfl rfl ?_
        refine SeqK.off rfl rfl rfl rfl rfl rfl ?_
        refine SeqK.off rfl rfl rfl rfl rfl rfl ?_
        refine SeqK.q (q_pkF rfl rfl rfl) rfl rfl rfl ?_
        refine SeqK.nil ?_
        refine AW.condF rfl ?_
        refine AW.skip ?_
        refine AW.seq ?_
        refine AW.drawO [0, 1, 2, 3, 5, 6, 8, 9, 10, 4, 7, 11, 12] Fx.mo (by kernel_rfl) ?_
        refine LexO.q rfl (by kernel_rfl) (q_build0 rfl Fx.el30) rfl rfl rfl ?_
        refine LexO.q rfl (by kernel_rfl) (q_mvC rfl rfl) rfl rfl rfl ?_
        refine LexO.q rfl (by kernel_rfl) (q_mvC rfl rfl) rfl rfl rfl ?_
        refine LexO.q rfl (by kernel_rfl) (q_cut _ _ _ rfl Fx.sl30 rfl (by first | rfl | exact ⟨_, rfl⟩) (by first | rfl | exact ⟨_, rfl⟩) (by omega) (by simp; omega) (by simp [List.map_take] : _ = (l.take k).map i64T)) rfl rfl rfl ?_
        refine LexO.q rfl (by kernel_rfl) (q_mvC rfl rfl) rfl rfl rfl ?_
        refine LexO.q rfl (by kernel_rfl) (q_buildSlice _ rfl Fx.el30 rfl (by decide) rfl) rfl rfl rfl ?_
        refine LexO.q rfl (by kernel_rfl) (q_mvC rfl rfl) rfl rfl rfl ?_
        refine LexO.q rfl (by kernel_rfl) (q_mvC rfl rfl) rfl rfl rfl ?_
        refine LexO.q rfl (by kernel_rfl) (q_cut _ _ _ rfl Fx.sl30 rfl (by first | rfl | exact ⟨_, rfl⟩) (by first | rfl | exact ⟨_, rfl⟩) (by simp; omega) (by simp) (by rw [List.take_length, List.map_drop] : _ = (l.drop k).map i64T)) rfl rfl rfl ?_
        refine LexO.appZR rfl (by kernel_rfl) (by kernel_rfl) (by kernel_rfl) rfl rfl Fx.el30 rfl rfl (by simp; omega) rfl rfl (fun k37 hk37 => ?_)
        refine LexO.appR1 rfl (by kernel_rfl) (by kernel_rfl) (by kernel_rfl) rfl (by assumption) rfl Fx.el30 rfl (by rw [rowI]; simp) rfl (by simp; omega) rfl rfl (fun k40 hk40 => ?_)
        refine LexO.appR1 rfl (by kernel_rfl) (by kernel_rfl) (by kernel_rfl) rfl (by assumption) rfl Fx.el30 rfl (by rw [rowI]; simp) rfl (by simp; omega) rfl rfl (fun k44 hk44 => ?_)
        refine LexO.q rfl (by kernel_rfl) (q_asC rfl rfl) rfl rfl rfl ?_
        refine LexO.nil (by kernel_rfl) ?_
        refine AW.ret ?_
        have e : put ltI l n = l.take k ++ n :: l.drop k := by
          rw [hput, if_neg]; rintro ⟨h1, h2⟩; first | exact h31 (by simpa using h2) | (simp at g24; omega)
        exact fin_x (x := .c _) (_) (.tmp rfl .nil) rfl (fun _ _ h => h) (.inr ⟨k44, hk44, by rw [e]; simp; omega, by rw [e]; rw [rowI, rowI]; simp⟩)
  ·
    refine SeqK.off rfl rfl rfl rfl rfl rfl ?_
    refine SeqK.off rfl rfl rfl rfl rfl rfl ?_
    refine SeqK.off rfl rfl rfl rfl rfl rfl ?_
    refine SeqK.off rfl rfl rfl rfl rfl rfl ?_
    refine SeqK.off rfl rfl rfl rfl rfl rfl ?_
    refine SeqK.off rfl rfl rfl rfl rfl rfl ?_
    refine SeqK.q (q_pkF rfl rfl rfl) rfl rfl rfl ?_
    refine SeqK.nil ?_
    refine AW.condF rfl ?_
    refine AW.exit ?_
    refine eth_e ?_
    refine eth_e ?_
    refine exit_here ?_
    refine AW.seq ?_
    refine AW.seq ?_
    have hnlt : ∀ h : k < l.length, ¬ l[k] < n := by intro h; first | exact h17 | (simp at g10; omega)
    have hput := put_at hk hpre hnlt
    refine AW.reg ?_
    refine SeqK.q (q_mvC rfl rfl) rfl rfl rfl ?_
    refine SeqK.q (q_mvC rfl rfl) rfl rfl rfl ?_
    refine SeqK.q (q_len rfl Fx.un30 rfl) rfl rfl rfl ?_
    refine SeqK.q (q_lss rfl rfl rfl) rfl rfl rfl ?_
    refine SeqK.qD (q_mvC rfl rfl) rfl rfl rfl (fun g24 => ?_) (fun g24 => ?_)
    ·
      have hlk : k < l.length := by simp at g24; omega
      refine SeqK.on (q_mvC rfl rfl) rfl rfl rfl rfl rfl ?_
      refine SeqK.on (q_mvC rfl rfl) rfl rfl rfl rfl rfl ?_
      refine SeqK.on (q_index _ rfl Fx.sl30 rfl rfl (by omega) (idx_map hlk)) rfl rfl rfl rfl rfl ?_
      refine SeqK.on (q_load (.a _) rfl Fx.ty3 rfl rfl rfl) rfl rfl rfl rfl rfl ?_
      refine SeqK.on (q_mvC rfl rfl) rfl rfl rfl rfl rfl ?_
      refine SeqK.on (q_eql rfl rfl rfl) rfl rfl rfl rfl rfl ?_
      refine SeqK.q (q_pkT rfl rfl rfl) rfl rfl rfl ?_
      refine SeqK.nil ?_
      refine AW.condD rfl (fun h31 => ?_) (fun h31 => ?_)
      ·
        refine AW.seq ?_
        refine AW.reg ?_
        refine SeqK.q (q_mvC rfl rfl) rfl rfl rfl ?_
        refine SeqK.q (q_asC rfl rfl) rfl rfl rfl ?_
        refine SeqK.nil ?_
        refine AW.ret ?_
        exact fin_x (x := .c _) (H) (.tmp rfl .nil) rfl (fun _ _ h => h) (.inl ⟨by rw [hput, if_pos ⟨by assumption, by simpa using h31⟩], rfl, rfl⟩)
      ·
        refine AW.skip ?_
        refine AW.seq ?_
        refine AW.drawO [0, 1, 2, 3, 5, 6, 8, 9, 10, 4, 7, 11, 12] Fx.mo (by kernel_rfl) ?_
        refine LexO.q rfl (by kernel_rfl) (q_build0 rfl Fx.el30) rfl rfl rfl ?_
        refine LexO.q rfl (by kernel_rfl) (q_mvC rfl rfl) rfl rfl rfl ?_
        refine LexO.q rfl (by kernel_rfl) (q_mvC rfl rfl) rfl rfl rfl ?_
        refine LexO.q rfl (by kernel_rfl) (q_cut _ _ _ rfl Fx.sl30 rfl (by first | rfl | exact ⟨_, rfl⟩) (by first | rfl | exact ⟨_, rfl⟩) (by omega) (by simp; omega) (by simp [List.map_take] : _ = (l.take k).map i64T)) rfl rfl rfl ?_
        refine LexO.q rfl (by kernel_rfl) (q_mvC rfl rfl) rfl rfl rfl ?_
        refine LexO.q rfl (by kernel_rfl) (q_buildSlice _ rfl Fx.el30 rfl (by decide) rfl) rfl rfl rfl ?_
        refine LexO.q rfl (by kernel_rfl) (q_mvC rfl rfl) rfl rfl rfl ?_
        refine LexO.q rfl (by kernel_rfl) (q_mvC rfl rfl) rfl rfl rfl ?_
        refine LexO.q rfl (by kernel_rfl) (q_cut _ _ _ rfl Fx.sl30 rfl (by first | rfl | exact ⟨_, rfl⟩) (by first | rfl | exact ⟨_, rfl⟩) (by simp; omega) (by simp) (by rw [List.take_length, List.map_drop] : _ = (l.drop k).map i64T)) rfl rfl rfl ?_
        refine LexO.appZR rfl (by kernel_rfl) (by kernel_rfl) (by kernel_rfl) rfl rfl Fx.el30 rfl rfl (by simp; omega) rfl rfl (fun k37 hk37 => ?_)
        refine LexO.appR1 rfl (by kernel_rfl) (by kernel_rfl) (by kernel_rfl) rfl (by assumption) rfl Fx.el30 rfl (by rw [rowI]; simp) rfl (by simp; omega) rfl rfl (fun k40 hk40 => ?_)
        refine LexO.appR1 rfl (by kernel_rfl) (by kernel_rfl) (by kernel_rfl) rfl (by assumption) rfl Fx.el30 rfl (by rw [rowI]; simp) rfl (by simp; omega) rfl rfl (fun k44 hk44 => ?_)
        refine LexO.q rfl (by kernel_rfl) (q_asC rfl rfl) rfl rfl rfl ?_
        refine LexO.nil (by kernel_rfl) ?_
        refine AW.ret ?_
        have e : put ltI l n = l.take k ++ n :: l.drop k := by
          rw [hput, if_neg]; rintro ⟨h1, h2⟩; first | exact h31 (by simpa using h2) | (simp at g24; omega)
        exact fin_x (x := .c _) (_) (.tmp rfl .nil) rfl (fun _ _ h => h) (.inr ⟨k44, hk44, by rw [e]; simp; omega, by rw [e]; rw [rowI, rowI]; simp⟩)
    ·
      refine SeqK.off rfl rfl rfl rfl rfl rfl ?_
      refine SeqK.off rfl rfl rfl rfl rfl rfl ?_
      refine SeqK.off rfl rfl rfl rfl rfl rfl ?_
      refine SeqK.off rfl rfl rfl rfl rfl rfl ?_
      refine SeqK.off rfl rfl rfl rfl rfl rfl ?_
      refine SeqK.off rfl rfl rfl rfl rfl rfl ?_
      refine SeqK.q (q_pkF rfl rfl rfl) rfl rfl rfl ?_
      refine SeqK.nil ?_
      refine AW.condF rfl ?_
      refine AW.skip ?_
      refine AW.seq ?_
      refine AW.drawO [0, 1, 2, 3, 5, 6, 8, 9, 10, 4, 7, 11, 12] Fx.mo (by kernel_rfl) ?_
      refine LexO.q rfl (by kernel_rfl) (q_build0 rfl Fx.el30) rfl rfl rfl ?_
      refine LexO.q rfl (by kernel_rfl) (q_mvC rfl rfl) rfl rfl rfl ?_
      refine LexO.q rfl (by kernel_rfl) (q_mvC rfl rfl) rfl rfl rfl ?_
      refine LexO.q rfl (by kernel_rfl) (q_cut _ _ _ rfl Fx.sl30 rfl (by first | rfl | exact ⟨_, rfl⟩) (by first | rfl | exact ⟨_, rfl⟩) (by omega) (by simp; omega) (by simp [List.map_take] : _ = (l.take k).map i64T)) rfl rfl rfl ?_
      refine LexO.q rfl (by kernel_rfl) (q_mvC rfl rfl) rfl rfl rfl ?_
      refine LexO.q rfl (by kernel_rfl) (q_buildSlice _ rfl Fx.el30 rfl (by decide) rfl) rfl rfl rfl ?_
      refine LexO.q rfl (by kernel_rfl) (q_mvC rfl rfl) rfl rfl rfl ?_
      refine LexO.q rfl (by kernel_rfl) (q_mvC rfl rfl) rfl rfl rfl ?_
      refine LexO.q rfl (by kernel_rfl) (q_cut _ _ _ rfl Fx.sl30 rfl (by first | rfl | exact ⟨_, rfl⟩) (by first | rfl | exact ⟨_, rfl⟩) (by simp; omega) (by simp) (by rw [List.take_length, List.map_drop] : _ = (l.drop k).map i64T)) rfl rfl rfl ?_
      refine LexO.appZR rfl (by kernel_rfl) (by kernel_rfl) (by kernel_rfl) rfl rfl Fx.el30 rfl rfl (by simp; omega) rfl rfl (fun k37 hk37 => ?_)
      refine LexO.appR1 rfl (by kernel_rfl) (by kernel_rfl) (by kernel_rfl) rfl (by assumption) rfl Fx.el30 rfl (by rw [rowI]; simp) rfl (by simp; omega) rfl rfl (fun k40 hk40 => ?_)
      refine LexO.appR1 rfl (by kernel_rfl) (by kernel_rfl) (by kernel_rfl) rfl (by assumption) rfl Fx.el30 rfl (by rw [rowI]; simp) rfl (by simp; omega) rfl rfl (fun k44 hk44 => ?_)
      refine LexO.q rfl (by kernel_rfl) (q_asC rfl rfl) rfl rfl rfl ?_
      refine LexO.nil (by kernel_rfl) ?_
      refine AW.ret ?_
      have e : put ltI l n = l.take k ++ n :: l.drop k := by
        rw [hput, if_neg]; rintro ⟨h1, h2⟩; first | exact h31 (by simpa using h2) | (simp at g24; omega)
      exact fin_x (x := .c _) (_) (.tmp rfl .nil) rfl (fun _ _ h => h) (.inr ⟨k44, hk44, by rw [e]; simp; omega, by rw [e]; rw [rowI, rowI]; simp⟩)

theorem put_any (l : List Int) (n : Int) (hl : l.length ≤ 1000000) : Pure Try.prog 37 [iL .un l, iC n] (.c (iL .un (put ltI l n))) := fun H =>
  Spec.freezeOr (put_r l n hl H) fun x H' q => by
    rcases q with ⟨h1, h2, h3⟩ | ⟨k, h1, h2, h3⟩
    · exact .inl ⟨by rw [h2, h1], h3⟩
    · subst h2 h3
      refine .inr ⟨k, 1, 3, (put ltI l n).map i64T, by rw [upd_same, rowI], fun e he => by obtain ⟨s, _, rfl⟩ := List.mem_map.1 he; rfl, by decide, ?_, upd_back h1⟩
      simp [fzX, fzC, fzA]
end Go.Proofs.Ytikcmjamioopbaa.W
namespace Go.Proofs.Ytikcmjamioopbaa.W
open Go.RowKit E M
set_option linter.unusedVariables false
set_option linter.unusedSimpArgs false
set_option linter.unusedSectionVars false
theorem succs_take {L : GE} {n : Int} {i : Nat} (h : i < L.length) : succs ltI (L.take (i + 1)) n = if L[i].1 = n then put ltI (succs ltI (L.take i) n) L[i].2 else succs ltI (L.take i) n := by
  rw [List.take_succ_eq_append_getElem h, succs_snoc]
theorem nodes_take {L : GE} {i : Nat} (h : i < L.length) : nodes ltI (L.take (i + 1)) = put ltI (put ltI (nodes ltI (L.take i)) L[i].1) L[i].2 := by
  rw [List.take_succ_eq_append_getElem h, nodes_snoc]
theorem succsI_len {L : GE} {n : Int} {i : Nat} : (succs ltI (L.take i) n).length ≤ L.length := Nat.le_trans succs_len (by simp; omega)
theorem nodesI_len {L : GE} {i : Nat} : (nodes ltI (L.take i)).length ≤ 2 * L.length := Nat.le_trans nodes_len (by simp; omega)

set_option maxRecDepth 20000 in
theorem succs_any (L : GE) (n : Int) (hL : L.length ≤ 100000) : Pure Try.prog 16 [grC .un L, iC n] (.c (iL .un (succs ltI L n))) := by
  intro H
  refine Spec.enter Try.func16 rfl ?_
  refine AW.wk (Wk.keep 32 [(0, .c (grC .un L)), (1, .c (iC n))] [] (H) rfl ⟨rfl, rfl, trivial⟩ trivial (fun _ _ h => h) rfl) ?_
  refine AW.seq ?_
  refine AW.reg ?_
  refine SeqK.r (b_box (r := [_]) rfl rfl rfl rfl rfl rfl) rfl ?_
  refine SeqK.q (q_asC rfl rfl) rfl rfl rfl ?_
  refine SeqK.nil ?_
  refine AW.seq ?_
  refine AW.reg ?_
  refine SeqK.q (q_build0 rfl Fx.el30) rfl rfl rfl ?_
  refine SeqK.q (q_asC rfl rfl) rfl rfl rfl ?_
  refine SeqK.nil ?_
  refine AW.seq ?_
  refine AW.seq ?_
  refine AW.reg ?_
  refine SeqK.q (q_asC rfl rfl) rfl rfl rfl ?_
  refine SeqK.nil ?_
  refine AW.block ?_
  refine AW.xw 5 rfl XW.ts ?_
  refine AW.xw 5 rfl XW.un ?_
  refine AW.loop (fun (i : Nat) s => ∃ (ls : List Int), (i ≤ L.length ∧ ls = succs ltI (L.take i) n) ∧ s = ⟨32, sp [(1, .c (iC n)), (2, .lp 2 0), (5, .c (iL .un ls)), (6, iX .i64 ((i : Nat) : Int))], lv [(2, .box [.t (.sl .un 2 (L.map eT))])], H⟩) (fun i => L.length - i) 0 ⟨_, Wk.keep 32 [(1, .c (iC n)), (2, .lp 2 0), (5, .c (iL .un ([]))), (6, iX .i64 ((((0 : Nat)) : Nat) : Int))] [(2, .box [.t (.sl .un 2 (L.map eT))])] (H) rfl ⟨rfl, rfl, rfl, rfl, trivial⟩ ⟨rfl, trivial⟩ (fun _ _ h => h) rfl, [], ⟨Nat.zero_le _, rfl⟩, rfl⟩ (fun i s hs => ?_)
  obtain ⟨ls, ⟨hi, hs⟩, rfl⟩ := hs
  subst hs
  refine AW.seq ?_
  refine AW.seq ?_
  refine AW.reg ?_
  refine SeqK.q (q_mvC rfl rfl) rfl rfl rfl ?_
  refine SeqK.q (q_fieldL _ rfl Fx.fl26_0 rfl rfl) rfl rfl rfl ?_
  refine SeqK.r (b_load (r := .a _) rfl Fx.ty24 rfl rfl rfl rfl rfl rfl) rfl ?_
  refine SeqK.q (q_len rfl Fx.un24 rfl) rfl rfl rfl ?_
  refine SeqK.q (q_lss rfl rfl rfl) rfl rfl rfl ?_
  refine SeqK.nil ?_
  refine AW.condD rfl (fun h12 => ?_) (fun h12 => ?_)
  ·
    have hka : i < L.length := by simp at h12; omega
    refine AW.skip ?_
    refine AW.seq ?_
    refine AW.block ?_
    refine AW.seq ?_
    refine AW.reg ?_
    refine SeqK.q (q_fieldL _ rfl Fx.fl26_0 rfl rfl) rfl rfl rfl ?_
    refine SeqK.r (b_load (r := .a _) rfl Fx.ty24 rfl rfl rfl rfl rfl rfl) rfl ?_
    refine SeqK.q (q_mvC rfl rfl) rfl rfl rfl ?_
    refine SeqK.q (q_index _ rfl Fx.sl24 rfl rfl (by omega) (idx_map hka)) rfl rfl rfl ?_
    refine SeqK.q (q_indexP _ rfl Fx.ar70 rfl rfl (by omega) (by omega) rfl) rfl rfl rfl ?_
    refine SeqK.q (q_load (.a _) rfl Fx.ty3 rfl rfl rfl) rfl rfl rfl ?_
    refine SeqK.q (q_mvC rfl rfl) rfl rfl rfl ?_
    refine SeqK.q (q_eql rfl rfl rfl) rfl rfl rfl ?_
    refine SeqK.nil ?_
    refine AW.condD rfl (fun h22 => ?_) (fun h22 => ?_)
    ·
      refine AW.reg ?_
      refine SeqK.q (q_mvC rfl rfl) rfl rfl rfl ?_
      refine SeqK.q (q_fieldL _ rfl Fx.fl26_0 rfl rfl) rfl rfl rfl ?_
      refine SeqK.r (b_load (r := .a _) rfl Fx.ty24 rfl rfl rfl rfl rfl rfl) rfl ?_
      refine SeqK.q (q_mvC rfl rfl) rfl rfl rfl ?_
      refine SeqK.q (q_index _ rfl Fx.sl24 rfl rfl (by omega) (idx_map hka)) rfl rfl rfl ?_
      refine SeqK.q (q_indexP _ rfl Fx.ar70 rfl rfl (by omega) (by omega) rfl) rfl rfl rfl ?_
      refine SeqK.q (q_load (.a _) rfl Fx.ty3 rfl rfl rfl) rfl rfl rfl ?_
      refine SeqK.q (q_call _ rfl Fx.fn37 rfl (put_any _ _ (by have := succsI_len (L := L) (n := n) (i := i); omega)) rfl) rfl rfl rfl ?_
      refine SeqK.q (q_asC rfl rfl) rfl rfl rfl ?_
      refine SeqK.nil ?_
      refine AW.reg ?_
      refine SeqK.q (q_mvC rfl rfl) rfl rfl rfl ?_
      refine SeqK.q (q_add _ rfl rfl rfl (w64 (by omega) (by omega))) rfl rfl rfl ?_
      refine SeqK.q (q_asC rfl rfl) rfl rfl rfl ?_
      refine SeqK.nil ?_
      exact ⟨i + 1, _, Wk.keep 32 [(1, .c (iC n)), (2, .lp 2 0), (5, .c (iL .un (_))), (6, iX .i64 (((i + 1) : Nat) : Int))] [(2, .box [.t (.sl .un 2 (L.map eT))])] (H) rfl ⟨rfl, rfl, rfl, rfl, trivial⟩ ⟨rfl, trivial⟩ (fun _ _ h => h) rfl, by omega, _, ⟨by omega, by rw [succs_take hka, if_pos (by simpa using h22)]⟩, rfl⟩
    ·
      refine AW.skip ?_
      refine AW.reg ?_
      refine SeqK.q (q_mvC rfl rfl) rfl rfl rfl ?_
      refine SeqK.q (q_add _ rfl rfl rfl (w64 (by omega) (by omega))) rfl rfl rfl ?_
      refine SeqK.q (q_asC rfl rfl) rfl rfl rfl ?_
      refine SeqK.nil ?_
      exact ⟨i + 1, _, Wk.keep 32 [(1, .c (iC n)), (2, .lp 2 0), (5, .c (iL .un (_))), (6, iX .i64 (((i + 1) : Nat) : Int))] [(2, .box [.t (.sl .un 2 (L.map eT))])] (H) rfl ⟨rfl, rfl, rfl, rfl, trivial⟩ ⟨rfl, trivial⟩ (fun _ _ h => h) rfl, by omega, _, ⟨by omega, by rw [succs_take hka, if_neg (by simpa using h22)]⟩, rfl⟩
  ·
    refine AW.exit ?_
    refine eth_e ?_
    refine eth_e ?_
    refine exit_here ?_
    refine AW.seq ?_
    refine AW.reg ?_
    refine SeqK.q (q_mvC rfl rfl) rfl rfl rfl ?_
    refine SeqK.q (q_asC rfl rfl) rfl rfl rfl ?_
    refine SeqK.nil ?_
    refine AW.ret ?_
    exact fin_x (x := .c _) H (.tmp rfl .nil) rfl (fun _ _ h => h) ⟨by rw [List.take_of_length_le (by simp at h12; omega)], rfl⟩

set_option maxRecDepth 20000 in
theorem nodes_any (L : GE) (hL : L.length ≤ 100000) : Pure Try.prog 13 [grC .un L] (.c (iL .un (nodes ltI L))) := by
  intro H
  refine Spec.enter Try.func13 rfl ?_
  refine AW.wk (Wk.keep 29 [(0, .c (grC .un L))] [] (H) rfl ⟨rfl, trivial⟩ trivial (fun _ _ h => h) rfl) ?_
  refine AW.seq ?_
  refine AW.reg ?_
  refine SeqK.r (b_box (r := [_]) rfl rfl rfl rfl rfl rfl) rfl ?_
  refine SeqK.q (q_asC rfl rfl) rfl rfl rfl ?_
  refine SeqK.nil ?_
  refine AW.seq ?_
  refine AW.reg ?_
  refine SeqK.q (q_build0 rfl Fx.el30) rfl rfl rfl ?_
  refine SeqK.q (q_asC rfl rfl) rfl rfl rfl ?_
  refine SeqK.nil ?_
  refine AW.seq ?_
  refine AW.seq ?_
  refine AW.reg ?_
  refine SeqK.q (q_asC rfl rfl) rfl rfl rfl ?_
  refine SeqK.nil ?_
  refine AW.block ?_
  refine AW.xw 3 rfl XW.ts ?_
  refine AW.xw 3 rfl XW.un ?_
  refine AW.loop (fun (i : Nat) s => ∃ (ls : List Int), (i ≤ L.length ∧ ls = nodes ltI (L.take i)) ∧ s = ⟨29, sp [(1, .lp 1 0), (3, .c (iL .un ls)), (4, iX .i64 ((i : Nat) : Int))], lv [(1, .box [.t (.sl .un 2 (L.map eT))])], H⟩) (fun i => L.length - i) 0 ⟨_, Wk.keep 29 [(1, .lp 1 0), (3, .c (iL .un ([]))), (4, iX .i64 ((((0 : Nat)) : Nat) : Int))] [(1, .box [.t (.sl .un 2 (L.map eT))])] (H) rfl ⟨rfl, rfl, rfl, trivial⟩ ⟨rfl, trivial⟩ (fun _ _ h => h) rfl, [], ⟨Nat.zero_le _, rfl⟩, rfl⟩ (fun i s hs => ?_)
  obtain ⟨ls, ⟨hi, hs⟩, rfl⟩ := hs
  subst hs
  refine AW.seq ?_
  refine AW.seq ?_
  refine AW.reg ?_
  refine SeqK.q (q_mvC rfl rfl) rfl rfl rfl ?_
  refine SeqK.q (q_fieldL _ rfl Fx.fl26_0 rfl rfl) rfl rfl rfl ?_
  refine SeqK.r (b_load (r := .a _) rfl Fx.ty24 rfl rfl rfl rfl rfl rfl) rfl ?_
  refine SeqK.q (q_len rfl Fx.un24 rfl) rfl rfl rfl ?_
  refine SeqK.q (q_lss rfl rfl rfl) rfl rfl rfl ?_
  refine SeqK.nil ?_
  refine AW.condD rfl (fun h10 => ?_) (fun h10 => ?_)
  ·
    have hka : i < L.length := by simp at h10; omega
    refine AW.skip ?_
    refine AW.seq ?_
    refine AW.block ?_
    refine AW.draw Fx.mo ?_
    refine LexK.q (q_mvC rfl rfl) rfl rfl rfl ?_
    refine LexK.q (q_fieldL _ rfl Fx.fl26_0 rfl rfl) rfl rfl rfl ?_
    refine LexK.r (b_load (r := .a _) rfl Fx.ty24 rfl rfl rfl rfl rfl rfl) rfl ?_
    refine LexK.q (q_mvC rfl rfl) rfl rfl rfl ?_
    refine LexK.q (q_index _ rfl Fx.sl24 rfl rfl (by omega) (idx_map hka)) rfl rfl rfl ?_
    refine LexK.q (q_indexP _ rfl Fx.ar70 rfl rfl (by omega) (by omega) rfl) rfl rfl rfl ?_
    refine LexK.q (q_load (.a _) rfl Fx.ty3 rfl rfl rfl) rfl rfl rfl ?_
    refine LexK.q (q_call _ rfl Fx.fn37 rfl (put_any _ _ (by have h8 := nodesI_len (L := L) (i := i); have h9 := putI_len (l := nodes ltI (L.take i)) (n := L[i].1); omega)) rfl) rfl rfl rfl ?_
    refine LexK.q (q_fieldL _ rfl Fx.fl26_0 rfl rfl) rfl rfl rfl ?_
    refine LexK.r (b_load (r := .a _) rfl Fx.ty24 rfl rfl rfl rfl rfl rfl) rfl ?_
    refine LexK.q (q_mvC rfl rfl) rfl rfl rfl ?_
    refine LexK.q (q_index _ rfl Fx.sl24 rfl rfl (by omega) (idx_map hka)) rfl rfl rfl ?_
    refine LexK.q (q_indexP _ rfl Fx.ar70 rfl rfl (by omega) (by omega) rfl) rfl rfl rfl ?_
    refine LexK.q (q_load (.a _) rfl Fx.ty3 rfl rfl rfl) rfl rfl rfl ?_
    refine LexK.q (q_call _ rfl Fx.fn37 rfl (put_any _ _ (by have h8 := nodesI_len (L := L) (i := i); have h9 := putI_len (l := nodes ltI (L.take i)) (n := L[i].1); omega)) rfl) rfl rfl rfl ?_
    refine LexK.q (q_asC rfl rfl) rfl rfl rfl ?_
    refine LexK.nil (by kernel_rfl) ?_
    refine AW.reg ?_
    refine SeqK.q (q_mvC rfl rfl) rfl rfl rfl ?_
    refine SeqK.q (q_add _ rfl rfl rfl (w64 (by omega) (by omega))) rfl rfl rfl ?_
    refine SeqK.q (q_asC rfl rfl) rfl rfl rfl ?_
    refine SeqK.nil ?_
    exact ⟨i + 1, _, Wk.keep 29 [(1, .lp 1 0), (3, .c (iL .un (_))), (4, iX .i64 (((i + 1) : Nat) : Int))] [(1, .box [.t (.sl .un 2 (L.map eT))])] (H) rfl ⟨rfl, rfl, rfl, trivial⟩ ⟨rfl, trivial⟩ (fun _ _ h => h) rfl, by omega, _, ⟨by omega, by rw [nodes_take hka]⟩, rfl⟩
  ·
    refine AW.exit ?_
    refine eth_e ?_
    refine eth_e ?_
    refine exit_here ?_
    refine AW.seq ?_
    refine AW.reg ?_
    refine SeqK.q (q_mvC rfl rfl) rfl rfl rfl ?_
    refine SeqK.q (q_asC rfl rfl) rfl rfl rfl ?_
    refine SeqK.nil ?_
    refine AW.ret ?_
    exact fin_x (x := .c _) H (.tmp rfl .nil) rfl (fun _ _ h => h) ⟨by rw [List.take_of_length_le (by simp at h10; omega)], rfl⟩

set_option maxRecDepth 20000 in
theorem far_any (L : GE) (a b : Int) (hL : L.length ≤ 10000) : Pure Try.prog 21 [grC .un L, iC a, iC b] (iX .i64 (farZ L a b)) := by
  intro H
  refine Spec.enter Try.func21 rfl ?_
  refine AW.wk (Wk.keep 57 [(0, .c (grC .un L)), (1, .c (iC a)), (2, .c (iC b))] [] (H) rfl ⟨rfl, rfl, rfl, trivial⟩ trivial (fun _ _ h => h) rfl) ?_
  refine AW.seq ?_
  refine AW.reg ?_
  refine SeqK.r (b_box (r := [_]) rfl rfl rfl rfl rfl rfl) rfl ?_
  refine SeqK.q (q_asC rfl rfl) rfl rfl rfl ?_
  refine SeqK.nil ?_
  refine AW.seq ?_
  refine AW.reg ?_
  refine SeqK.r (b_load (r := .g [_]) rfl Fx.ty26 rfl rfl rfl rfl rfl rfl) rfl ?_
  refine SeqK.q (q_mvC rfl rfl) rfl rfl rfl ?_
  refine SeqK.q (q_call _ rfl Fx.fn16 rfl (succs_any L _ (by omega)) rfl) rfl rfl rfl ?_
  refine SeqK.q (q_asC rfl rfl) rfl rfl rfl ?_
  refine SeqK.nil ?_
  refine AW.seq ?_
  refine AW.seq ?_
  refine AW.reg ?_
  refine SeqK.q (q_asC rfl rfl) rfl rfl rfl ?_
  refine SeqK.nil ?_
  refine AW.block ?_
  refine AW.loop (fun (N : Nat) s => ∃ (seen : List Int), (1 ≤ N ∧ N ≤ L.length + 2 ∧ FS ltI L a N seen ∧ (∀ j, 1 ≤ j → j < N → walkB L j a b = false)) ∧ s = ⟨57, sp [(1, .c (iC a)), (2, .c (iC b)), (3, .lp 3 0), (7, .c (iL .un seen)), (8, iX .i64 ((N : Nat) : Int))], lv [(3, .box [.t (.sl .un 2 (L.map eT))])], H⟩) (fun N => L.length + 2 - N) 1 ⟨_, Wk.keep 57 [(1, .c (iC a)), (2, .c (iC b)), (3, .lp 3 0), (7, .c (iL .un (_))), (8, iX .i64 ((((1 : Nat)) : Nat) : Int))] [(3, .box [.t (.sl .un 2 (L.map eT))])] (H) rfl ⟨rfl, rfl, rfl, rfl, rfl, trivial⟩ ⟨rfl, trivial⟩ (fun _ _ h => h) rfl, _, ⟨by omega, by omega, FS.start ordI, fun j h1 h2 => by omega⟩, rfl⟩ (fun N s hs => ?_)
  obtain ⟨seen, ⟨hN, hN2, hS, hno⟩, rfl⟩ := hs
  refine AW.seq ?_
  refine AW.seq ?_
  refine AW.reg ?_
  refine SeqK.q (q_mvC rfl rfl) rfl rfl rfl ?_
  refine SeqK.q (q_fieldL _ rfl Fx.fl26_0 rfl rfl) rfl rfl rfl ?_
  refine SeqK.r (b_load (r := .a _) rfl Fx.ty24 rfl rfl rfl rfl rfl rfl) rfl ?_
  refine SeqK.q (q_len rfl Fx.un24 rfl) rfl rfl rfl ?_
  refine SeqK.q (q_add _ rfl rfl rfl (w64 (by simp; omega) (by simp; omega))) rfl rfl rfl ?_
  refine SeqK.q (q_leq rfl rfl rfl) rfl rfl rfl ?_
  refine SeqK.nil ?_
  refine AW.condD rfl (fun h21 => ?_) (fun h21 => ?_)
  ·
    have hN1 : N ≤ L.length + 1 := by simp at h21; omega
    have hsl := sub_nodes_len ordI hS.asc hS.src
    refine AW.skip ?_
    refine AW.seq ?_
    refine AW.block ?_
    refine AW.seq ?_
    refine AW.reg ?_
    refine SeqK.q (q_mvC rfl rfl) rfl rfl rfl ?_
    refine SeqK.q (q_asC rfl rfl) rfl rfl rfl ?_
    refine SeqK.nil ?_
    refine AW.seq ?_
    refine AW.seq ?_
    refine AW.reg ?_
    refine SeqK.q (q_asC rfl rfl) rfl rfl rfl ?_
    refine SeqK.nil ?_
    refine AW.block ?_
    refine AW.loop (fun (i : Nat) s => ∃ (next : List Int), (i ≤ seen.length ∧ Asc ltI next ∧ (∀ x, x ∈ next ↔ x ∈ seen ∨ ∃ i9, ∃ h : i9 < seen.length, i9 < i ∧ (seen[i9], x) ∈ L) ∧ (∀ i9 (h : i9 < seen.length), i9 < i → seen[i9] ≠ b)) ∧ s = ⟨57, sp [(1, .c (iC a)), (2, .c (iC b)), (3, .lp 3 0), (7, .c (iL .un seen)), (8, iX .i64 ((N : Nat) : Int)), (9, .c (iL .un next)), (10, iX .i64 ((i : Nat) : Int))], lv [(3, .box [.t (.sl .un 2 (L.map eT))])], H⟩) (fun i => seen.length - i) 0 ⟨_, Wk.keep 57 [(1, .c (iC a)), (2, .c (iC b)), (3, .lp 3 0), (7, .c (iL .un seen)), (8, iX .i64 ((N : Nat) : Int)), (9, .c (iL .un (_))), (10, iX .i64 ((((0 : Nat)) : Nat) : Int))] [(3, .box [.t (.sl .un 2 (L.map eT))])] (H) rfl ⟨rfl, rfl, rfl, rfl, rfl, rfl, rfl, trivial⟩ ⟨rfl, trivial⟩ (fun _ _ h => h) rfl, _, ⟨Nat.zero_le _, hS.asc, fun x => by constructor; (intro h; exact .inl h); (rintro (h | ⟨_, _, h, _⟩); exact h; omega), fun _ _ h => by omega⟩, rfl⟩ (fun i s hs => ?_)
    obtain ⟨next, ⟨hi, hasc, hnx, hne⟩, rfl⟩ := hs
    refine AW.seq ?_
    refine AW.seq ?_
    refine AW.reg ?_
    refine SeqK.q (q_mvC rfl rfl) rfl rfl rfl ?_
    refine SeqK.q (q_mvC rfl rfl) rfl rfl rfl ?_
    refine SeqK.q (q_len rfl Fx.un30 rfl) rfl rfl rfl ?_
    refine SeqK.q (q_lss rfl rfl rfl) rfl rfl rfl ?_
    refine SeqK.nil ?_
    refine AW.condD rfl (fun h28 => ?_) (fun h28 => ?_)
    ·
      have hka : i < seen.length := by simp at h28; omega
      refine AW.skip ?_
      refine AW.seq ?_
      refine AW.block ?_
      refine AW.seq ?_
      refine AW.seq ?_
      refine AW.reg ?_
      refine SeqK.q (q_mvC rfl rfl) rfl rfl rfl ?_
      refine SeqK.q (q_mvC rfl rfl) rfl rfl rfl ?_
      refine SeqK.q (q_index _ rfl Fx.sl30 rfl rfl (by omega) (idx_map hka)) rfl rfl rfl ?_
      refine SeqK.q (q_load (.a _) rfl Fx.ty3 rfl rfl rfl) rfl rfl rfl ?_
      refine SeqK.q (q_mvC rfl rfl) rfl rfl rfl ?_
      refine SeqK.q (q_eql rfl rfl rfl) rfl rfl rfl ?_
      refine SeqK.nil ?_
      refine AW.condD rfl (fun h36 => ?_) (fun h36 => ?_)
      ·
        refine AW.seq ?_
        refine AW.reg ?_
        refine SeqK.q (q_mvC rfl rfl) rfl rfl rfl ?_
        refine SeqK.q (q_asC rfl rfl) rfl rfl rfl ?_
        refine SeqK.nil ?_
        refine AW.ret ?_
        exact fin_x (x := .c _) H (.tmp rfl .nil) rfl (fun _ _ h => h) ⟨by rw [farZ_some ⟨hN, by obtain ⟨j, h1, h2, h3⟩ := (hS.mem b).1 (by have h9 := List.getElem_mem hka; rwa [show seen[i] = b by simpa using h36] at h9); rcases Nat.lt_or_ge j N with h4 | h4; (rw [hno j h1 h4] at h3; cases h3); rwa [show N = j by omega], hno⟩], rfl⟩
      ·
        refine AW.skip ?_
        refine AW.seq ?_
        refine AW.draw Fx.mo ?_
        refine LexK.r (b_load (r := .g [_]) rfl Fx.ty26 rfl rfl rfl rfl rfl rfl) rfl ?_
        refine LexK.q (q_mvC rfl rfl) rfl rfl rfl ?_
        refine LexK.q (q_mvC rfl rfl) rfl rfl rfl ?_
        refine LexK.q (q_index _ rfl Fx.sl30 rfl rfl (by omega) (idx_map hka)) rfl rfl rfl ?_
        refine LexK.q (q_load (.a _) rfl Fx.ty3 rfl rfl rfl) rfl rfl rfl ?_
        refine LexK.q (q_call _ rfl Fx.fn16 rfl (succs_any L _ (by omega)) rfl) rfl rfl rfl ?_
        refine LexK.q (q_asC rfl rfl) rfl rfl rfl ?_
        refine LexK.nil (by kernel_rfl) ?_
        refine AW.seq ?_
        refine AW.reg ?_
        refine SeqK.q (q_asC rfl rfl) rfl rfl rfl ?_
        refine SeqK.nil ?_
        refine AW.block ?_
        refine AW.loop (fun (m : Nat) s => ∃ (next : List Int), (m ≤ (succs ltI L seen[i]).length ∧ Asc ltI next ∧ (∀ x, x ∈ next ↔ x ∈ seen ∨ (∃ i9, ∃ h : i9 < seen.length, i9 < i ∧ (seen[i9], x) ∈ L) ∨ ∃ m9, ∃ h : m9 < (succs ltI L seen[i]).length, m9 < m ∧ (succs ltI L seen[i])[m9] = x)) ∧ s = ⟨57, sp [(1, .c (iC a)), (2, .c (iC b)), (3, .lp 3 0), (7, .c (iL .un seen)), (8, iX .i64 ((N : Nat) : Int)), (9, .c (iL .un next)), (10, iX .i64 ((i : Nat) : Int)), (11, .c (iL .un (succs ltI L seen[i]))), (12, iX .i64 ((m : Nat) : Int))], lv [(3, .box [.t (.sl .un 2 (L.map eT))])], H⟩) (fun m => (succs ltI L seen[i]).length - m) 0 ⟨_, Wk.keep 57 [(1, .c (iC a)), (2, .c (iC b)), (3, .lp 3 0), (7, .c (iL .un seen)), (8, iX .i64 ((N : Nat) : Int)), (9, .c (iL .un (_))), (10, iX .i64 ((i : Nat) : Int)), (11, .c (iL .un (succs ltI L seen[i]))), (12, iX .i64 ((((0 : Nat)) : Nat) : Int))] [(3, .box [.t (.sl .un 2 (L.map eT))])] (H) rfl ⟨rfl, rfl, rfl, rfl, rfl, rfl, rfl, rfl, rfl, trivial⟩ ⟨rfl, trivial⟩ (fun _ _ h => h) rfl, _, ⟨Nat.zero_le _, hasc, fun x => by
          rw [hnx x]
          constructor
          · rintro (h | h); exact .inl h; exact .inr (.inl h)
          · rintro (h | h | ⟨_, _, h, _⟩); exact .inl h; exact .inr h; omega⟩, rfl⟩ (fun m s hs => ?_)
        obtain ⟨next, ⟨hm, hasc, hnx⟩, rfl⟩ := hs
        refine AW.seq ?_
        refine AW.seq ?_
        refine AW.reg ?_
        refine SeqK.q (q_mvC rfl rfl) rfl rfl rfl ?_
        refine SeqK.q (q_mvC rfl rfl) rfl rfl rfl ?_
        refine SeqK.q (q_len rfl Fx.un30 rfl) rfl rfl rfl ?_
        refine SeqK.q (q_lss rfl rfl rfl) rfl rfl rfl ?_
        refine SeqK.nil ?_
        refine AW.condD rfl (fun h47 => ?_) (fun h47 => ?_)
        ·
          have hma : m < (succs ltI L seen[i]).length := by simp at h47; omega
          have hsl2 := succs_len (lt := ltI) (L := L) (a := seen[i])
          have hxl : next.length ≤ 2 * L.length := sub_nodes_len ordI hasc fun x hx => by
            rcases (hnx x).1 hx with h | ⟨i9, h8, h9, h10⟩ | ⟨m9, h8, h9, h10⟩
            · exact hS.src x h
            · exact ⟨_, h10⟩
            · exact ⟨_, mem_succs.1 (h10 ▸ List.getElem_mem h8)⟩
          refine AW.skip ?_
          refine AW.seq ?_
          refine AW.block ?_
          refine AW.reg ?_
          refine SeqK.q (q_mvC rfl rfl) rfl rfl rfl ?_
          refine SeqK.q (q_mvC rfl rfl) rfl rfl rfl ?_
          refine SeqK.q (q_mvC rfl rfl) rfl rfl rfl ?_
          refine SeqK.q (q_index _ rfl Fx.sl30 rfl rfl (by omega) (idx_map hma)) rfl rfl rfl ?_
          refine SeqK.q (q_load (.a _) rfl Fx.ty3 rfl rfl rfl) rfl rfl rfl ?_
          refine SeqK.q (q_call _ rfl Fx.fn37 rfl (put_any _ _ (by omega)) rfl) rfl rfl rfl ?_
          refine SeqK.q (q_asC rfl rfl) rfl rfl rfl ?_
          refine SeqK.nil ?_
          refine AW.reg ?_
          refine SeqK.q (q_mvC rfl rfl) rfl rfl rfl ?_
          refine SeqK.q (q_add _ rfl rfl rfl (w64 (by omega) (by omega))) rfl rfl rfl ?_
          refine SeqK.q (q_asC rfl rfl) rfl rfl rfl ?_
          refine SeqK.nil ?_
          exact ⟨m + 1, _, Wk.keep 57 [(1, .c (iC a)), (2, .c (iC b)), (3, .lp 3 0), (7, .c (iL .un seen)), (8, iX .i64 ((N : Nat) : Int)), (9, .c (iL .un (_))), (10, iX .i64 ((i : Nat) : Int)), (11, .c (iL .un (succs ltI L seen[i]))), (12, iX .i64 (((m + 1) : Nat) : Int))] [(3, .box [.t (.sl .un 2 (L.map eT))])] (H) rfl ⟨rfl, rfl, rfl, rfl, rfl, rfl, rfl, rfl, rfl, trivial⟩ ⟨rfl, trivial⟩ (fun _ _ h => h) rfl, by omega, _, ⟨by omega, put_asc ordI hasc, fun x => by
            rw [mem_put, hnx x]
            constructor
            · rintro ((h | h | ⟨m9, h8, h9, h10⟩) | h)
              · exact .inl h
              · exact .inr (.inl h)
              · exact .inr (.inr ⟨m9, h8, by omega, h10⟩)
              · exact .inr (.inr ⟨m, hma, by omega, h.symm⟩)
            · rintro (h | h | ⟨m9, h8, h9, h10⟩)
              · exact .inl (.inl h)
              · exact .inl (.inr (.inl h))
              · rcases Nat.lt_or_ge m9 m with h11 | h11
                · exact .inl (.inr (.inr ⟨m9, h8, h11, h10⟩))
                · obtain rfl : m9 = m := by omega
                  exact .inr h10.symm⟩, rfl⟩
        ·
          refine AW.exit ?_
          refine eth_e ?_
          refine eth_e ?_
          refine exit_here ?_
          refine AW.reg ?_
          refine SeqK.q (q_mvC rfl rfl) rfl rfl rfl ?_
          refine SeqK.q (q_add _ rfl rfl rfl (w64 (by omega) (by omega))) rfl rfl rfl ?_
          refine SeqK.q (q_asC rfl rfl) rfl rfl rfl ?_
          refine SeqK.nil ?_
          exact ⟨i + 1, _, Wk.keep 57 [(1, .c (iC a)), (2, .c (iC b)), (3, .lp 3 0), (7, .c (iL .un seen)), (8, iX .i64 ((N : Nat) : Int)), (9, .c (iL .un (_))), (10, iX .i64 (((i + 1) : Nat) : Int))] [(3, .box [.t (.sl .un 2 (L.map eT))])] (H) rfl ⟨rfl, rfl, rfl, rfl, rfl, rfl, rfl, trivial⟩ ⟨rfl, trivial⟩ (fun _ _ h => h) rfl, by omega, _, ⟨by omega, hasc, fun x => by
            rw [hnx x]
            constructor
            · rintro (h | ⟨i9, h8, h9, h10⟩ | ⟨m9, h8, h9, h10⟩)
              · exact .inl h
              · exact .inr ⟨i9, h8, by omega, h10⟩
              · exact .inr ⟨i, hka, by omega, mem_succs.1 (h10 ▸ List.getElem_mem h8)⟩
            · rintro (h | ⟨i9, h8, h9, h10⟩)
              · exact .inl h
              · rcases Nat.lt_or_ge i9 i with h11 | h11
                · exact .inr (.inl ⟨i9, h8, h11, h10⟩)
                · obtain rfl : i9 = i := by omega
                  obtain ⟨m9, h12, h13⟩ := List.getElem_of_mem (mem_succs.2 h10)
                  exact .inr (.inr ⟨m9, h12, by simp at h47; omega, h13⟩), fun i9 h8 h9 => by
            rcases Nat.lt_or_ge i9 i with h11 | h11
            · exact hne i9 h8 h11
            · obtain rfl : i9 = i := by omega
              simpa using h36⟩, rfl⟩
    ·
      refine AW.exit ?_
      refine eth_e ?_
      refine eth_e ?_
      refine exit_here ?_
      refine AW.reg ?_
      refine SeqK.q (q_mvC rfl rfl) rfl rfl rfl ?_
      refine SeqK.q (q_asC rfl rfl) rfl rfl rfl ?_
      refine SeqK.nil ?_
      refine AW.reg ?_
      refine SeqK.q (q_mvC rfl rfl) rfl rfl rfl ?_
      refine SeqK.q (q_add _ rfl rfl rfl ((by rw [w64 (by omega) (by omega)]; omega : IntKind.i64.wrap _ = ((N + 1 : Nat) : Int)))) rfl rfl rfl ?_
      refine SeqK.q (q_asC rfl rfl) rfl rfl rfl ?_
      refine SeqK.nil ?_
      exact ⟨N + 1, _, Wk.keep 57 [(1, .c (iC a)), (2, .c (iC b)), (3, .lp 3 0), (7, .c (iL .un (_))), (8, iX .i64 (((N + 1) : Nat) : Int))] [(3, .box [.t (.sl .un 2 (L.map eT))])] (H) rfl ⟨rfl, rfl, rfl, rfl, rfl, trivial⟩ ⟨rfl, trivial⟩ (fun _ _ h => h) rfl, by omega, _, ⟨by omega, by omega, hS.next hN hasc fun x => by
        rw [hnx x]
        constructor
        · rintro (h | ⟨i9, h8, h9, h10⟩)
          · exact .inl h
          · exact .inr ⟨_, List.getElem_mem h8, h10⟩
        · rintro (h | ⟨y, hy, h⟩)
          · exact .inl h
          · obtain ⟨i9, h8, rfl⟩ := List.getElem_of_mem hy
            exact .inr ⟨i9, h8, by simp at h28; omega, h⟩, fun j h1 h2 => by
        rcases Nat.lt_or_ge j N with h3 | h3
        · exact hno j h1 h3
        · obtain rfl : j = N := by omega
          cases hw : walkB L j a b with
          | false => rfl
          | true =>
            obtain ⟨i9, h8, h9⟩ := List.getElem_of_mem ((hS.mem b).2 ⟨j, h1, Nat.le_refl _, hw⟩)
            exact absurd h9 (hne i9 h8 (by simp at h28; omega))⟩, rfl⟩
  ·
    refine AW.exit ?_
    refine eth_e ?_
    refine eth_e ?_
    refine exit_here ?_
    refine AW.seq ?_
    refine AW.reg ?_
    refine SeqK.q (q_asC rfl rfl) rfl rfl rfl ?_
    refine SeqK.nil ?_
    refine AW.ret ?_
    exact fin_x (x := .c _) H (.tmp rfl .nil) rfl (fun _ _ h => h) ⟨by rw [farZ_none (N := N) (by simp at h21; omega) hno], rfl⟩

end Go.Proofs.Ytikcmjamioopbaa.W
namespace Go.Proofs.Ytikcmjamioopbaa.W
open Go.RowKit E M
set_option linter.unusedVariables false
set_option linter.unusedSimpArgs false
set_option linter.unusedSectionVars false
theorem find_at {β : Type} {p : β → Bool} : ∀ {l : List β} {i : Nat} (hi : i < l.length), p l[i] = true → (∀ j (hj : j < l.length), j < i → p l[j] = false) → l.find? p = some l[i]
  | [], i, hi, _, _ => by simp at hi
  | x :: l, 0, hi, h, _ => by simp at h; simp [h]
  | x :: l, i + 1, hi, h, hn => by
    have h0 := hn 0 (by simp) (by omega)
    simp only [List.getElem_cons_zero] at h0
    rw [List.find?_cons, h0]
    simp only [List.getElem_cons_succ] at h ⊢
    exact find_at (by simpa using hi) h fun j hj hji => by have := hn (j + 1) (by simpa using hj) (by omega); simpa using this
theorem farZ_iff {L : GE} {a b : Int} {d : Nat} (hd : 1 ≤ d) : farZ L a b = (d : Nat) ↔ dist L a b = some d := by
  unfold farZ
  cases dist L a b with
  | none => first | (simp; done) | (simp; omega)
  | some e => first | (simp; done) | (simp; omega)
theorem farZ_neg {L : GE} {a b : Int} : farZ L a b < 0 ↔ dist L a b = none := by
  unfold farZ
  cases dist L a b with
  | none => simp
  | some e => simp

set_option maxRecDepth 20000 in
theorem cycle_r (L : GE) (n : Int) (hL : L.length ≤ 10000) (H : Heap) : E.Spec Try.prog 23 [grC .un L, iC n] H fun x H' => ((cyc ltI L n = [] ∧ x = .c (.a (.t (.v (.slice none 0 0))))) ∨ x = .c (iL .nn (cyc ltI L n))) ∧ H' = H := by
  refine Spec.enter Try.func23 rfl ?_
  refine AW.wk (Wk.keep 51 [(0, .c (grC .un L)), (1, .c (iC n))] [] (H) rfl ⟨rfl, rfl, trivial⟩ trivial (fun _ _ h => h) rfl) ?_
  refine AW.seq ?_
  refine AW.reg ?_
  refine SeqK.r (b_box (r := [_]) rfl rfl rfl rfl rfl rfl) rfl ?_
  refine SeqK.q (q_asC rfl rfl) rfl rfl rfl ?_
  refine SeqK.nil ?_
  refine AW.seq ?_
  refine AW.reg ?_
  refine SeqK.r (b_load (r := .g [_]) rfl Fx.ty26 rfl rfl rfl rfl rfl rfl) rfl ?_
  refine SeqK.q (q_mvC rfl rfl) rfl rfl rfl ?_
  refine SeqK.q (q_mvC rfl rfl) rfl rfl rfl ?_
  refine SeqK.q (q_call _ rfl Fx.fn21 rfl (far_any L _ _ (by omega)) rfl) rfl rfl rfl ?_
  refine SeqK.q (q_asC rfl rfl) rfl rfl rfl ?_
  refine SeqK.nil ?_
  refine AW.seq ?_
  refine AW.seq ?_
  refine AW.reg ?_
  refine SeqK.q (q_mvC rfl rfl) rfl rfl rfl ?_
  refine SeqK.q (q_lss rfl rfl rfl) rfl rfl rfl ?_
  refine SeqK.nil ?_
  refine AW.condD rfl (fun h15 => ?_) (fun h15 => ?_)
  ·
    refine AW.seq ?_
    refine AW.reg ?_
    refine SeqK.q (q_asC rfl rfl) rfl rfl rfl ?_
    refine SeqK.nil ?_
    refine AW.ret ?_
    exact fin_x (x := .c _) (H) (.tmp rfl .nil) rfl (fun _ _ h => h) (⟨.inl ⟨by rw [cyc_nil]; exact farZ_neg.1 h15, rfl⟩, rfl⟩)
  ·
    obtain ⟨d, hd⟩ : ∃ d, dist L n n = some d := by
      cases h : dist L n n with
      | none => exact absurd (farZ_neg.2 h) h15
      | some d => exact ⟨d, rfl⟩
    obtain ⟨d, rfl⟩ : ∃ e, d = e + 1 := ⟨d - 1, by have := (dist_some.1 hd).pos; omega⟩
    rw [show farZ L n n = ((d + 1 : Nat) : Int) from (farZ_iff (by omega)).2 hd]
    have hdl := dist_le hd
    refine AW.skip ?_
    refine AW.seq ?_
    refine AW.reg ?_
    refine SeqK.q (q_mvC rfl rfl) rfl rfl rfl ?_
    refine SeqK.buildTip (es := [i64T n]) rfl rfl Fx.el30 rfl (by decide) (by decide) rfl rfl rfl (fun k17 hk17 => ?_)
    refine SeqK.q (q_asC rfl rfl) rfl rfl rfl ?_
    refine SeqK.nil ?_
    refine AW.seq ?_
    refine AW.reg ?_
    refine SeqK.q (q_mvC rfl rfl) rfl rfl rfl ?_
    refine SeqK.q (q_asC rfl rfl) rfl rfl rfl ?_
    refine SeqK.nil ?_
    refine AW.seq ?_
    refine AW.block ?_
    refine AW.loop (fun (q : Nat) s => ∃ (a9 : Int) (out : List Int) (k6 : Nat) (E : List (List T)), (cyc ltI L n = out ++ down ltI L n q a9 ∧ dist L a9 n = some (q + 1) ∧ E = out.map i64T ∧ H k6 = none) ∧ s = ⟨51, sp [(1, .c (iC n)), (2, .lp 2 0), (5, iX .i64 ((q + 1 : Nat) : Int)), (6, .c (.a (.ts k6 .nn 1 E))), (7, .c (iC a9))], lv [(2, .box [.t (.sl .un 2 (L.map eT))])], upd H k6 (some (.tip 3 1 E.length))⟩) (fun q => q) d ⟨_, Wk.keep 51 [(1, .c (iC n)), (2, .lp 2 0), (5, iX .i64 (((d) + 1 : Nat) : Int)), (6, .c (.a (.ts (k17) .nn 1 ([i64T n])))), (7, .c (iC (n)))] [(2, .box [.t (.sl .un 2 (L.map eT))])] (upd H (k17) (some (.tip 3 1 ([i64T n]).length))) rfl ⟨rfl, rfl, rfl, rfl, rfl, trivial⟩ ⟨rfl, trivial⟩ (fun _ _ h => h) rfl, n, [n], k17, [i64T n], ⟨by unfold cyc; rw [hd]; rfl, hd, rfl, hk17⟩, rfl⟩ (fun q s hs => ?_)
    obtain ⟨a9, out, k6, E, ⟨hcyc, hat, hE, hk6⟩, rfl⟩ := hs
    refine AW.seq ?_
    refine AW.seq ?_
    refine AW.reg ?_
    refine SeqK.q (q_mvC rfl rfl) rfl rfl rfl ?_
    refine SeqK.q (q_gtr rfl rfl rfl) rfl rfl rfl ?_
    refine SeqK.nil ?_
    refine AW.condD rfl (fun h20 => ?_) (fun h20 => ?_)
    ·
      obtain ⟨p, rfl⟩ : ∃ p, q = p + 1 := ⟨q - 1, by omega⟩
      have hol : out.length + (p + 1) = d + 1 := by
        have h1 := congrArg List.length hcyc
        rw [(cyc_facts hd).1, List.length_append, down_len] at h1; omega
      refine AW.skip ?_
      refine AW.block ?_
      refine AW.seq ?_
      refine AW.reg ?_
      refine SeqK.r (b_load (r := .g [_]) rfl Fx.ty26 rfl rfl rfl rfl rfl rfl) rfl ?_
      refine SeqK.q (q_mvC rfl rfl) rfl rfl rfl ?_
      refine SeqK.q (q_call _ rfl Fx.fn16 rfl (succs_any L _ (by omega)) rfl) rfl rfl rfl ?_
      refine SeqK.q (q_asC rfl rfl) rfl rfl rfl ?_
      refine SeqK.nil ?_
      refine AW.seq ?_
      refine AW.seq ?_
      refine AW.reg ?_
      refine SeqK.q (q_asC rfl rfl) rfl rfl rfl ?_
      refine SeqK.nil ?_
      refine AW.block ?_
      refine AW.loop (fun (i : Nat) s => (i ≤ (succs ltI L a9).length ∧ ∀ j (hj : j < (succs ltI L a9).length), j < i → dist L (succs ltI L a9)[j] n ≠ some (p + 1)) ∧ s = ⟨51, sp [(1, .c (iC n)), (2, .lp 2 0), (5, iX .i64 ((p + 1 + 1 : Nat) : Int)), (6, .c (.a (.ts k6 .nn 1 E))), (7, .c (iC a9)), (8, .c (iL .un (succs ltI L a9))), (9, iX .i64 ((i : Nat) : Int))], lv [(2, .box [.t (.sl .un 2 (L.map eT))])], upd H k6 (some (.tip 3 1 E.length))⟩) (fun i => (succs ltI L a9).length - i) 0 ⟨_, Wk.keep 51 [(1, .c (iC n)), (2, .lp 2 0), (5, iX .i64 ((p + 1 + 1 : Nat) : Int)), (6, .c (.a (.ts k6 .nn 1 E))), (7, .c (iC a9)), (8, .c (iL .un (succs ltI L a9))), (9, iX .i64 ((((0 : Nat)) : Nat) : Int))] [(2, .box [.t (.sl .un 2 (L.map eT))])] (upd H k6 (some (.tip 3 1 E.length))) rfl ⟨rfl, rfl, rfl, rfl, rfl, rfl, rfl, trivial⟩ ⟨rfl, trivial⟩ (fun _ _ h => h) rfl, ⟨Nat.zero_le _, fun _ _ h => by omega⟩, rfl⟩ (fun i s hs => ?_)
      obtain ⟨⟨hi, hno⟩, rfl⟩ := hs
      refine AW.seq ?_
      refine AW.seq ?_
      refine AW.reg ?_
      refine SeqK.q (q_mvC rfl rfl) rfl rfl rfl ?_
      refine SeqK.q (q_mvC rfl rfl) rfl rfl rfl ?_
      refine SeqK.q (q_len rfl Fx.un30 rfl) rfl rfl rfl ?_
      refine SeqK.q (q_lss rfl rfl rfl) rfl rfl rfl ?_
      refine SeqK.nil ?_
      refine AW.condD rfl (fun h27 => ?_) (fun h27 => ?_)
      ·
        have hka : i < (succs ltI L a9).length := by simp at h27; omega
        have hsl := succs_len (lt := ltI) (L := L) (a := a9)
        refine AW.skip ?_
        refine AW.seq ?_
        refine AW.block ?_
        refine AW.seq ?_
        refine AW.draw Fx.mo ?_
        refine LexK.r (b_load (r := .g [_]) rfl Fx.ty26 rfl rfl rfl rfl rfl rfl) rfl ?_
        refine LexK.q (q_mvC rfl rfl) rfl rfl rfl ?_
        refine LexK.q (q_mvC rfl rfl) rfl rfl rfl ?_
        refine LexK.q (q_index _ rfl Fx.sl30 rfl rfl (by omega) (idx_map hka)) rfl rfl rfl ?_
        refine LexK.q (q_load (.a _) rfl Fx.ty3 rfl rfl rfl) rfl rfl rfl ?_
        refine LexK.q (q_mvC rfl rfl) rfl rfl rfl ?_
        refine LexK.q (q_call _ rfl Fx.fn21 rfl (far_any L _ _ (by omega)) rfl) rfl rfl rfl ?_
        refine LexK.q (q_mvC rfl rfl) rfl rfl rfl ?_
        refine LexK.q (q_sub _ rfl rfl rfl ((by rw [w64 (by omega) (by omega)]; omega : IntKind.i64.wrap _ = ((p + 1 : Nat) : Int)))) rfl rfl rfl ?_
        refine LexK.q (q_eql rfl rfl rfl) rfl rfl rfl ?_
        refine LexK.nil (by kernel_rfl) ?_
        refine AW.condD rfl (fun h39 => ?_) (fun h39 => ?_)
        ·
          have hf : dist L (succs ltI L a9)[i] n = some (p + 1) := (farZ_iff (by omega)).1 (by simpa using h39)
          refine AW.seq ?_
          refine AW.reg ?_
          refine SeqK.q (q_mvC rfl rfl) rfl rfl rfl ?_
          refine SeqK.q (q_mvC rfl rfl) rfl rfl rfl ?_
          refine SeqK.q (q_index _ rfl Fx.sl30 rfl rfl (by omega) (idx_map hka)) rfl rfl rfl ?_
          refine SeqK.q (q_load (.a _) rfl Fx.ty3 rfl rfl rfl) rfl rfl rfl ?_
          refine SeqK.q (q_asC rfl rfl) rfl rfl rfl ?_
          refine SeqK.nil ?_
          refine AW.exit ?_
          refine exit_pass ?_ rfl
          refine eth_e ?_
          refine eth_e ?_
          refine exit_here ?_
          refine AW.seq ?_
          refine AW.reg ?_
          refine SeqK.q (q_mvC rfl rfl) rfl rfl rfl ?_
          refine SeqK.q (q_mvC rfl rfl) rfl rfl rfl ?_
          refine SeqK.q (q_buildSlice _ rfl Fx.el30 rfl (by decide) rfl) rfl rfl rfl ?_
          refine SeqK.app1 rfl (by assumption) rfl Fx.el30 rfl rfl (by rw [hE]; simp; omega) rfl rfl (fun k47 hk47 => ?_)
          refine SeqK.q (q_asC rfl rfl) rfl rfl rfl ?_
          refine SeqK.nil ?_
          refine AW.reg ?_
          refine SeqK.q (q_mvC rfl rfl) rfl rfl rfl ?_
          refine SeqK.q (q_sub _ rfl rfl rfl ((by rw [w64 (by omega) (by omega)]; omega : IntKind.i64.wrap _ = ((p + 1 : Nat) : Int)))) rfl rfl rfl ?_
          refine SeqK.q (q_asC rfl rfl) rfl rfl rfl ?_
          refine SeqK.nil ?_
          exact ⟨p, _, Wk.keep 51 [(1, .c (iC n)), (2, .lp 2 0), (5, iX .i64 (((p) + 1 : Nat) : Int)), (6, .c (.a (.ts (k47) .nn 1 ((E ++ [i64T (succs ltI L a9)[i]]))))), (7, .c (iC ((succs ltI L a9)[i])))] [(2, .box [.t (.sl .un 2 (L.map eT))])] (upd H (k47) (some (.tip 3 1 ((E ++ [i64T (succs ltI L a9)[i]])).length))) rfl ⟨rfl, rfl, rfl, rfl, rfl, trivial⟩ ⟨rfl, trivial⟩ (fun _ _ h => h) rfl, by omega, (succs ltI L a9)[i], (out ++ [(succs ltI L a9)[i]]), k47, (E ++ [i64T (succs ltI L a9)[i]]), ⟨by rw [hcyc, down, find_at hka (by simpa using hf) (fun j hj hji => by simpa using hno j hj hji)]; simp, hf, by rw [hE]; simp, hk47⟩, rfl⟩
        ·
          refine AW.skip ?_
          refine AW.reg ?_
          refine SeqK.q (q_mvC rfl rfl) rfl rfl rfl ?_
          refine SeqK.q (q_add _ rfl rfl rfl (w64 (by omega) (by omega))) rfl rfl rfl ?_
          refine SeqK.q (q_asC rfl rfl) rfl rfl rfl ?_
          refine SeqK.nil ?_
          exact ⟨i + 1, _, Wk.keep 51 [(1, .c (iC n)), (2, .lp 2 0), (5, iX .i64 ((p + 1 + 1 : Nat) : Int)), (6, .c (.a (.ts k6 .nn 1 E))), (7, .c (iC a9)), (8, .c (iL .un (succs ltI L a9))), (9, iX .i64 (((i + 1) : Nat) : Int))] [(2, .box [.t (.sl .un 2 (L.map eT))])] (upd H k6 (some (.tip 3 1 E.length))) rfl ⟨rfl, rfl, rfl, rfl, rfl, rfl, rfl, trivial⟩ ⟨rfl, trivial⟩ (fun _ _ h => h) rfl, by omega, ⟨by omega, fun j hj hji => by
            rcases Nat.lt_or_ge j i with h | h
            · exact hno j hj h
            · obtain rfl : j = i := by omega
              intro h9; exact h39 (by rw [(farZ_iff (by omega)).2 h9])⟩, rfl⟩
      ·
        exfalso; obtain ⟨x, h1, h2⟩ := dist_next (lt := ltI) hat; obtain ⟨j, h3, h4⟩ := List.getElem_of_mem h1; exact hno j h3 (by simp at h27; omega) (by rw [h4]; exact h2)
    ·
      refine AW.exit ?_
      refine eth_e ?_
      refine eth_e ?_
      refine exit_here ?_
      refine AW.seq ?_
      refine AW.reg ?_
      refine SeqK.q (q_mvC rfl rfl) rfl rfl rfl ?_
      refine SeqK.q (q_asC rfl rfl) rfl rfl rfl ?_
      refine SeqK.nil ?_
      refine AW.ret ?_
      obtain rfl : q = 0 := by omega
      subst hE
      exact fin_w (x := .c _) (H) (.tmp rfl .nil) rfl (upd_sub hk6) (⟨.inr (by rw [hcyc]; simp [down]; rfl), rfl⟩)

theorem XW.nilL : XW (.c (.a (.t (.v (.slice none 0 0))))) (.c (iL .un [])) := ⟨rfl, fun c v h => by
  have := rep_tv h; subst this; exact RepA.t (.nil (by simp))⟩
theorem cycle_any (L : GE) (n : Int) (hL : L.length ≤ 10000) : Pure Try.prog 23 [grC .un L, iC n] (.c (iL .un (cyc ltI L n))) := fun H =>
  Spec.xw (cycle_r L n hL H) fun x H' ⟨h1, h2⟩ => by
    rcases h1 with ⟨h1, h3⟩ | h1
    · exact ⟨_, by rw [h3]; exact XW.nilL, by rw [h1], h2⟩
    · exact ⟨_, by rw [h1]; exact XW.un, rfl, h2⟩
end Go.Proofs.Ytikcmjamioopbaa.W
/- A graph's objects: a map of maps. For whatever nodes. -/
namespace Go.Proofs.Ytikcmjamioopbaa.W
open Go.RowKit E M
set_option linter.unusedVariables false
set_option linter.unusedSectionVars false
abbrev yes : C := .a (.t (.v (.bool true)))
def hasE {α : Type} [DecidableEq α] (L : List (α × α)) (a b : α) : Bool := decide ((a, b) ∈ L)
/-- nodes as keys of maps -/
structure Nd (α : Type) [DecidableEq α] where
  nv : α → Value
  kk : KK
  kok : ∀ a, kok kk (nv a) = true
  keq : ∀ a b, keq (nv a) (nv b) = decide (a = b)
  sur : ∀ v, E.kok kk v = true → ∃ a, v = nv a
section
variable {α : Type} [DecidableEq α]
theorem Nd.inj (nd : Nd α) {a b : α} (h : nd.nv a = nd.nv b) : a = b := by
  have h1 := nd.keq a b
  rw [h] at h1
  have h2 := keq_refl (nd.kok b)
  rw [h1] at h2; simpa using h2
structure GrAt (nd : Nd α) (H : Heap) (k km : Nat) (es : List ME) (ck : Nat) (g : α → Option Nat) (L : List (α × α)) : Prop where
  box : H k = some (.box [.mp km])
  map : H km = some (.map nd.kk es ck)
  ok : MOk nd.kk es ck
  get : ∀ a, mget (nd.nv a) es = (g a).map fun ki => .a (.mp ki)
  gne : ∀ a ki, g a = some ki → ki ≠ km ∧ ki ≠ k
  ginj : ∀ a a' ki, g a = some ki → g a' = some ki → a = a'
  inn : ∀ a ki, g a = some ki → ∃ es3 c3, H ki = some (.map nd.kk es3 c3) ∧ MOk nd.kk es3 c3 ∧ ∀ b, mget (nd.nv b) es3 = if (a, b) ∈ L then some yes else none
  no : ∀ a, g a = none → ∀ b, (a, b) ∉ L
  ne : ∀ a ki, g a = some ki → ∃ b, (a, b) ∈ L
def Gr (nd : Nd α) (H : Heap) (k : Nat) (L : List (α × α)) : Prop := ∃ km es ck g, GrAt nd H k km es ck g L
variable {nd : Nd α} {H H' : Heap} {k km : Nat} {es : List ME} {ck : Nat} {g : α → Option Nat} {L L' : List (α × α)}
theorem GrAt.kne (h : GrAt nd H k km es ck g L) : k ≠ km := fun e => by have := h.box; rw [e, h.map] at this; cases this
theorem GrAt.mono (h : GrAt nd H k km es ck g L) (hs : ∀ j o, H j = some o → (∃ r, o = .box r) ∨ (∃ kk es c, o = .map kk es c) → H' j = some o) : GrAt nd H' k km es ck g L :=
  ⟨hs _ _ h.box (.inl ⟨_, rfl⟩), hs _ _ h.map (.inr ⟨_, _, _, rfl⟩), h.ok, h.get, h.gne, h.ginj, fun a ki hk => by
    obtain ⟨es3, c3, h1, h2, h3⟩ := h.inn a ki hk
    exact ⟨es3, c3, hs _ _ h1 (.inr ⟨_, _, _, rfl⟩), h2, h3⟩, h.no, h.ne⟩
theorem Gr.mono (h : Gr nd H k L) (hs : ∀ j o, H j = some o → (∃ r, o = .box r) ∨ (∃ kk es c, o = .map kk es c) → H' j = some o) : Gr nd H' k L := by
  obtain ⟨km, es, ck, g, h⟩ := h
  exact ⟨km, es, ck, g, h.mono hs⟩
theorem Gr.sub (h : Gr nd H k L) (hs : ∀ j o, H j = some o → H' j = some o) : Gr nd H' k L := h.mono fun j o hj _ => hs j o hj
theorem Gr.fresh {j : Nat} {o : Option AO} (h : Gr nd H k L) (hj : H j = none) : Gr nd (upd H j o) k L := h.mono fun i x hi _ => by
  rw [upd_ne _ _ (fun e => by subst e; rw [hj] at hi; cases hi)]; exact hi
theorem GrAt.fresh {j : Nat} {o : Option AO} (h : GrAt nd H k km es ck g L) (hj : H j = none) : GrAt nd (upd H j o) k km es ck g L := h.mono fun i x hi _ => by
  rw [upd_ne _ _ (fun e => by subst e; rw [hj] at hi; cases hi)]; exact hi
theorem GrAt.same (h : GrAt nd H k km es ck g L) (hm : ∀ e, e ∈ L' ↔ e ∈ L) : GrAt nd H k km es ck g L' :=
  ⟨h.box, h.map, h.ok, h.get, h.gne, h.ginj, fun a ki hk => by
    obtain ⟨es3, c3, h1, h2, h3⟩ := h.inn a ki hk
    exact ⟨es3, c3, h1, h2, fun b => by rw [h3]; simp only [hm]⟩, fun a ha b hb => h.no a ha b ((hm _).1 hb), fun a ki hk => by
    obtain ⟨b, hb⟩ := h.ne a ki hk; exact ⟨b, (hm _).2 hb⟩⟩
theorem gr_new {k1 k2 : Nat} (h1 : H k1 = none) (h2 : upd H k1 (some (.map nd.kk [] 0)) k2 = none) : Gr nd (upd (upd H k1 (some (.map nd.kk [] 0))) k2 (some (.box [.mp k1]))) k2 [] := by
  obtain ⟨h3, h4⟩ := upd_lt h2
  exact ⟨k1, [], 0, fun _ => none, upd_same _ _ _, by rw [upd_ne _ _ h3.symm, upd_same], .nil, fun _ => rfl, fun _ _ h => (by cases h), fun _ _ _ h => (by cases h), fun _ _ h => (by cases h), fun _ _ _ h => (by simp at h), fun _ _ h => (by cases h)⟩
/-- a node's edges are gone -/
theorem GrAt.leave (h : GrAt nd H k km es ck g L) (n : α) : GrAt nd (upd H km (some (.map nd.kk (mdel (nd.nv n) es) ck))) k km (mdel (nd.nv n) es) ck (fun a => if a = n then none else g a) (lvE L n) := by
  have old : ∀ (o : Option AO) j, j ≠ km → upd H km o j = H j := fun o j h1 => by rw [upd_ne _ _ h1]
  refine ⟨by rw [old _ k h.kne]; exact h.box, upd_same _ _ _, h.ok.del, fun a => ?_, fun a ki hk => ?_, fun a a' ki h1 h2 => ?_, fun a ki hk => ?_, fun a ha b hb => ?_, fun a ki hk => ?_⟩
  · rw [mget_mdel h.ok (nd.kok a) (nd.kok n), nd.keq]
    by_cases e : a = n <;> simp [e, h.get]
  · by_cases e : a = n
    · simp [e] at hk
    · simp [e] at hk; exact h.gne a ki hk
  · by_cases e : a = n
    · simp [e] at h1
    · by_cases e' : a' = n
      · simp [e'] at h2
      · simp [e] at h1; simp [e'] at h2; exact h.ginj a a' ki h1 h2
  · by_cases e : a = n
    · simp [e] at hk
    · simp [e] at hk
      obtain ⟨es3, c3, h1, h2, h3⟩ := h.inn a ki hk
      refine ⟨es3, c3, by rw [old _ ki (h.gne a ki hk).1]; exact h1, h2, fun b => ?_⟩
      rw [h3]; simp [mem_lvE, e]
  · rw [mem_lvE] at hb
    by_cases e : a = n
    · exact hb.2 e
    · simp [e] at ha; exact h.no a ha b hb.1
  · by_cases e : a = n
    · simp [e] at hk
    · simp [e] at hk
      obtain ⟨b, hb⟩ := h.ne a ki hk
      exact ⟨b, mem_lvE.2 ⟨hb, e⟩⟩
/-- an edge more, from a node that has some -/
theorem GrAt.add1 (h : GrAt nd H k km es ck g L) (a b : α) (ki : Nat) (hg : g a = some ki) (es3 : List ME) (c3 : Nat) (h3 : H ki = some (.map nd.kk es3 c3)) (hn : (a, b) ∉ L) :
    GrAt nd (upd H ki (some (.map nd.kk (mset (nd.nv b) yes c3 es3) (mclock (nd.nv b) es3 c3)))) k km es ck g (addE L a b) := by
  obtain ⟨n1, n2⟩ := h.gne a ki hg
  have old : ∀ (o : Option AO) j, j ≠ ki → upd H ki o j = H j := fun o j h1 => by rw [upd_ne _ _ h1]
  refine ⟨by rw [old _ k n2.symm]; exact h.box, by rw [old _ km n1.symm]; exact h.map, h.ok, h.get, h.gne, h.ginj, fun a' kj hk => ?_, fun a' ha b' hb => ?_, fun a' kj hk => ?_⟩
  · obtain ⟨es4, c4, h4, h5, h6⟩ := h.inn a' kj hk
    by_cases e : kj = ki
    · subst e
      have := h.ginj _ _ _ hk hg
      subst this
      rw [h3] at h4; injection h4 with h4; injection h4 with _ e1 e2; subst e1 e2
      refine ⟨_, _, upd_same _ _ _, h5.set (nd.kok b), fun b' => ?_⟩
      rw [mget_mset (nd.kok b') (nd.kok b) h5.key, nd.keq, h6]
      by_cases e : b' = b
      · subst e; simp [mem_addE]
      · simp [e, mem_addE]
    · refine ⟨es4, c4, by rw [old _ kj e]; exact h4, h5, fun b' => ?_⟩
      have hne : a' ≠ a := fun e1 => by subst e1; rw [hk] at hg; injection hg with hg; exact e hg
      rw [h6]; simp [mem_addE, hne]
  · rcases mem_addE.1 hb with hb | hb
    · exact h.no a' ha b' hb
    · injection hb with e1 e2; subst e1; rw [ha] at hg; cases hg
  · obtain ⟨b', hb⟩ := h.ne a' kj hk
    exact ⟨b', mem_addE.2 (.inl hb)⟩
/-- an edge more, from a node that has none -/
theorem GrAt.add2 (h : GrAt nd H k km es ck g L) (a b : α) (ki : Nat) (hg : g a = none) (hf : H ki = none) :
    GrAt nd (upd (upd (upd H ki (some (.map nd.kk [] 0))) km (some (.map nd.kk (mset (nd.nv a) (.a (.mp ki)) ck es) (mclock (nd.nv a) es ck)))) ki (some (.map nd.kk (mset (nd.nv b) yes 0 []) (mclock (nd.nv b) [] 0)))) k km (mset (nd.nv a) (.a (.mp ki)) ck es) (mclock (nd.nv a) es ck) (fun x => if x = a then some ki else g x) (addE L a b) := by
  have n1 : ki ≠ km := fun e => by rw [e, h.map] at hf; cases hf
  have n2 : ki ≠ k := fun e => by rw [e, h.box] at hf; cases hf
  have hn : (a, b) ∉ L := h.no a hg b
  have old : ∀ (o p q : Option AO) j, j ≠ ki → j ≠ km → upd (upd (upd H ki o) km p) ki q j = H j := fun o p q j h1 h2 => by rw [upd_ne _ _ h1, upd_ne _ _ h2, upd_ne _ _ h1]
  have oldn : ∀ x kj, g x = some kj → kj ≠ ki := fun x kj hk e => by
    obtain ⟨_, _, h4, _⟩ := h.inn x kj hk
    rw [e, hf] at h4; cases h4
  refine ⟨by rw [old _ _ _ k n2.symm h.kne]; exact h.box, by rw [upd_ne _ _ n1.symm, upd_same], h.ok.set (nd.kok a), fun x => ?_, fun x kj hk => ?_, fun x x' kj h1 h2 => ?_, fun x kj hk => ?_, fun x hx y hy => ?_, fun x kj hk => ?_⟩
  · rw [mget_mset (nd.kok x) (nd.kok a) h.ok.key, nd.keq]
    by_cases e : x = a <;> simp [e, h.get]
  · by_cases e : x = a
    · rw [if_pos e] at hk; injection hk with hk; subst hk; exact ⟨n1, n2⟩
    · rw [if_neg e] at hk; exact h.gne x kj hk
  · by_cases e : x = a <;> by_cases e' : x' = a
    · rw [e, e']
    · rw [if_pos e] at h1; rw [if_neg e'] at h2; injection h1 with h1; exact absurd h1.symm (oldn _ _ h2)
    · rw [if_neg e] at h1; rw [if_pos e'] at h2; injection h2 with h2; exact absurd h2.symm (oldn _ _ h1)
    · rw [if_neg e] at h1; rw [if_neg e'] at h2; exact h.ginj _ _ _ h1 h2
  · by_cases e : x = a
    · rw [if_pos e] at hk; injection hk with hk; subst hk
      refine ⟨_, _, upd_same _ _ _, MOk.nil.set (nd.kok b), fun y => ?_⟩
      rw [mget_mset (nd.kok y) (nd.kok b) MOk.nil.key, nd.keq, e]
      by_cases e2 : y = b
      · subst e2; simp [mem_addE]
      · simp [e2, mem_addE, h.no a hg y]; rfl
    · rw [if_neg e] at hk
      obtain ⟨es4, c4, h4, h5, h6⟩ := h.inn x kj hk
      refine ⟨es4, c4, by rw [old _ _ _ kj (oldn _ _ hk) (h.gne _ _ hk).1]; exact h4, h5, fun y => ?_⟩
      rw [h6]; simp [mem_addE, e]
  · by_cases e : x = a
    · rw [if_pos e] at hx; cases hx
    · rw [if_neg e] at hx
      rcases mem_addE.1 hy with hy | hy
      · exact h.no x hx y hy
      · injection hy with e1 e2; exact e e1
  · by_cases e : x = a
    · exact ⟨b, mem_addE.2 (.inr (by rw [e]))⟩
    · rw [if_neg e] at hk
      obtain ⟨y, hy⟩ := h.ne x kj hk
      exact ⟨y, mem_addE.2 (.inl hy)⟩
/-- the inner map of a node that has edges: its keys -/
theorem GrAt.keys (h : GrAt nd H k km es ck g L) {a : α} {es3 : List ME} {c3 : Nat} (ok : MOk nd.kk es3 c3) (hget : ∀ b, mget (nd.nv b) es3 = if (a, b) ∈ L then some yes else none) (b : α) : (∃ m ∈ es3, m.k = nd.nv b) ↔ (a, b) ∈ L := by
  constructor
  · rintro ⟨m, hm, e⟩
    have := mget_mem ok hm
    rw [e, hget] at this
    split at this
    · assumption
    · cases this
  · intro hb
    have := hget b
    rw [if_pos hb] at this
    obtain ⟨m, h1, h2, _⟩ := mget_some (nd.kok b) ok.key this
    exact ⟨m, h1, h2⟩
theorem GrAt.outer (h : GrAt nd H k km es ck g L) (a : α) : (∃ m ∈ es, m.k = nd.nv a) ↔ ∃ b, (a, b) ∈ L := by
  constructor
  · rintro ⟨m, hm, e⟩
    have := mget_mem h.ok hm
    rw [e, h.get] at this
    cases hg : g a with
    | none => rw [hg] at this; cases this
    | some ki => exact h.ne a ki hg
  · rintro ⟨b, hb⟩
    cases hg : g a with
    | none => exact absurd hb (h.no a hg b)
    | some ki =>
      have := h.get a
      rw [hg] at this
      obtain ⟨m, h1, h2, _⟩ := mget_some (nd.kok a) h.ok.key this
      exact ⟨m, h1, h2⟩
end
end Go.Proofs.Ytikcmjamioopbaa.W
namespace Go.Proofs.Ytikcmjamioopbaa.W
open Go.RowKit E M
set_option linter.unusedVariables false
set_option linter.unusedSimpArgs false
set_option linter.unusedSectionVars false
def ndI : Nd Int where
  nv n := .int .i64 n
  kk := .int .i64
  kok _ := rfl
  keq _ _ := rfl
  sur v h := by cases v <;> simp [kok] at h; subst h; exact ⟨_, rfl⟩
abbrev sC (s : ByteArray) : C := .a (.t (.v (.string s)))
abbrev strT (s : ByteArray) : List T := [.v (.string s)]
abbrev sL (z : Nz) (l : List ByteArray) : C := .a (.t (.sl z 1 (l.map strT)))
theorem strl : ∀ x, (strT x).length = 1 := fun _ => rfl
def ltS (a b : ByteArray) : Bool := strLt a b
theorem less_eq : ∀ (x y : List UInt8), Op.bytesLess x y = decide (x < y)
  | [], [] => by simp [Op.bytesLess]
  | _ :: _, [] => by simp [Op.bytesLess]
  | [], _ :: _ => by simp [Op.bytesLess]
  | a :: x, b :: y => by
    have ih := less_eq x y
    simp only [Op.bytesLess, List.cons_lt_cons_iff, ih]
    by_cases h : a < b <;> by_cases h2 : a = b <;> simp [h, h2]
theorem sext {p q : ByteArray} (h : p.data.toList = q.data.toList) : p = q := by
  cases p; cases q; simp at h; exact congrArg _ (Array.toList_inj.1 (by simpa using h))
theorem ltS_iff {p q : ByteArray} : ltS p q = true ↔ p.data.toList < q.data.toList := by unfold ltS strLt; rw [less_eq]; simp
theorem ordS : Ord ltS := ⟨fun a => by
    cases h : ltS a a with
    | false => rfl
    | true => exact absurd (ltS_iff.1 h) (List.lt_irrefl _), fun a b c h1 h2 => ltS_iff.2 (List.lt_trans (ltS_iff.1 h1) (ltS_iff.1 h2)), fun a b h1 h2 => sext (List.le_antisymm (List.not_lt.1 fun h => by rw [ltS_iff.2 h] at h2; cases h2) (List.not_lt.1 fun h => by rw [ltS_iff.2 h] at h1; cases h1))⟩
def ndS : Nd ByteArray where
  nv s := .string s
  kk := .str
  kok _ := rfl
  keq a b := by
    by_cases h : a = b
    · subst h; rw [decide_eq_true rfl]; exact keq_refl (kk := .str) rfl
    · rw [decide_eq_false h]
      cases h2 : keq (.string a) (.string b) with
      | false => rfl
      | true => exact absurd (by have h3 := (keq_iff (kk := .str) rfl rfl).1 h2; injection h3) h
  sur v h := by cases v <;> simp [kok] at h; exact ⟨_, rfl⟩

theorem add_cases {α : Type} [DecidableEq α] (g : α → Option Nat) (L : List (α × α)) (a b : α) : g a = none ∨ (∃ ki, g a = some ki ∧ (a, b) ∉ L) ∨ (∃ ki, g a = some ki ∧ (a, b) ∈ L) := by
  cases h : g a with
  | none => exact .inl rfl
  | some ki =>
    by_cases hm : (a, b) ∈ L
    · exact .inr (.inr ⟨ki, rfl, hm⟩)
    · exact .inr (.inl ⟨ki, rfl, hm⟩)

set_option maxRecDepth 20000 in
theorem newI (H : Heap) : E.Spec Try.prog 30 [] H fun x H' => ∃ c, x = .c (.a (.bp c 0)) ∧ Gr ndI H' c [] ∧ ∀ j o, H j = some o → H' j = some o := by
  refine Spec.enter Try.func30 rfl ?_
  refine AW.wk (Wk.keep 4 [] [] (H) rfl trivial trivial (fun _ _ h => h) rfl) ?_
  refine AW.seq ?_
  refine AW.reg ?_
  refine SeqK.q (q_asC rfl rfl) rfl rfl rfl ?_
  refine SeqK.nil ?_
  refine AW.seq ?_
  refine AW.reg ?_
  refine SeqK.newMap (.int .i64) rfl rfl rfl rfl (fun k1 hk1 => ?_)
  refine SeqK.q (q_build2 (zs := [_]) (r := [_]) [(0, 1)] _ rfl Fx.ze74 rfl Fx.bp74 rfl rfl rfl rfl) rfl rfl rfl ?_
  refine SeqK.newBox (r := [_]) rfl rfl rfl rfl rfl rfl (fun k3 hk3 => ?_)
  refine SeqK.q (q_asC rfl rfl) rfl rfl rfl ?_
  refine SeqK.nil ?_
  refine AW.ret ?_
  exact fin_x (x := .c _) (_) (.tmp rfl .nil) rfl (fun _ _ h => h) (⟨k3, rfl, gr_new (nd := ndI) hk1 hk3, fun j o hj => upd_sub hk3 j o (upd_sub hk1 j o hj)⟩)

set_option maxRecDepth 20000 in
theorem leaveI (H : Heap) (k : Nat) (L : List (Int × Int)) (n : Int) (G : Gr ndI H k L) : E.Spec Try.prog 28 [.a (.bp k 0), iC n] H fun x H' => x = .tup [] ∧ Gr ndI H' k (lvE L n) := by
  obtain ⟨km, es, ck, g, G⟩ := G
  have hbox := G.box
  have hmap := G.map
  have hkm := G.kne
  refine Spec.enter Try.func28 rfl ?_
  refine AW.wk (Wk.keep 9 [(0, .c (.a (.bp k 0))), (1, .c (iC n))] [] (H) rfl ⟨rfl, rfl, trivial⟩ trivial (fun _ _ h => h) rfl) ?_
  refine AW.reg ?_
  refine SeqK.q (q_mvC rfl rfl) rfl rfl rfl ?_
  refine SeqK.q (q_nilH rfl rfl) rfl rfl rfl ?_
  refine SeqK.q (q_fieldH _ rfl Fx.fl74_0 rfl rfl) rfl rfl rfl ?_
  refine SeqK.r (g_load (r := .a _) rfl Fx.ty72 rfl (by (repeat rw [upd_ne _ _ (by first | assumption | exact Ne.symm (by assumption))]); first | assumption | exact upd_same _ _ _) rfl rfl rfl rfl) rfl ?_
  refine SeqK.q (q_mvC rfl rfl) rfl rfl rfl ?_
  refine SeqK.r (g_delete (.int Fx.un3) rfl rfl Fx.un72 rfl (by (repeat rw [upd_ne _ _ (by first | assumption | exact Ne.symm (by assumption))]); first | assumption | exact upd_same _ _ _) rfl rfl) rfl ?_
  refine SeqK.nil ?_
  exact fin_xN (x := .tup []) (_) .nil rfl (fun _ _ h => h) (⟨rfl, _, _, _, _, G.leave n⟩)

set_option maxRecDepth 20000 in
theorem addI (H : Heap) (k : Nat) (L : List (Int × Int)) (a b : Int) (G : Gr ndI H k L) : E.Spec Try.prog 19 [.a (.bp k 0), iC a, iC b] H fun x H' => x = bX (!hasE L a b) ∧ Gr ndI H' k (addE L a b) := by
  obtain ⟨km, es, ck, g, G⟩ := G
  have hbox := G.box
  have hmap := G.map
  have hkm := G.kne
  refine Spec.enter Try.func19 rfl ?_
  refine AW.wk (Wk.keep 35 [(0, .c (.a (.bp k 0))), (1, .c (iC a)), (2, .c (iC b))] [] (H) rfl ⟨rfl, rfl, rfl, trivial⟩ trivial (fun _ _ h => h) rfl) ?_
  refine AW.seq ?_
  refine AW.reg ?_
  refine SeqK.q (q_asC rfl rfl) rfl rfl rfl ?_
  refine SeqK.nil ?_
  refine AW.seq ?_
  refine AW.seq ?_
  rcases add_cases g L a b with hg | ⟨ki, hg, hm⟩ | ⟨ki, hg, hm⟩
  ·
    have hn : (a, b) ∉ L := G.no a hg b
    refine AW.reg ?_
    refine SeqK.q (q_mvC rfl rfl) rfl rfl rfl ?_
    refine SeqK.q (q_nilH rfl rfl) rfl rfl rfl ?_
    refine SeqK.q (q_fieldH _ rfl Fx.fl74_0 rfl rfl) rfl rfl rfl ?_
    refine SeqK.r (g_load (r := .a _) rfl Fx.ty72 rfl (by (repeat rw [upd_ne _ _ (by first | assumption | exact Ne.symm (by assumption))]); first | assumption | exact upd_same _ _ _) rfl rfl rfl rfl) rfl ?_
    refine SeqK.q (q_mvC rfl rfl) rfl rfl rfl ?_
    refine SeqK.r (g_lookup (r := .c (.a _)) (.int Fx.un3) rfl Fx.un72 Fx.ze48 rfl (by (repeat rw [upd_ne _ _ (by first | assumption | exact Ne.symm (by assumption))]); first | assumption | exact upd_same _ _ _) rfl rfl ((G.get a).trans (by rw [hg])) rfl rfl rfl) rfl ?_
    refine SeqK.q (q_mvC rfl rfl) rfl rfl rfl ?_
    refine SeqK.q (q_lookupN (.int Fx.un3) _ rfl Fx.un48 Fx.ze4 rfl rfl rfl rfl) rfl rfl rfl ?_
    refine SeqK.nil ?_
    refine AW.condF rfl ?_
    refine AW.skip ?_
    refine AW.seq ?_
    refine AW.seq ?_
    refine AW.reg ?_
    refine SeqK.q (q_mvC rfl rfl) rfl rfl rfl ?_
    refine SeqK.q (q_nilH rfl rfl) rfl rfl rfl ?_
    refine SeqK.q (q_fieldH _ rfl Fx.fl74_0 rfl rfl) rfl rfl rfl ?_
    refine SeqK.r (g_load (r := .a _) rfl Fx.ty72 rfl (by (repeat rw [upd_ne _ _ (by first | assumption | exact Ne.symm (by assumption))]); first | assumption | exact upd_same _ _ _) rfl rfl rfl rfl) rfl ?_
    refine SeqK.q (q_mvC rfl rfl) rfl rfl rfl ?_
    refine SeqK.r (g_lookup (r := .c (.a _)) (.int Fx.un3) rfl Fx.un72 Fx.ze48 rfl (by (repeat rw [upd_ne _ _ (by first | assumption | exact Ne.symm (by assumption))]); first | assumption | exact upd_same _ _ _) rfl rfl ((G.get a).trans (by rw [hg])) rfl rfl rfl) rfl ?_
    refine SeqK.q (q_eqlN rfl rfl rfl Fx.nk48) rfl rfl rfl ?_
    refine SeqK.nil ?_
    refine AW.condT rfl ?_
    refine AW.reg ?_
    refine SeqK.q (q_mvC rfl rfl) rfl rfl rfl ?_
    refine SeqK.q (q_nilH rfl rfl) rfl rfl rfl ?_
    refine SeqK.q (q_fieldH _ rfl Fx.fl74_0 rfl rfl) rfl rfl rfl ?_
    refine SeqK.r (g_load (r := .a _) rfl Fx.ty72 rfl (by (repeat rw [upd_ne _ _ (by first | assumption | exact Ne.symm (by assumption))]); first | assumption | exact upd_same _ _ _) rfl rfl rfl rfl) rfl ?_
    refine SeqK.q (q_mvC rfl rfl) rfl rfl rfl ?_
    refine SeqK.newMap (.int .i64) rfl rfl rfl rfl (fun k27 hk27 => ?_)
    refine SeqK.r (g_mapUpdate (.int Fx.un3) rfl rfl Fx.un72 rfl ((by rw [upd_ne _ _ (fun e => by subst e; rw [hmap] at hk27; cases hk27)]; exact hmap)) rfl rfl rfl) rfl ?_
    refine SeqK.nil ?_
    refine AW.seq ?_
    have nk1 : km ≠ k27 := fun e => by rw [← e, hmap] at hk27; cases hk27
    have nk2 : k ≠ k27 := fun e => by rw [← e, hbox] at hk27; cases hk27
    refine AW.reg ?_
    refine SeqK.q (q_mvC rfl rfl) rfl rfl rfl ?_
    refine SeqK.q (q_nilH rfl rfl) rfl rfl rfl ?_
    refine SeqK.q (q_fieldH _ rfl Fx.fl74_0 rfl rfl) rfl rfl rfl ?_
    refine SeqK.r (g_load (r := .a _) rfl Fx.ty72 rfl (by (repeat rw [upd_ne _ _ (by first | assumption | exact Ne.symm (by assumption))]); first | assumption | exact upd_same _ _ _) rfl rfl rfl rfl) rfl ?_
    refine SeqK.q (q_mvC rfl rfl) rfl rfl rfl ?_
    refine SeqK.r (g_lookup (r := .c (.a _)) (.int Fx.un3) rfl Fx.un72 Fx.ze48 rfl (by (repeat rw [upd_ne _ _ (by first | assumption | exact Ne.symm (by assumption))]); first | assumption | exact upd_same _ _ _) rfl rfl (((G.add2 a b k27 hg hk27).get a).trans (by show Option.map _ (if a = a then some k27 else g a) = _; rw [if_pos rfl])) rfl rfl rfl) rfl ?_
    refine SeqK.q (q_mvC rfl rfl) rfl rfl rfl ?_
    refine SeqK.r (g_mapUpdate (.int Fx.un3) rfl rfl Fx.un48 rfl (by (repeat rw [upd_ne _ _ (by first | assumption | exact Ne.symm (by assumption))]); first | assumption | exact upd_same _ _ _) rfl rfl rfl) rfl ?_
    refine SeqK.nil ?_
    refine AW.seq ?_
    refine AW.reg ?_
    refine SeqK.q (q_asC rfl rfl) rfl rfl rfl ?_
    refine SeqK.nil ?_
    refine AW.ret ?_
    exact fin_x (x := .c _) (_) (.tmp rfl .nil) rfl (fun _ _ h => h) (⟨by simp [hasE, hn], _, _, _, _, G.add2 a b k27 hg hk27⟩)
  ·
    obtain ⟨es3, c3, h3, ok3, hget⟩ := G.inn a ki hg
    obtain ⟨n31, n32⟩ := G.gne a ki hg
    refine AW.reg ?_
    refine SeqK.q (q_mvC rfl rfl) rfl rfl rfl ?_
    refine SeqK.q (q_nilH rfl rfl) rfl rfl rfl ?_
    refine SeqK.q (q_fieldH _ rfl Fx.fl74_0 rfl rfl) rfl rfl rfl ?_
    refine SeqK.r (g_load (r := .a _) rfl Fx.ty72 rfl (by (repeat rw [upd_ne _ _ (by first | assumption | exact Ne.symm (by assumption))]); first | assumption | exact upd_same _ _ _) rfl rfl rfl rfl) rfl ?_
    refine SeqK.q (q_mvC rfl rfl) rfl rfl rfl ?_
    refine SeqK.r (g_lookup (r := .c (.a _)) (.int Fx.un3) rfl Fx.un72 Fx.ze48 rfl (by (repeat rw [upd_ne _ _ (by first | assumption | exact Ne.symm (by assumption))]); first | assumption | exact upd_same _ _ _) rfl rfl ((G.get a).trans (by rw [hg])) rfl rfl rfl) rfl ?_
    refine SeqK.q (q_mvC rfl rfl) rfl rfl rfl ?_
    refine SeqK.r (g_lookup (r := .c (.a _)) (.int Fx.un3) rfl Fx.un48 Fx.ze4 rfl (by (repeat rw [upd_ne _ _ (by first | assumption | exact Ne.symm (by assumption))]); first | assumption | exact upd_same _ _ _) rfl rfl ((hget b).trans (if_neg hm)) rfl rfl rfl) rfl ?_
    refine SeqK.nil ?_
    refine AW.condF rfl ?_
    refine AW.skip ?_
    refine AW.seq ?_
    refine AW.seq ?_
    refine AW.reg ?_
    refine SeqK.q (q_mvC rfl rfl) rfl rfl rfl ?_
    refine SeqK.q (q_nilH rfl rfl) rfl rfl rfl ?_
    refine SeqK.q (q_fieldH _ rfl Fx.fl74_0 rfl rfl) rfl rfl rfl ?_
    refine SeqK.r (g_load (r := .a _) rfl Fx.ty72 rfl (by (repeat rw [upd_ne _ _ (by first | assumption | exact Ne.symm (by assumption))]); first | assumption | exact upd_same _ _ _) rfl rfl rfl rfl) rfl ?_
    refine SeqK.q (q_mvC rfl rfl) rfl rfl rfl ?_
    refine SeqK.r (g_lookup (r := .c (.a _)) (.int Fx.un3) rfl Fx.un72 Fx.ze48 rfl (by (repeat rw [upd_ne _ _ (by first | assumption | exact Ne.symm (by assumption))]); first | assumption | exact upd_same _ _ _) rfl rfl ((G.get a).trans (by rw [hg])) rfl rfl rfl) rfl ?_
    refine SeqK.q (q_eqlN rfl rfl rfl Fx.nk48) rfl rfl rfl ?_
    refine SeqK.nil ?_
    refine AW.condF rfl ?_
    refine AW.skip ?_
    refine AW.seq ?_
    refine AW.reg ?_
    refine SeqK.q (q_mvC rfl rfl) rfl rfl rfl ?_
    refine SeqK.q (q_nilH rfl rfl) rfl rfl rfl ?_
    refine SeqK.q (q_fieldH _ rfl Fx.fl74_0 rfl rfl) rfl rfl rfl ?_
    refine SeqK.r (g_load (r := .a _) rfl Fx.ty72 rfl (by (repeat rw [upd_ne _ _ (by first | assumption | exact Ne.symm (by assumption))]); first | assumption | exact upd_same _ _ _) rfl rfl rfl rfl) rfl ?_
    refine SeqK.q (q_mvC rfl rfl) rfl rfl rfl ?_
    refine SeqK.r (g_lookup (r := .c (.a _)) (.int Fx.un3) rfl Fx.un72 Fx.ze48 rfl (by (repeat rw [upd_ne _ _ (by first | assumption | exact Ne.symm (by assumption))]); first | assumption | exact upd_same _ _ _) rfl rfl ((G.get a).trans (by rw [hg])) rfl rfl rfl) rfl ?_
    refine SeqK.q (q_mvC rfl rfl) rfl rfl rfl ?_
    refine SeqK.r (g_mapUpdate (.int Fx.un3) rfl rfl Fx.un48 rfl (by (repeat rw [upd_ne _ _ (by first | assumption | exact Ne.symm (by assumption))]); first | assumption | exact upd_same _ _ _) rfl rfl rfl) rfl ?_
    refine SeqK.nil ?_
    refine AW.seq ?_
    refine AW.reg ?_
    refine SeqK.q (q_asC rfl rfl) rfl rfl rfl ?_
    refine SeqK.nil ?_
    refine AW.ret ?_
    exact fin_x (x := .c _) (_) (.tmp rfl .nil) rfl (fun _ _ h => h) (⟨by simp [hasE, hm], _, _, _, _, G.add1 a b ki hg es3 c3 h3 hm⟩)
  ·
    obtain ⟨es3, c3, h3, ok3, hget⟩ := G.inn a ki hg
    refine AW.reg ?_
    refine SeqK.q (q_mvC rfl rfl) rfl rfl rfl ?_
    refine SeqK.q (q_nilH rfl rfl) rfl rfl rfl ?_
    refine SeqK.q (q_fieldH _ rfl Fx.fl74_0 rfl rfl) rfl rfl rfl ?_
    refine SeqK.r (g_load (r := .a _) rfl Fx.ty72 rfl (by (repeat rw [upd_ne _ _ (by first | assumption | exact Ne.symm (by assumption))]); first | assumption | exact upd_same _ _ _) rfl rfl rfl rfl) rfl ?_
    refine SeqK.q (q_mvC rfl rfl) rfl rfl rfl ?_
    refine SeqK.r (g_lookup (r := .c (.a _)) (.int Fx.un3) rfl Fx.un72 Fx.ze48 rfl (by (repeat rw [upd_ne _ _ (by first | assumption | exact Ne.symm (by assumption))]); first | assumption | exact upd_same _ _ _) rfl rfl ((G.get a).trans (by rw [hg])) rfl rfl rfl) rfl ?_
    refine SeqK.q (q_mvC rfl rfl) rfl rfl rfl ?_
    refine SeqK.r (g_lookup (r := .c (.a _)) (.int Fx.un3) rfl Fx.un48 Fx.ze4 rfl (by (repeat rw [upd_ne _ _ (by first | assumption | exact Ne.symm (by assumption))]); first | assumption | exact upd_same _ _ _) rfl rfl ((hget b).trans (if_pos hm)) rfl rfl rfl) rfl ?_
    refine SeqK.nil ?_
    refine AW.condT rfl ?_
    refine AW.seq ?_
    refine AW.reg ?_
    refine SeqK.q (q_asC rfl rfl) rfl rfl rfl ?_
    refine SeqK.nil ?_
    refine AW.ret ?_
    exact fin_x (x := .c _) (H) (.tmp rfl .nil) rfl (fun _ _ h => h) (⟨by simp [hasE, hm], km, es, ck, g, by rw [show addE L a b = L from if_pos hm]; exact G⟩)

set_option maxRecDepth 20000 in
theorem newS (H : Heap) : E.Spec Try.prog 29 [] H fun x H' => ∃ c, x = .c (.a (.bp c 0)) ∧ Gr ndS H' c [] ∧ ∀ j o, H j = some o → H' j = some o := by
  refine Spec.enter Try.func29 rfl ?_
  refine AW.wk (Wk.keep 4 [] [] (H) rfl trivial trivial (fun _ _ h => h) rfl) ?_
  refine AW.seq ?_
  refine AW.reg ?_
  refine SeqK.q (q_asC rfl rfl) rfl rfl rfl ?_
  refine SeqK.nil ?_
  refine AW.seq ?_
  refine AW.reg ?_
  refine SeqK.newMap .str rfl rfl rfl rfl (fun k1 hk1 => ?_)
  refine SeqK.q (q_build2 (zs := [_]) (r := [_]) [(0, 1)] _ rfl Fx.ze82 rfl Fx.bp82 rfl rfl rfl rfl) rfl rfl rfl ?_
  refine SeqK.newBox (r := [_]) rfl rfl rfl rfl rfl rfl (fun k3 hk3 => ?_)
  refine SeqK.q (q_asC rfl rfl) rfl rfl rfl ?_
  refine SeqK.nil ?_
  refine AW.ret ?_
  exact fin_x (x := .c _) (_) (.tmp rfl .nil) rfl (fun _ _ h => h) (⟨k3, rfl, gr_new (nd := ndS) hk1 hk3, fun j o hj => upd_sub hk3 j o (upd_sub hk1 j o hj)⟩)

set_option maxRecDepth 20000 in
theorem addS (H : Heap) (k : Nat) (L : List (ByteArray × ByteArray)) (a b : ByteArray) (G : Gr ndS H k L) : E.Spec Try.prog 32 [.a (.bp k 0), sC a, sC b] H fun x H' => x = bX (!hasE L a b) ∧ Gr ndS H' k (addE L a b) := by
  obtain ⟨km, es, ck, g, G⟩ := G
  have hbox := G.box
  have hmap := G.map
  have hkm := G.kne
  refine Spec.enter Try.func32 rfl ?_
  refine AW.wk (Wk.keep 35 [(0, .c (.a (.bp k 0))), (1, .c (sC a)), (2, .c (sC b))] [] (H) rfl ⟨rfl, rfl, rfl, trivial⟩ trivial (fun _ _ h => h) rfl) ?_
  refine AW.seq ?_
  refine AW.reg ?_
  refine SeqK.q (q_asC rfl rfl) rfl rfl rfl ?_
  refine SeqK.nil ?_
  refine AW.seq ?_
  refine AW.seq ?_
  rcases add_cases g L a b with hg | ⟨ki, hg, hm⟩ | ⟨ki, hg, hm⟩
  ·
    have hn : (a, b) ∉ L := G.no a hg b
    refine AW.reg ?_
    refine SeqK.q (q_mvC rfl rfl) rfl rfl rfl ?_
    refine SeqK.q (q_nilH rfl rfl) rfl rfl rfl ?_
    refine SeqK.q (q_fieldH _ rfl Fx.fl82_0 rfl rfl) rfl rfl rfl ?_
    refine SeqK.r (g_load (r := .a _) rfl Fx.ty80 rfl (by (repeat rw [upd_ne _ _ (by first | assumption | exact Ne.symm (by assumption))]); first | assumption | exact upd_same _ _ _) rfl rfl rfl rfl) rfl ?_
    refine SeqK.q (q_mvC rfl rfl) rfl rfl rfl ?_
    refine SeqK.r (g_lookup (r := .c (.a _)) (.str Fx.un9) rfl Fx.un80 Fx.ze83 rfl (by (repeat rw [upd_ne _ _ (by first | assumption | exact Ne.symm (by assumption))]); first | assumption | exact upd_same _ _ _) rfl rfl ((G.get a).trans (by rw [hg])) rfl rfl rfl) rfl ?_
    refine SeqK.q (q_mvC rfl rfl) rfl rfl rfl ?_
    refine SeqK.q (q_lookupN (.str Fx.un9) _ rfl Fx.un83 Fx.ze4 rfl rfl rfl rfl) rfl rfl rfl ?_
    refine SeqK.nil ?_
    refine AW.condF rfl ?_
    refine AW.skip ?_
    refine AW.seq ?_
    refine AW.seq ?_
    refine AW.reg ?_
    refine SeqK.q (q_mvC rfl rfl) rfl rfl rfl ?_
    refine SeqK.q (q_nilH rfl rfl) rfl rfl rfl ?_
    refine SeqK.q (q_fieldH _ rfl Fx.fl82_0 rfl rfl) rfl rfl rfl ?_
    refine SeqK.r (g_load (r := .a _) rfl Fx.ty80 rfl (by (repeat rw [upd_ne _ _ (by first | assumption | exact Ne.symm (by assumption))]); first | assumption | exact upd_same _ _ _) rfl rfl rfl rfl) rfl ?_
    refine SeqK.q (q_mvC rfl rfl) rfl rfl rfl ?_
    refine SeqK.r (g_lookup (r := .c (.a _)) (.str Fx.un9) rfl Fx.un80 Fx.ze83 rfl (by (repeat rw [upd_ne _ _ (by first | assumption | exact Ne.symm (by assumption))]); first | assumption | exact upd_same _ _ _) rfl rfl ((G.get a).trans (by rw [hg])) rfl rfl rfl) rfl ?_
    refine SeqK.q (q_eqlN rfl rfl rfl Fx.nk83) rfl rfl rfl ?_
    refine SeqK.nil ?_
    refine AW.condT rfl ?_
    refine AW.reg ?_
    refine SeqK.q (q_mvC rfl rfl) rfl rfl rfl ?_
    refine SeqK.q (q_nilH rfl rfl) rfl rfl rfl ?_
    refine SeqK.q (q_fieldH _ rfl Fx.fl82_0 rfl rfl) rfl rfl rfl ?_
    refine SeqK.r (g_load (r := .a _) rfl Fx.ty80 rfl (by (repeat rw [upd_ne _ _ (by first | assumption | exact Ne.symm (by assumption))]); first | assumption | exact upd_same _ _ _) rfl rfl rfl rfl) rfl ?_
    refine SeqK.q (q_mvC rfl rfl) rfl rfl rfl ?_
    refine SeqK.newMap .str rfl rfl rfl rfl (fun k27 hk27 => ?_)
    refine SeqK.r (g_mapUpdate (.str Fx.un9) rfl rfl Fx.un80 rfl ((by rw [upd_ne _ _ (fun e => by subst e; rw [hmap] at hk27; cases hk27)]; exact hmap)) rfl rfl rfl) rfl ?_
    refine SeqK.nil ?_
    refine AW.seq ?_
    have nk1 : km ≠ k27 := fun e => by rw [← e, hmap] at hk27; cases hk27
    have nk2 : k ≠ k27 := fun e => by rw [← e, hbox] at hk27; cases hk27
    refine AW.reg ?_
    refine SeqK.q (q_mvC rfl rfl) rfl rfl rfl ?_
    refine SeqK.q (q_nilH rfl rfl) rfl rfl rfl ?_
    refine SeqK.q (q_fieldH _ rfl Fx.fl82_0 rfl rfl) rfl rfl rfl ?_
    refine SeqK.r (g_load (r := .a _) rfl Fx.ty80 rfl (by (repeat rw [upd_ne _ _ (by first | assumption | exact Ne.symm (by assumption))]); first | assumption | exact upd_same _ _ _) rfl rfl rfl rfl) rfl ?_
    refine SeqK.q (q_mvC rfl rfl) rfl rfl rfl ?_
    refine SeqK.r (g_lookup (r := .c (.a _)) (.str Fx.un9) rfl Fx.un80 Fx.ze83 rfl (by (repeat rw [upd_ne _ _ (by first | assumption | exact Ne.symm (by assumption))]); first | assumption | exact upd_same _ _ _) rfl rfl (((G.add2 a b k27 hg hk27).get a).trans (by show Option.map _ (if a = a then some k27 else g a) = _; rw [if_pos rfl])) rfl rfl rfl) rfl ?_
    refine SeqK.q (q_mvC rfl rfl) rfl rfl rfl ?_
    refine SeqK.r (g_mapUpdate (.str Fx.un9) rfl rfl Fx.un83 rfl (by (repeat rw [upd_ne _ _ (by first | assumption | exact Ne.symm (by assumption))]); first | assumption | exact upd_same _ _ _) rfl rfl rfl) rfl ?_
    refine SeqK.nil ?_
    refine AW.seq ?_
    refine AW.reg ?_
    refine SeqK.q (q_asC rfl rfl) rfl rfl rfl ?_
    refine SeqK.nil ?_
    refine AW.ret ?_
    exact fin_x (x := .c _) (_) (.tmp rfl .nil) rfl (fun _ _ h => h) (⟨by simp [hasE, hn], _, _, _, _, G.add2 a b k27 hg hk27⟩)
  ·
    obtain ⟨es3, c3, h3, ok3, hget⟩ := G.inn a ki hg
    obtain ⟨n31, n32⟩ := G.gne a ki hg
    refine AW.reg ?_
    refine SeqK.q (q_mvC rfl rfl) rfl rfl rfl ?_
    refine SeqK.q (q_nilH rfl rfl) rfl rfl rfl ?_
    refine SeqK.q (q_fieldH _ rfl Fx.fl82_0 rfl rfl) rfl rfl rfl ?_
    refine SeqK.r (g_load (r := .a _) rfl Fx.ty80 rfl (by (repeat rw [upd_ne _ _ (by first | assumption | exact Ne.symm (by assumption))]); first | assumption | exact upd_same _ _ _) rfl rfl rfl rfl) rfl ?_
    refine SeqK.q (q_mvC rfl rfl) rfl rfl rfl ?_
    refine SeqK.r (g_lookup (r := .c (.a _)) (.str Fx.un9) rfl Fx.un80 Fx.ze83 rfl (by (repeat rw [upd_ne _ _ (by first | assumption | exact Ne.symm (by assumption))]); first | assumption | exact upd_same _ _ _) rfl rfl ((G.get a).trans (by rw [hg])) rfl rfl rfl) rfl ?_
    refine SeqK.q (q_mvC rfl rfl) rfl rfl rfl ?_
    refine SeqK.r (g_lookup (r := .c (.a _)) (.str Fx.un9) rfl Fx.un83 Fx.ze4 rfl (by (repeat rw [upd_ne _ _ (by first | assumption | exact Ne.symm (by assumption))]); first | assumption | exact upd_same _ _ _) rfl rfl ((hget b).trans (if_neg hm)) rfl rfl rfl) rfl ?_
    refine SeqK.nil ?_
    refine AW.condF rfl ?_
    refine AW.skip ?_
    refine AW.seq ?_
    refine AW.seq ?_
    refine AW.reg ?_
    refine SeqK.q (q_mvC rfl rfl) rfl rfl rfl ?_
    refine SeqK.q (q_nilH rfl rfl) rfl rfl rfl ?_
    refine SeqK.q (q_fieldH _ rfl Fx.fl82_0 rfl rfl) rfl rfl rfl ?_
    refine SeqK.r (g_load (r := .a _) rfl Fx.ty80 rfl (by (repeat rw [upd_ne _ _ (by first | assumption | exact Ne.symm (by assumption))]); first | assumption | exact upd_same _ _ _) rfl rfl rfl rfl) rfl ?_
    refine SeqK.q (q_mvC rfl rfl) rfl rfl rfl ?_
    refine SeqK.r (g_lookup (r := .c (.a _)) (.str Fx.un9) rfl Fx.un80 Fx.ze83 rfl (by (repeat rw [upd_ne _ _ (by first | assumption | exact Ne.symm (by assumption))]); first | assumption | exact upd_same _ _ _) rfl rfl ((G.get a).trans (by rw [hg])) rfl rfl rfl) rfl ?_
    refine SeqK.q (q_eqlN rfl rfl rfl Fx.nk83) rfl rfl rfl ?_
    refine SeqK.nil ?_
    refine AW.condF rfl ?_
    refine AW.skip ?_
    refine AW.seq ?_
    refine AW.reg ?_
    refine SeqK.q (q_mvC rfl rfl) rfl rfl rfl ?_
    refine SeqK.q (q_nilH rfl rfl) rfl rfl rfl ?_
    refine SeqK.q (q_fieldH _ rfl Fx.fl82_0 rfl rfl) rfl rfl rfl ?_
    refine SeqK.r (g_load (r := .a _) rfl Fx.ty80 rfl (by (repeat rw [upd_ne _ _ (by first | assumption | exact Ne.symm (by assumption))]); first | assumption | exact upd_same _ _ _) rfl rfl rfl rfl) rfl ?_
    refine SeqK.q (q_mvC rfl rfl) rfl rfl rfl ?_
    refine SeqK.r (g_lookup (r := .c (.a _)) (.str Fx.un9) rfl Fx.un80 Fx.ze83 rfl (by (repeat rw [upd_ne _ _ (by first | assumption | exact Ne.symm (by assumption))]); first | assumption | exact upd_same _ _ _) rfl rfl ((G.get a).trans (by rw [hg])) rfl rfl rfl) rfl ?_
    refine SeqK.q (q_mvC rfl rfl) rfl rfl rfl ?_
    refine SeqK.r (g_mapUpdate (.str Fx.un9) rfl rfl Fx.un83 rfl (by (repeat rw [upd_ne _ _ (by first | assumption | exact Ne.symm (by assumption))]); first | assumption | exact upd_same _ _ _) rfl rfl rfl) rfl ?_
    refine SeqK.nil ?_
    refine AW.seq ?_
    refine AW.reg ?_
    refine SeqK.q (q_asC rfl rfl) rfl rfl rfl ?_
    refine SeqK.nil ?_
    refine AW.ret ?_
    exact fin_x (x := .c _) (_) (.tmp rfl .nil) rfl (fun _ _ h => h) (⟨by simp [hasE, hm], _, _, _, _, G.add1 a b ki hg es3 c3 h3 hm⟩)
  ·
    obtain ⟨es3, c3, h3, ok3, hget⟩ := G.inn a ki hg
    refine AW.reg ?_
    refine SeqK.q (q_mvC rfl rfl) rfl rfl rfl ?_
    refine SeqK.q (q_nilH rfl rfl) rfl rfl rfl ?_
    refine SeqK.q (q_fieldH _ rfl Fx.fl82_0 rfl rfl) rfl rfl rfl ?_
    refine SeqK.r (g_load (r := .a _) rfl Fx.ty80 rfl (by (repeat rw [upd_ne _ _ (by first | assumption | exact Ne.symm (by assumption))]); first | assumption | exact upd_same _ _ _) rfl rfl rfl rfl) rfl ?_
    refine SeqK.q (q_mvC rfl rfl) rfl rfl rfl ?_
    refine SeqK.r (g_lookup (r := .c (.a _)) (.str Fx.un9) rfl Fx.un80 Fx.ze83 rfl (by (repeat rw [upd_ne _ _ (by first | assumption | exact Ne.symm (by assumption))]); first | assumption | exact upd_same _ _ _) rfl rfl ((G.get a).trans (by rw [hg])) rfl rfl rfl) rfl ?_
    refine SeqK.q (q_mvC rfl rfl) rfl rfl rfl ?_
    refine SeqK.r (g_lookup (r := .c (.a _)) (.str Fx.un9) rfl Fx.un83 Fx.ze4 rfl (by (repeat rw [upd_ne _ _ (by first | assumption | exact Ne.symm (by assumption))]); first | assumption | exact upd_same _ _ _) rfl rfl ((hget b).trans (if_pos hm)) rfl rfl rfl) rfl ?_
    refine SeqK.nil ?_
    refine AW.condT rfl ?_
    refine AW.seq ?_
    refine AW.reg ?_
    refine SeqK.q (q_asC rfl rfl) rfl rfl rfl ?_
    refine SeqK.nil ?_
    refine AW.ret ?_
    exact fin_x (x := .c _) (H) (.tmp rfl .nil) rfl (fun _ _ h => h) (⟨by simp [hasE, hm], km, es, ck, g, by rw [show addE L a b = L from if_pos hm]; exact G⟩)

end Go.Proofs.Ytikcmjamioopbaa.W
namespace Go.Proofs.Ytikcmjamioopbaa.W
open Go.RowKit E M
set_option linter.unusedVariables false
set_option linter.unusedSimpArgs false
set_option linter.unusedSectionVars false
def rm1 {α : Type} [DecidableEq α] (L : List (α × α)) (a b : α) : List (α × α) := L.filter fun e => !decide (e = (a, b))
theorem mem_rm1 {α : Type} [DecidableEq α] {L : List (α × α)} {a b : α} {e : α × α} : e ∈ rm1 L a b ↔ e ∈ L ∧ e ≠ (a, b) := by simp [rm1]
section
variable {α : Type} [DecidableEq α] {nd : Nd α} {H : Heap} {k km : Nat} {es : List ME} {ck : Nat} {g : α → Option Nat} {L : List (α × α)}
theorem GrAt.rmA (h : GrAt nd H k km es ck g L) (a n : α) (ki : Nat) (hg : g a = some ki) (es3 : List ME) (c3 : Nat) (h3 : H ki = some (.map nd.kk es3 c3)) (ok3 : MOk nd.kk es3 c3) (hget : ∀ b, mget (nd.nv b) es3 = if (a, b) ∈ L then some yes else none) (hl : (mdel (nd.nv n) es3).length ≠ 0) :
    GrAt nd (upd H ki (some (.map nd.kk (mdel (nd.nv n) es3) c3))) k km es ck g (rm1 L a n) := by
  obtain ⟨n1, n2⟩ := h.gne a ki hg
  have old : ∀ (o : Option AO) j, j ≠ ki → upd H ki o j = H j := fun o j h1 => by rw [upd_ne _ _ h1]
  have hget' : ∀ b, mget (nd.nv b) (mdel (nd.nv n) es3) = if (a, b) ∈ rm1 L a n then some yes else none := fun b => by
    rw [mget_mdel ok3 (nd.kok b) (nd.kok n), nd.keq, hget]
    by_cases e : b = n <;> simp [e, mem_rm1]
  refine ⟨by rw [old _ k n2.symm]; exact h.box, by rw [old _ km n1.symm]; exact h.map, h.ok, h.get, h.gne, h.ginj, fun a' kj hk => ?_, fun a' ha b' hb => h.no a' ha b' (mem_rm1.1 hb).1, fun a' kj hk => ?_⟩
  · obtain ⟨es4, c4, h4, h5, h6⟩ := h.inn a' kj hk
    by_cases e : kj = ki
    · subst e
      have := h.ginj _ _ _ hk hg
      subst this
      exact ⟨_, _, upd_same _ _ _, ok3.del, hget'⟩
    · refine ⟨es4, c4, by rw [old _ kj e]; exact h4, h5, fun b' => ?_⟩
      have hne : a' ≠ a := fun e1 => by subst e1; rw [hk] at hg; injection hg with hg; exact e hg
      rw [h6]; simp [mem_rm1, hne]
  · by_cases e : a' = a
    · subst e
      cases hmd : mdel (nd.nv n) es3 with
      | nil => rw [hmd] at hl; exact absurd rfl hl
      | cons m r =>
        have hm : m ∈ mdel (nd.nv n) es3 := by rw [hmd]; simp
        obtain ⟨b, hb⟩ := nd.sur m.k (ok3.del.key m hm)
        have := mget_mem ok3.del hm
        rw [hb, hget'] at this
        split at this
        · exact ⟨b, by assumption⟩
        · cases this
    · obtain ⟨b, hb⟩ := h.ne a' kj hk
      exact ⟨b, mem_rm1.2 ⟨hb, fun e1 => e (by injection e1)⟩⟩
theorem GrAt.rmB (h : GrAt nd H k km es ck g L) (a n : α) (ki : Nat) (hg : g a = some ki) (es3 : List ME) (c3 : Nat) (h3 : H ki = some (.map nd.kk es3 c3)) (ok3 : MOk nd.kk es3 c3) (hget : ∀ b, mget (nd.nv b) es3 = if (a, b) ∈ L then some yes else none) (hl : (mdel (nd.nv n) es3).length = 0) :
    GrAt nd (upd (upd H ki (some (.map nd.kk (mdel (nd.nv n) es3) c3))) km (some (.map nd.kk (mdel (nd.nv a) es) ck))) k km (mdel (nd.nv a) es) ck (fun x => if x = a then none else g x) (rm1 L a n) := by
  obtain ⟨n1, n2⟩ := h.gne a ki hg
  have old : ∀ (o p : Option AO) j, j ≠ ki → j ≠ km → upd (upd H ki o) km p j = H j := fun o p j h1 h2 => by rw [upd_ne _ _ h2, upd_ne _ _ h1]
  have hnone : ∀ b, (a, b) ∉ rm1 L a n := fun b hb => by
    have hd : mdel (nd.nv n) es3 = [] := List.eq_nil_of_length_eq_zero hl
    obtain ⟨h1, h2⟩ := mem_rm1.1 hb
    have h4 := mget_mdel ok3 (nd.kok b) (nd.kok n)
    rw [hd, nd.keq, hget, if_pos h1] at h4
    by_cases e : b = n
    · exact h2 (by rw [e])
    · simp [e] at h4; cases h4
  refine ⟨by rw [old _ _ k n2.symm h.kne]; exact h.box, upd_same _ _ _, h.ok.del, fun x => ?_, fun x kj hk => ?_, fun x x' kj h1 h2 => ?_, fun x kj hk => ?_, fun x hx b hb => ?_, fun x kj hk => ?_⟩
  · rw [mget_mdel h.ok (nd.kok x) (nd.kok a), nd.keq]
    by_cases e : x = a <;> simp [e, h.get]
  · by_cases e : x = a
    · simp [e] at hk
    · simp [e] at hk; exact h.gne x kj hk
  · by_cases e : x = a
    · simp [e] at h1
    · by_cases e' : x' = a
      · simp [e'] at h2
      · simp [e] at h1; simp [e'] at h2; exact h.ginj x x' kj h1 h2
  · by_cases e : x = a
    · simp [e] at hk
    · simp [e] at hk
      obtain ⟨es4, c4, h4, h5, h6⟩ := h.inn x kj hk
      have hne : kj ≠ ki := fun e1 => by subst e1; exact e (h.ginj _ _ _ hk hg)
      refine ⟨es4, c4, by rw [old _ _ kj hne (h.gne x kj hk).1]; exact h4, h5, fun b => ?_⟩
      rw [h6]; simp [mem_rm1, e]
  · by_cases e : x = a
    · subst e; exact hnone b hb
    · simp [e] at hx; exact h.no x hx b (mem_rm1.1 hb).1
  · by_cases e : x = a
    · simp [e] at hk
    · simp [e] at hk
      obtain ⟨b, hb⟩ := h.ne x kj hk
      exact ⟨b, mem_rm1.2 ⟨hb, fun e1 => e (by injection e1)⟩⟩
/-- under way: some edges to n are gone, none that stays -/
structure Rm (L : List (α × α)) (n : α) (Lx : List (α × α)) : Prop where
  sub : ∀ e ∈ Lx, e ∈ L ∧ e.1 ≠ n
  keep : ∀ e ∈ L, e.1 ≠ n → e.2 ≠ n → e ∈ Lx
theorem Rm.step {n a : α} {Lx : List (α × α)} (h : Rm L n Lx) : Rm L n (rm1 Lx a n) :=
  ⟨fun e he => h.sub e (mem_rm1.1 he).1, fun e h1 h2 h3 => mem_rm1.2 ⟨h.keep e h1 h2 h3, fun e1 => h3 (by rw [e1])⟩⟩
theorem same_born {kk : KK} {ck : Nat} (ok : MOk kk es ck) {m m' : ME} (h : m ∈ es) (h' : m' ∈ es) (e : m.b = m'.b) : m = m' := by
  obtain ⟨i, hi⟩ := List.getElem?_of_mem h
  obtain ⟨j, hj⟩ := List.getElem?_of_mem h'
  have hil := (List.getElem?_eq_some_iff.1 hi).1
  have hjl := (List.getElem?_eq_some_iff.1 hj).1
  have h1 := List.pairwise_iff_getElem.1 ok.inj
  rcases Nat.lt_trichotomy i j with h2 | h2 | h2
  · refine absurd ?_ (h1 i j (by simpa using hil) (by simpa using hjl) h2)
    simp only [List.getElem_map]; rw [(List.getElem?_eq_some_iff.1 hi).2, (List.getElem?_eq_some_iff.1 hj).2]; exact e
  · subst h2; rw [hi] at hj; injection hj
  · refine absurd ?_ (h1 j i (by simpa using hjl) (by simpa using hil) h2)
    simp only [List.getElem_map]; rw [(List.getElem?_eq_some_iff.1 hi).2, (List.getElem?_eq_some_iff.1 hj).2]; exact e.symm
theorem cnt_less {es es' : List ME} {seen : List Nat} {m : ME} (hs : es'.Sublist es) (hm : m ∈ es) (hn : m.b ∉ seen) : (es'.filter fun x => !(seen ++ [m.b]).contains x.b).length < (es.filter fun x => !seen.contains x.b).length := by
  refine Nat.lt_of_le_of_lt (hs.filter _).length_le ((filter_len_lt (p := fun x : ME => !(seen ++ [m.b]).contains x.b) (q := fun x : ME => !seen.contains x.b) (fun x hx => ?_) es).2 ⟨m, hm, by simpa using hn, by simp⟩)
  simp at hx ⊢; exact hx.1
end

set_option maxRecDepth 20000 in
theorem removeI (H : Heap) (k : Nat) (L : GE) (n : Int) (G : Gr ndI H k L) : E.Spec Try.prog 25 [.a (.bp k 0), iC n] H fun x H' => x = .tup [] ∧ Gr ndI H' k (rmE L n) := by
  obtain ⟨km, es, ck, g, G⟩ := G
  have hbox := G.box
  have hmap := G.map
  have hkm := G.kne
  refine Spec.enter Try.func25 rfl ?_
  refine AW.wk (Wk.keep 31 [(0, .c (.a (.bp k 0))), (1, .c (iC n))] [] (H) rfl ⟨rfl, rfl, trivial⟩ trivial (fun _ _ h => h) rfl) ?_
  refine AW.seq ?_
  refine AW.reg ?_
  refine SeqK.q (q_mvC rfl rfl) rfl rfl rfl ?_
  refine SeqK.q (q_nilH rfl rfl) rfl rfl rfl ?_
  refine SeqK.q (q_fieldH _ rfl Fx.fl74_0 rfl rfl) rfl rfl rfl ?_
  refine SeqK.r (g_load (r := .a _) rfl Fx.ty72 rfl (by (repeat rw [upd_ne _ _ (by first | assumption | exact Ne.symm (by assumption))]); first | assumption | exact upd_same _ _ _) rfl rfl rfl rfl) rfl ?_
  refine SeqK.q (q_mvC rfl rfl) rfl rfl rfl ?_
  refine SeqK.r (g_delete (.int Fx.un3) rfl rfl Fx.un72 rfl (by (repeat rw [upd_ne _ _ (by first | assumption | exact Ne.symm (by assumption))]); first | assumption | exact upd_same _ _ _) rfl rfl) rfl ?_
  refine SeqK.nil ?_
  refine AW.seq ?_
  replace G := G.leave n
  refine AW.reg ?_
  refine SeqK.q (q_mvC rfl rfl) rfl rfl rfl ?_
  refine SeqK.q (q_nilH rfl rfl) rfl rfl rfl ?_
  refine SeqK.q (q_fieldH _ rfl Fx.fl74_0 rfl rfl) rfl rfl rfl ?_
  refine SeqK.r (g_load (r := .a _) rfl Fx.ty72 rfl (by (repeat rw [upd_ne _ _ (by first | assumption | exact Ne.symm (by assumption))]); first | assumption | exact upd_same _ _ _) rfl rfl rfl rfl) rfl ?_
  refine SeqK.r (b_range rfl rfl Fx.un72 rfl (by (repeat rw [upd_ne _ _ (by first | assumption | exact Ne.symm (by assumption))]); first | assumption | exact upd_same _ _ _) rfl rfl) rfl ?_
  refine SeqK.nil ?_
  refine AW.block ?_
  refine AW.loop (fun (c : Nat) s => ∃ (Hx : Heap) (es9 : List ME) (g9 : Int → Option Nat) (Lx : GE) (seen : List Nat), (GrAt ndI Hx k km es9 ck g9 Lx ∧ Rm L n Lx ∧ (∀ m ∈ es9, m.b ∈ seen → ∀ a, m.k = ndI.nv a → (a, n) ∉ Lx) ∧ c = (es9.filter fun m => !seen.contains m.b).length) ∧ s = ⟨31, sp [(0, .c (.a (.bp k 0))), (1, .c (iC n)), (15, .lp 15 0)], lv [(15, .iter km ck seen ck)], Hx⟩) (fun c => c) _ ⟨_, Wk.keep 31 [(0, .c (.a (.bp k 0))), (1, .c (iC n)), (15, .lp 15 0)] [(15, .iter km ck ([]) ck)] ((_)) rfl ⟨rfl, rfl, rfl, trivial⟩ ⟨rfl, trivial⟩ (fun _ _ h => h) rfl, _, _, _, _, [], ⟨G, ⟨fun e he => ⟨(mem_lvE.1 he).1, (mem_lvE.1 he).2⟩, fun e h1 h2 _ => mem_lvE.2 ⟨h1, h2⟩⟩, fun _ _ h => (by simp at h), rfl⟩, rfl⟩ (fun c s hs => ?_)
  obtain ⟨Hx, es9, g9, Lx, seen, ⟨G, hR, hS, hc⟩, rfl⟩ := hs
  have hbox := G.box
  have hmap := G.map
  refine AW.seq ?_
  refine AW.reg ?_
  refine SeqK.next rfl rfl rfl rfl rfl rfl (by (repeat rw [upd_ne _ _ (by first | assumption | exact Ne.symm (by assumption))]); first | assumption | exact upd_same _ _ _) (fun m hm => G.ok.born m hm) (Nat.le_refl _) (fun hd16 => ?_) (fun m16 hm16 hn16 => ?_)
  ·
    refine SeqK.q (q_extract _ rfl rfl rfl) rfl rfl rfl ?_
    refine SeqK.nil ?_
    refine AW.seq ?_
    refine AW.condF rfl ?_
    refine AW.exit ?_
    refine eth_e ?_
    refine eth_e ?_
    refine exit_here ?_
    exact fin_xN (x := .tup []) (_) .nil rfl (fun _ _ h => h) (⟨rfl, km, es9, ck, g9, G.same fun e => by
      rw [mem_rmE]
      constructor
      · rintro ⟨h1, h2, h3⟩; exact hR.keep e h1 h2 h3
      · intro h
        refine ⟨(hR.sub e h).1, (hR.sub e h).2, fun h4 => ?_⟩
        obtain ⟨a, b⟩ := e
        have h4 : b = n := h4
        rw [h4] at h
        obtain ⟨m, h5, h6⟩ := (G.outer a).2 ⟨_, h⟩
        exact hS m h5 (hd16 m h5) a h6 h⟩)
  ·
    obtain ⟨mk, mx, mb⟩ := m16
    obtain ⟨a9, rfl⟩ := ndI.sur mk (G.ok.key _ hm16)
    obtain ⟨ki, hg, rfl⟩ : ∃ ki, g9 a9 = some ki ∧ mx = .a (.mp ki) := by
      have h9 := mget_mem G.ok hm16
      rw [G.get] at h9
      cases h8 : g9 a9 with
      | none => rw [h8] at h9; cases h9
      | some ki => rw [h8] at h9; injection h9 with h9; exact ⟨ki, rfl, h9.symm⟩
    obtain ⟨es3, c3, h3, ok3, hget⟩ := G.inn a9 ki hg
    obtain ⟨n31, n32⟩ := G.gne a9 ki hg
    refine SeqK.q (q_extract _ rfl rfl rfl) rfl rfl rfl ?_
    refine SeqK.nil ?_
    refine AW.seq ?_
    refine AW.condT rfl ?_
    refine AW.skip ?_
    refine AW.block ?_
    refine AW.seq ?_
    refine AW.reg ?_
    refine SeqK.r (b_entry rfl rfl rfl (by (repeat rw [upd_ne _ _ (by first | assumption | exact Ne.symm (by assumption))]); first | assumption | exact upd_same _ _ _) (by assumption) rfl rfl) rfl ?_
    refine SeqK.q (q_extract _ rfl rfl rfl) rfl rfl rfl ?_
    refine SeqK.q (q_extract _ rfl rfl rfl) rfl rfl rfl ?_
    refine SeqK.q (q_asC rfl rfl) rfl rfl rfl ?_
    refine SeqK.q (q_asC rfl rfl) rfl rfl rfl ?_
    refine SeqK.nil ?_
    refine AW.seq ?_
    refine AW.reg ?_
    refine SeqK.q (q_mvC rfl rfl) rfl rfl rfl ?_
    refine SeqK.q (q_mvC rfl rfl) rfl rfl rfl ?_
    refine SeqK.r (g_delete (.int Fx.un3) rfl rfl Fx.un48 rfl (by (repeat rw [upd_ne _ _ (by first | assumption | exact Ne.symm (by assumption))]); first | assumption | exact upd_same _ _ _) rfl rfl) rfl ?_
    refine SeqK.nil ?_
    refine AW.seq ?_
    refine AW.reg ?_
    refine SeqK.q (q_mvC rfl rfl) rfl rfl rfl ?_
    refine SeqK.r (g_lenM rfl Fx.un48 rfl (by (repeat rw [upd_ne _ _ (by first | assumption | exact Ne.symm (by assumption))]); first | assumption | exact upd_same _ _ _) rfl rfl) rfl ?_
    refine SeqK.q (q_eql rfl rfl rfl) rfl rfl rfl ?_
    refine SeqK.nil ?_
    refine AW.condD rfl (fun h25 => ?_) (fun h25 => ?_)
    ·
      refine AW.reg ?_
      refine SeqK.q (q_mvC rfl rfl) rfl rfl rfl ?_
      refine SeqK.q (q_nilH rfl rfl) rfl rfl rfl ?_
      refine SeqK.q (q_fieldH _ rfl Fx.fl74_0 rfl rfl) rfl rfl rfl ?_
      refine SeqK.r (g_load (r := .a _) rfl Fx.ty72 rfl (by (repeat rw [upd_ne _ _ (by first | assumption | exact Ne.symm (by assumption))]); first | assumption | exact upd_same _ _ _) rfl rfl rfl rfl) rfl ?_
      refine SeqK.q (q_mvC rfl rfl) rfl rfl rfl ?_
      refine SeqK.r (g_delete (.int Fx.un3) rfl rfl Fx.un72 rfl (by (repeat rw [upd_ne _ _ (by first | assumption | exact Ne.symm (by assumption))]); first | assumption | exact upd_same _ _ _) rfl rfl) rfl ?_
      refine SeqK.nil ?_
      exact ⟨(((mdel (ndI.nv a9) es9).filter fun x => !(seen ++ [mb]).contains x.b).length), _, Wk.keep 31 [(0, .c (.a (.bp k 0))), (1, .c (iC n)), (15, .lp 15 0)] [(15, .iter km ck ((seen ++ [mb])) ck)] ((_)) rfl ⟨rfl, rfl, rfl, trivial⟩ ⟨rfl, trivial⟩ (fun _ _ h => h) rfl, by rw [hc]; exact cnt_less (m := ⟨_, _, mb⟩) mdel_sub hm16 hn16, _, _, _, _, (seen ++ [mb]), ⟨G.rmB a9 n ki hg es3 c3 h3 ok3 hget (by simp at h25; first | exact congrArg List.length h25 | exact fun h => h25 (List.eq_nil_of_length_eq_zero h)), hR.step, fun m hm hb a ha hin => by
        obtain ⟨h7, h8⟩ := mem_rm1.1 hin
        have hm9 : m ∈ es9 := mdel_sub.mem hm
        rcases List.mem_append.1 hb with hb | hb
        · exact hS m hm9 hb a ha h7
        · have h9 : m.b = mb := by simpa using hb
          have h10 := same_born G.ok hm9 hm16 h9
          subst h10
          exact h8 (by rw [ndI.inj ha]), rfl⟩, rfl⟩
    ·
      refine AW.skip ?_
      exact ⟨((es9.filter fun x => !(seen ++ [mb]).contains x.b).length), _, Wk.keep 31 [(0, .c (.a (.bp k 0))), (1, .c (iC n)), (15, .lp 15 0)] [(15, .iter km ck ((seen ++ [mb])) ck)] ((_)) rfl ⟨rfl, rfl, rfl, trivial⟩ ⟨rfl, trivial⟩ (fun _ _ h => h) rfl, by rw [hc]; exact cnt_less (m := ⟨_, _, mb⟩) (List.Sublist.refl _) hm16 hn16, _, _, _, _, (seen ++ [mb]), ⟨G.rmA a9 n ki hg es3 c3 h3 ok3 hget (by simp at h25; first | exact congrArg List.length h25 | exact fun h => h25 (List.eq_nil_of_length_eq_zero h)), hR.step, fun m hm hb a ha hin => by
        obtain ⟨h7, h8⟩ := mem_rm1.1 hin
        have hm9 : m ∈ es9 := hm
        rcases List.mem_append.1 hb with hb | hb
        · exact hS m hm9 hb a ha h7
        · have h9 : m.b = mb := by simpa using hb
          have h10 := same_born G.ok hm9 hm16 h9
          subst h10
          exact h8 (by rw [ndI.inj ha]), rfl⟩, rfl⟩

end Go.Proofs.Ytikcmjamioopbaa.W
namespace Go.Proofs.Ytikcmjamioopbaa.W
open Go.RowKit E M
set_option linter.unusedVariables false
set_option linter.unusedSimpArgs false
set_option linter.unusedSectionVars false
section
variable {α : Type} [DecidableEq α]
/-- a list of a map's keys -/
def KeysX (nd : Nd α) (es : List ME) (xs : List α) : Prop := xs.Nodup ∧ ∀ x, x ∈ xs ↔ ∃ m ∈ es, m.k = nd.nv x
theorem ext_nodup : ∀ (ks pre : List α), pre.Nodup → ∃ xs, pre <+: xs ∧ xs.Nodup ∧ ∀ x, x ∈ xs ↔ x ∈ pre ∨ x ∈ ks
  | [], pre, h => ⟨pre, List.prefix_rfl, h, fun x => by simp⟩
  | k :: ks, pre, h => by
    by_cases hk : k ∈ pre
    · obtain ⟨xs, h1, h2, h3⟩ := ext_nodup ks pre h
      refine ⟨xs, h1, h2, fun x => ?_⟩
      rw [h3]
      constructor
      · rintro (h | h)
        · exact .inl h
        · exact .inr (List.mem_cons_of_mem _ h)
      · rintro (h | h)
        · exact .inl h
        · rcases List.mem_cons.1 h with rfl | h
          · exact .inl hk
          · exact .inr h
    · obtain ⟨xs, h1, h2, h3⟩ := ext_nodup ks (pre ++ [k]) (by
        rw [List.nodup_append]; exact ⟨h, by simp, fun a ha b hb e => by simp at hb; subst hb; subst e; exact hk ha⟩)
      refine ⟨xs, (List.prefix_append _ _).trans h1, h2, fun x => ?_⟩
      rw [h3]; simp [or_assoc]
theorem keys_list (nd : Nd α) : ∀ es : List ME, (∀ m ∈ es, E.kok nd.kk m.k = true) → ∃ ks : List α, ∀ x, x ∈ ks ↔ ∃ m ∈ es, m.k = nd.nv x
  | [], _ => ⟨[], fun x => by simp⟩
  | m :: es, h => by
    obtain ⟨ks, hk⟩ := keys_list nd es fun m hm => h m (List.mem_cons_of_mem _ hm)
    obtain ⟨a, ha⟩ := nd.sur m.k (h m (by simp))
    refine ⟨a :: ks, fun x => ?_⟩
    rw [List.mem_cons, hk]
    constructor
    · rintro (rfl | ⟨m', h1, h2⟩)
      · exact ⟨m, by simp, ha⟩
      · exact ⟨m', List.mem_cons_of_mem _ h1, h2⟩
    · rintro ⟨m', h1, h2⟩
      rcases List.mem_cons.1 h1 with rfl | h1
      · exact .inl (nd.inj (h2.symm.trans ha))
      · exact .inr ⟨m', h1, h2⟩
theorem keysX_ext {nd : Nd α} {es : List ME} (h : ∀ m ∈ es, E.kok nd.kk m.k = true) {pre : List α} (hp : pre.Nodup) (hm : ∀ x ∈ pre, ∃ m ∈ es, m.k = nd.nv x) : ∃ xs, KeysX nd es xs ∧ pre <+: xs := by
  obtain ⟨ks, hk⟩ := keys_list nd es h
  obtain ⟨xs, h1, h2, h3⟩ := ext_nodup ks pre hp
  refine ⟨xs, ⟨h2, fun x => ?_⟩, h1⟩
  rw [h3, hk]
  exact ⟨fun h => h.elim (hm x) id, .inr⟩
theorem same_key {es : List ME} {kk : KK} {ck : Nat} (ok : MOk kk es ck) {m m' : ME} (h : m ∈ es) (h' : m' ∈ es) (e : m.k = m'.k) : m = m' := by
  obtain ⟨i, hi⟩ := List.getElem?_of_mem h
  obtain ⟨j, hj⟩ := List.getElem?_of_mem h'
  have hil := (List.getElem?_eq_some_iff.1 hi).1
  have hjl := (List.getElem?_eq_some_iff.1 hj).1
  have h1 := List.pairwise_iff_getElem.1 ok.nodup
  rcases Nat.lt_trichotomy i j with h2 | h2 | h2
  · refine absurd ?_ (h1 i j (by simpa using hil) (by simpa using hjl) h2)
    simp only [List.getElem_map]; rw [(List.getElem?_eq_some_iff.1 hi).2, (List.getElem?_eq_some_iff.1 hj).2]; exact e
  · subst h2; rw [hi] at hj; injection hj
  · refine absurd ?_ (h1 j i (by simpa using hjl) (by simpa using hil) h2)
    simp only [List.getElem_map]; rw [(List.getElem?_eq_some_iff.1 hi).2, (List.getElem?_eq_some_iff.1 hj).2]; exact e.symm
/-- what a walk over a map has yielded -/
structure KSeen (nd : Nd α) (es : List ME) (seen : List Nat) (pre : List α) : Prop where
  nodup : pre.Nodup
  mem : ∀ x, x ∈ pre ↔ ∃ m ∈ es, m.b ∈ seen ∧ m.k = nd.nv x
theorem KSeen.step {nd : Nd α} {es : List ME} {ck : Nat} (ok : MOk nd.kk es ck) {seen : List Nat} {pre : List α} (h : KSeen nd es seen pre) {x : α} {mx : C} {mb : Nat} (hm : (⟨nd.nv x, mx, mb⟩ : ME) ∈ es) (hn : mb ∉ seen) :
    KSeen nd es (seen ++ [mb]) (pre ++ [x]) ∧ ∃ xs, KeysX nd es xs ∧ (pre ++ [x]) <+: xs := by
  have key : KSeen nd es (seen ++ [mb]) (pre ++ [x]) := by
    refine ⟨?_, fun y => ?_⟩
    · rw [List.nodup_append]
      refine ⟨h.nodup, by simp, fun a ha b hb e => ?_⟩
      simp at hb; subst hb; subst e
      obtain ⟨m, h1, h2, h3⟩ := (h.mem _).1 ha
      have := same_key ok h1 hm h3
      subst this; exact hn h2
    · rw [List.mem_append, h.mem]
      constructor
      · rintro (⟨m, h1, h2, h3⟩ | hy)
        · exact ⟨m, h1, by simp [h2], h3⟩
        · simp at hy; subst hy; exact ⟨_, hm, by simp, rfl⟩
      · rintro ⟨m, h1, h2, h3⟩
        rcases List.mem_append.1 h2 with h2 | h2
        · exact .inl ⟨m, h1, h2, h3⟩
        · have h2 : m.b = mb := by simpa using h2
          have := same_born ok h1 hm h2
          subst this
          exact .inr (by simp [nd.inj h3])
  exact ⟨key, keysX_ext ok.key key.nodup fun y hy => by obtain ⟨m, h1, _, h3⟩ := (key.mem y).1 hy; exact ⟨m, h1, h3⟩⟩
end

set_option maxRecDepth 20000 in
theorem keys1I (kb km : Nat) (es : List ME) (ck : Nat) (ok : MOk ndI.kk es ck) : IterS Try.prog 49 [.bp kb 0] (fun n : Int => [iC n]) (KeysX ndI es) (fun H => H kb = some (.box [.mp km]) ∧ H km = some (.map ndI.kk es ck)) := by
  intro kl J Jx H hJ0 hJI hst
  obtain ⟨hbox, hmap⟩ := hJI _ _ hJ0
  refine Spec.enter Try.func49 rfl ?_
  refine AW.wk (Wk.keep 14 [(0, .c (.a (.yl kl))), (1, .c (.a (.bp kb 0)))] [] (H) rfl ⟨rfl, rfl, trivial⟩ trivial (fun _ _ h => h) rfl) ?_
  refine AW.seq ?_
  refine AW.reg ?_
  refine SeqK.r (g_load (r := .a _) rfl Fx.ty48 rfl (by (repeat rw [upd_ne _ _ (by first | assumption | exact Ne.symm (by assumption))]); first | assumption | exact upd_same _ _ _) rfl rfl rfl rfl) rfl ?_
  refine SeqK.r (b_range rfl rfl Fx.un48 rfl (by (repeat rw [upd_ne _ _ (by first | assumption | exact Ne.symm (by assumption))]); first | assumption | exact upd_same _ _ _) rfl rfl) rfl ?_
  refine SeqK.nil ?_
  refine AW.block ?_
  refine AW.loop (fun (c : Nat) s => ∃ (Hx : Heap) (pre : List Int) (seen : List Nat), (J pre Hx ∧ KSeen ndI es seen pre ∧ c = (es.filter fun m => !seen.contains m.b).length) ∧ s = ⟨14, sp [(0, .c (.a (.yl kl))), (5, .lp 5 0)], lv [(5, .iter km ck seen ck)], Hx⟩) (fun c => c) _ ⟨_, Wk.keep 14 [(0, .c (.a (.yl kl))), (5, .lp 5 0)] [(5, .iter km ck ([]) ck)] ((H)) rfl ⟨rfl, rfl, trivial⟩ ⟨rfl, trivial⟩ (fun _ _ h => h) rfl, H, [], [], ⟨hJ0, ⟨by simp, fun x => by simp⟩, rfl⟩, rfl⟩ (fun c s hs => ?_)
  obtain ⟨Hx, pre, seen, ⟨hJ, hS, hc⟩, rfl⟩ := hs
  obtain ⟨hbox, hmap⟩ := hJI _ _ hJ
  refine AW.seq ?_
  refine AW.reg ?_
  refine SeqK.next rfl rfl rfl rfl rfl rfl (by (repeat rw [upd_ne _ _ (by first | assumption | exact Ne.symm (by assumption))]); first | assumption | exact upd_same _ _ _) (fun m hm => ok.born m hm) (Nat.le_refl _) (fun hd6 => ?_) (fun m6 hm6 hn6 => ?_)
  ·
    refine SeqK.q (q_extract _ rfl rfl rfl) rfl rfl rfl ?_
    refine SeqK.nil ?_
    refine AW.seq ?_
    refine AW.condF rfl ?_
    refine AW.exit ?_
    refine eth_e ?_
    refine eth_e ?_
    refine exit_here ?_
    exact fin_xN (x := .tup []) (Hx) .nil rfl (fun _ _ h => h) (.inl ⟨pre, ⟨hS.nodup, fun x => by
      rw [hS.mem]
      exact ⟨fun ⟨m, h1, _, h3⟩ => ⟨m, h1, h3⟩, fun ⟨m, h1, h3⟩ => ⟨m, h1, hd6 m h1, h3⟩⟩⟩, hJ⟩)
  ·
    obtain ⟨mk, mx, mb⟩ := m6
    obtain ⟨x9, rfl⟩ := ndI.sur mk (ok.key _ hm6)
    obtain ⟨hS9, zs, hz1, hz2⟩ := hS.step ok hm6 hn6
    refine SeqK.q (q_extract _ rfl rfl rfl) rfl rfl rfl ?_
    refine SeqK.nil ?_
    refine AW.seq ?_
    refine AW.condT rfl ?_
    refine AW.skip ?_
    refine AW.block ?_
    refine AW.seq ?_
    refine AW.reg ?_
    refine SeqK.r (b_entry rfl rfl rfl (by (repeat rw [upd_ne _ _ (by first | assumption | exact Ne.symm (by assumption))]); first | assumption | exact upd_same _ _ _) (by assumption) rfl rfl) rfl ?_
    refine SeqK.q (q_extract _ rfl rfl rfl) rfl rfl rfl ?_
    refine SeqK.q (q_asC rfl rfl) rfl rfl rfl ?_
    refine SeqK.nil ?_
    refine AW.seq ?_
    refine AW.reg ?_
    refine SeqK.q (q_mvC rfl rfl) rfl rfl rfl ?_
    refine SeqK.q (q_mvC rfl rfl) rfl rfl rfl ?_
    refine SeqK.callY rfl rfl rfl rfl rfl rfl (hst zs pre x9 Hx hz1 hz2 hJ) (fun r12 H12 q12 => ?_)
    refine SeqK.q (q_not rfl rfl) rfl rfl rfl ?_
    refine SeqK.nil ?_
    refine AW.cond _ rfl (fun h13 => ?_) (fun h13 => ?_)
    ·
      have hx : Jx H12 := by
        rcases q12 with ⟨h, _⟩ | ⟨_, h⟩
        · subst h; cases h13
        · exact h
      refine AW.ret ?_
      exact fin_x (x := .tup []) (H12) .nil rfl (fun _ _ h => h) (.inr hx)
    ·
      have hx : J (pre ++ [x9]) H12 := by
        rcases q12 with ⟨_, h⟩ | ⟨h, _⟩
        · exact h
        · subst h; cases h13
      refine AW.skip ?_
      exact ⟨((es.filter fun x => !(seen ++ [mb]).contains x.b).length), _, Wk.keep 14 [(0, .c (.a (.yl kl))), (5, .lp 5 0)] [(5, .iter km ck ((seen ++ [mb])) ck)] ((H12)) rfl ⟨rfl, rfl, trivial⟩ ⟨rfl, trivial⟩ (fun _ _ h => h) rfl, by rw [hc]; exact cnt_less (m := ⟨_, _, mb⟩) (List.Sublist.refl _) hm6 hn6, H12, (pre ++ [x9]), (seen ++ [mb]), ⟨hx, hS9, rfl⟩, rfl⟩

set_option maxRecDepth 20000 in
theorem keys1S (kb km : Nat) (es : List ME) (ck : Nat) (ok : MOk ndS.kk es ck) : IterS Try.prog 58 [.bp kb 0] (fun n : ByteArray => [sC n]) (KeysX ndS es) (fun H => H kb = some (.box [.mp km]) ∧ H km = some (.map ndS.kk es ck)) := by
  intro kl J Jx H hJ0 hJI hst
  obtain ⟨hbox, hmap⟩ := hJI _ _ hJ0
  refine Spec.enter Try.func58 rfl ?_
  refine AW.wk (Wk.keep 14 [(0, .c (.a (.yl kl))), (1, .c (.a (.bp kb 0)))] [] (H) rfl ⟨rfl, rfl, trivial⟩ trivial (fun _ _ h => h) rfl) ?_
  refine AW.seq ?_
  refine AW.reg ?_
  refine SeqK.r (g_load (r := .a _) rfl Fx.ty83 rfl (by (repeat rw [upd_ne _ _ (by first | assumption | exact Ne.symm (by assumption))]); first | assumption | exact upd_same _ _ _) rfl rfl rfl rfl) rfl ?_
  refine SeqK.r (b_range rfl rfl Fx.un83 rfl (by (repeat rw [upd_ne _ _ (by first | assumption | exact Ne.symm (by assumption))]); first | assumption | exact upd_same _ _ _) rfl rfl) rfl ?_
  refine SeqK.nil ?_
  refine AW.block ?_
  refine AW.loop (fun (c : Nat) s => ∃ (Hx : Heap) (pre : List ByteArray) (seen : List Nat), (J pre Hx ∧ KSeen ndS es seen pre ∧ c = (es.filter fun m => !seen.contains m.b).length) ∧ s = ⟨14, sp [(0, .c (.a (.yl kl))), (5, .lp 5 0)], lv [(5, .iter km ck seen ck)], Hx⟩) (fun c => c) _ ⟨_, Wk.keep 14 [(0, .c (.a (.yl kl))), (5, .lp 5 0)] [(5, .iter km ck ([]) ck)] ((H)) rfl ⟨rfl, rfl, trivial⟩ ⟨rfl, trivial⟩ (fun _ _ h => h) rfl, H, [], [], ⟨hJ0, ⟨by simp, fun x => by simp⟩, rfl⟩, rfl⟩ (fun c s hs => ?_)
  obtain ⟨Hx, pre, seen, ⟨hJ, hS, hc⟩, rfl⟩ := hs
  obtain ⟨hbox, hmap⟩ := hJI _ _ hJ
  refine AW.seq ?_
  refine AW.reg ?_
  refine SeqK.next rfl rfl rfl rfl rfl rfl (by (repeat rw [upd_ne _ _ (by first | assumption | exact Ne.symm (by assumption))]); first | assumption | exact upd_same _ _ _) (fun m hm => ok.born m hm) (Nat.le_refl _) (fun hd6 => ?_) (fun m6 hm6 hn6 => ?_)
  ·
    refine SeqK.q (q_extract _ rfl rfl rfl) rfl rfl rfl ?_
    refine SeqK.nil ?_
    refine AW.seq ?_
    refine AW.condF rfl ?_
    refine AW.exit ?_
    refine eth_e ?_
    refine eth_e ?_
    refine exit_here ?_
    exact fin_xN (x := .tup []) (Hx) .nil rfl (fun _ _ h => h) (.inl ⟨pre, ⟨hS.nodup, fun x => by
      rw [hS.mem]
      exact ⟨fun ⟨m, h1, _, h3⟩ => ⟨m, h1, h3⟩, fun ⟨m, h1, h3⟩ => ⟨m, h1, hd6 m h1, h3⟩⟩⟩, hJ⟩)
  ·
    obtain ⟨mk, mx, mb⟩ := m6
    obtain ⟨x9, rfl⟩ := ndS.sur mk (ok.key _ hm6)
    obtain ⟨hS9, zs, hz1, hz2⟩ := hS.step ok hm6 hn6
    refine SeqK.q (q_extract _ rfl rfl rfl) rfl rfl rfl ?_
    refine SeqK.nil ?_
    refine AW.seq ?_
    refine AW.condT rfl ?_
    refine AW.skip ?_
    refine AW.block ?_
    refine AW.seq ?_
    refine AW.reg ?_
    refine SeqK.r (b_entry rfl rfl rfl (by (repeat rw [upd_ne _ _ (by first | assumption | exact Ne.symm (by assumption))]); first | assumption | exact upd_same _ _ _) (by assumption) rfl rfl) rfl ?_
    refine SeqK.q (q_extract _ rfl rfl rfl) rfl rfl rfl ?_
    refine SeqK.q (q_asC rfl rfl) rfl rfl rfl ?_
    refine SeqK.nil ?_
    refine AW.seq ?_
    refine AW.reg ?_
    refine SeqK.q (q_mvC rfl rfl) rfl rfl rfl ?_
    refine SeqK.q (q_mvC rfl rfl) rfl rfl rfl ?_
    refine SeqK.callY rfl rfl rfl rfl rfl rfl (hst zs pre x9 Hx hz1 hz2 hJ) (fun r12 H12 q12 => ?_)
    refine SeqK.q (q_not rfl rfl) rfl rfl rfl ?_
    refine SeqK.nil ?_
    refine AW.cond _ rfl (fun h13 => ?_) (fun h13 => ?_)
    ·
      have hx : Jx H12 := by
        rcases q12 with ⟨h, _⟩ | ⟨_, h⟩
        · subst h; cases h13
        · exact h
      refine AW.ret ?_
      exact fin_x (x := .tup []) (H12) .nil rfl (fun _ _ h => h) (.inr hx)
    ·
      have hx : J (pre ++ [x9]) H12 := by
        rcases q12 with ⟨_, h⟩ | ⟨h, _⟩
        · exact h
        · subst h; cases h13
      refine AW.skip ?_
      exact ⟨((es.filter fun x => !(seen ++ [mb]).contains x.b).length), _, Wk.keep 14 [(0, .c (.a (.yl kl))), (5, .lp 5 0)] [(5, .iter km ck ((seen ++ [mb])) ck)] ((H12)) rfl ⟨rfl, rfl, trivial⟩ ⟨rfl, trivial⟩ (fun _ _ h => h) rfl, by rw [hc]; exact cnt_less (m := ⟨_, _, mb⟩) (List.Sublist.refl _) hm6 hn6, H12, (pre ++ [x9]), (seen ++ [mb]), ⟨hx, hS9, rfl⟩, rfl⟩

end Go.Proofs.Ytikcmjamioopbaa.W
namespace Go.Proofs.Ytikcmjamioopbaa.W
open Go.RowKit E M
set_option linter.unusedVariables false
set_option linter.unusedSimpArgs false
set_option linter.unusedSectionVars false
theorem upd_swap {α : Type} (f : Nat → α) {i j : Nat} (x y : α) (h : i ≠ j) : upd (upd f i x) j y = upd (upd f j y) i x := by
  funext n
  by_cases e1 : n = i
  · subst e1; rw [upd_ne _ _ h, upd_same, upd_same]
  · by_cases e2 : n = j
    · subst e2; rw [upd_same, upd_ne _ _ e1, upd_same]
    · rw [upd_ne _ _ e2, upd_ne _ _ e1, upd_ne _ _ e1, upd_ne _ _ e2]
theorem upd_mid {H : Heap} {kb k : Nat} {b r : Option AO} (h : H kb = none) : ∀ j o, upd H k r j = some o → upd (upd H kb b) k r j = some o := fun j o h1 => by
  by_cases e : j = k
  · subst e; rw [upd_same] at h1 ⊢; exact h1
  · rw [upd_ne _ _ e] at h1 ⊢
    rw [upd_ne _ _ (fun e2 => by subst e2; rw [h] at h1; cases h1)]; exact h1

set_option maxRecDepth 20000 in
theorem keys0I (kb : Nat) : IterS Try.prog 49 [.bp kb 0] (fun n : Int => [iC n]) (fun xs => xs = []) (fun H => H kb = some (.box [.t (.v (.map none))])) := by
  intro kl J Jx H hJ0 hJI hst
  have hbox := hJI _ _ hJ0
  refine Spec.enter Try.func49 rfl ?_
  refine AW.wk (Wk.keep 14 [(0, .c (.a (.yl kl))), (1, .c (.a (.bp kb 0)))] [] (H) rfl ⟨rfl, rfl, trivial⟩ trivial (fun _ _ h => h) rfl) ?_
  refine AW.seq ?_
  refine AW.reg ?_
  refine SeqK.r (g_load (r := .a _) rfl Fx.ty48 rfl (by (repeat rw [upd_ne _ _ (by first | assumption | exact Ne.symm (by assumption))]); first | assumption | exact upd_same _ _ _) rfl rfl rfl rfl) rfl ?_
  refine SeqK.r (b_range0 rfl rfl Fx.un48 rfl rfl rfl) rfl ?_
  refine SeqK.nil ?_
  refine AW.block ?_
  refine AW.loop (fun (c : Nat) s => (True) ∧ s = ⟨14, sp [(0, .c (.a (.yl kl))), (5, .lp 5 0)], lv [(5, .iter0)], H⟩) (fun c => c) 0 ⟨_, Wk.keep 14 [(0, .c (.a (.yl kl))), (5, .lp 5 0)] [(5, .iter0)] (H) rfl ⟨rfl, rfl, trivial⟩ ⟨rfl, trivial⟩ (fun _ _ h => h) rfl, trivial, rfl⟩ (fun c s hs => ?_)
  obtain ⟨-, rfl⟩ := hs
  refine AW.seq ?_
  refine AW.reg ?_
  refine SeqK.r (g_next0 rfl rfl rfl rfl rfl) rfl ?_
  refine SeqK.q (q_extract _ rfl rfl rfl) rfl rfl rfl ?_
  refine SeqK.nil ?_
  refine AW.seq ?_
  refine AW.condF rfl ?_
  refine AW.exit ?_
  refine eth_e ?_
  refine eth_e ?_
  refine exit_here ?_
  exact fin_xN (x := .tup []) (H) .nil rfl (fun _ _ h => h) (.inl ⟨[], rfl, hJ0⟩)

set_option maxRecDepth 20000 in
theorem keysFI (H : Heap) (km : Nat) : E.Spec Try.prog 39 [.a (.mp km)] H fun x H' => ∃ kb, H kb = none ∧ x = .c (.a (.fn 49 [.bp kb 0])) ∧ H' = upd H kb (some (.box [.mp km])) := by
  refine Spec.enter Try.func39 rfl ?_
  refine AW.wk (Wk.keep 4 [(0, .c (.a (.mp km)))] [] (H) rfl ⟨rfl, trivial⟩ trivial (fun _ _ h => h) rfl) ?_
  refine AW.seq ?_
  refine AW.reg ?_
  refine SeqK.newBox (r := [_]) rfl rfl rfl rfl rfl rfl (fun k1 hk1 => ?_)
  refine SeqK.q (q_asC rfl rfl) rfl rfl rfl ?_
  refine SeqK.nil ?_
  refine AW.seq ?_
  refine AW.reg ?_
  refine SeqK.q (q_mkFn rfl rfl rfl) rfl rfl rfl ?_
  refine SeqK.q (q_asC rfl rfl) rfl rfl rfl ?_
  refine SeqK.nil ?_
  refine AW.ret ?_
  exact fin_x (x := .c _) (_) (.tmp rfl .nil) rfl (fun _ _ h => h) (⟨k1, hk1, rfl, rfl⟩)

set_option maxRecDepth 20000 in
theorem keys0FI (H : Heap) : E.Spec Try.prog 39 [.a (.t (.v (.map none)))] H fun x H' => ∃ kb, H kb = none ∧ x = .c (.a (.fn 49 [.bp kb 0])) ∧ H' = upd H kb (some (.box [.t (.v (.map none))])) := by
  refine Spec.enter Try.func39 rfl ?_
  refine AW.wk (Wk.keep 4 [(0, .c (.a (.t (.v (.map none)))))] [] (H) rfl ⟨rfl, trivial⟩ trivial (fun _ _ h => h) rfl) ?_
  refine AW.seq ?_
  refine AW.reg ?_
  refine SeqK.newBox (r := [_]) rfl rfl rfl rfl rfl rfl (fun k1 hk1 => ?_)
  refine SeqK.q (q_asC rfl rfl) rfl rfl rfl ?_
  refine SeqK.nil ?_
  refine AW.seq ?_
  refine AW.reg ?_
  refine SeqK.q (q_mkFn rfl rfl rfl) rfl rfl rfl ?_
  refine SeqK.q (q_asC rfl rfl) rfl rfl rfl ?_
  refine SeqK.nil ?_
  refine AW.ret ?_
  exact fin_x (x := .c _) (_) (.tmp rfl .nil) rfl (fun _ _ h => h) (⟨k1, hk1, rfl, rfl⟩)

set_option maxRecDepth 20000 in
theorem appSeqI (H : Heap) (gf : FuncId) (cs : List A) (Xs : List Int → Prop) (I : Heap → Prop) (hfn : fnB Try.prog gf = true) (hit : IterS Try.prog gf cs (fun n : Int => [iC n]) Xs I) (hI : ∀ H H' : Heap, (∀ k o, H k = some o → H' k = some o) → I H → I H') (hIH : I H) (hX0 : ∀ xs, Xs xs → xs.length ≤ 1000000) : E.Spec Try.prog 59 [.a (.t (.v (.slice none 0 0))), .a (.fn gf cs)] H fun x H' => ∃ xs k, Xs xs ∧ H k = none ∧ x = .c (.a (.os k 0 xs.length 1)) ∧ H' = upd H k (some (.row 3 1 (xs.map (fun n : Int => (.t (.v (.int .i64 n)) : A))))) := by
  refine Spec.enter Try.func59 rfl ?_
  refine AW.wk (Wk.keep 13 [(0, .c (.a (.t (.v (.slice none 0 0))))), (1, .c (.a (.fn gf cs)))] [] (H) rfl ⟨rfl, rfl, trivial⟩ trivial (fun _ _ h => h) rfl) ?_
  refine AW.seq ?_
  refine AW.reg ?_
  refine SeqK.r (b_box (r := [_]) rfl rfl rfl rfl rfl rfl) rfl ?_
  refine SeqK.q (q_asC rfl rfl) rfl rfl rfl ?_
  refine SeqK.nil ?_
  refine AW.seq ?_
  refine AW.seq ?_
  refine AW.rowL 2 0 3 1 rfl rfl (fun k0 hk0 => ?_)
  refine AW.exp 2 rfl (fun _ _ _ _ h => by cases h) (fun kb hkb => ?_)
  obtain ⟨n0, hkb⟩ := upd_lt hkb
  refine AW.reg ?_
  refine SeqK.q (q_mvC rfl rfl) rfl rfl rfl ?_
  refine SeqK.nil ?_
  refine AW.block ?_
  rw [upd_swap _ _ _ n0.symm]
  refine AW.wk (Wk.keep 13 [(2, .c (.a (.bp kb 0))), (6, .c (.a (.fn gf cs)))] [] (upd (upd H kb (some (.box [.os k0 0 0 1]))) k0 (some (.row 3 1 ([].map (fun n : Int => (.t (.v (.int .i64 n)) : A)))))) rfl ⟨rfl, rfl, trivial⟩ trivial (fun _ _ h => h) rfl) ?_
  refine AW.rangeF rfl (hfn) (fun d => rfl) (fun _ => rfl) (by decide) (hit) (hI) (fun (pre : List Int) H1 => ∃ k, upd H kb (some (.box [.os 0 0 0 1])) k = none ∧ H1 = upd (upd H kb (some (.box [.os k 0 pre.length 1]))) k (some (.row 3 1 (pre.map (fun n : Int => (.t (.v (.int .i64 n)) : A)))))) (fun _ _ => False) (⟨k0, by rw [upd_ne _ _ n0.symm]; exact hk0, rfl⟩) (fun pre H1 ⟨k, hk, e⟩ => by
    subst e
    refine hI H _ (fun j o hj => ?_) hIH
    rw [upd_ne _ _ (fun e => by subst e; rw [(upd_lt hk).2] at hj; cases hj), upd_ne _ _ (fun e => by subst e; rw [hkb] at hj; cases hj)]; exact hj) (fun l xs pre x H1 hX hpre hJ => ?_) (fun xs H1 hX hJ => ?_) (fun _ _ h => h.elim)
  ·
    have hlen : pre.length + 1 ≤ 1000000 := by
      have h1 := hpre.length_le
      have h2 := hX0 xs hX
      simp at h1; omega
    obtain ⟨k1, hk1, rfl⟩ := hJ
    have hne : kb ≠ k1 := (upd_lt hk1).1.symm
    replace hk1 : upd H kb (some (.box [.os k1 0 pre.length 1])) k1 = none := by rw [upd_ne _ _ hne.symm]; exact (upd_lt hk1).2
    refine AWR.reg (by kernel_rfl) ?_
    refine SeqK.q (q_asC rfl rfl) rfl rfl rfl ?_
    refine SeqK.nil ?_
    refine ⟨rfl, ?_⟩
    refine AWR.block ?_
    refine AWR.reg (by kernel_rfl) ?_
    refine SeqK.r (g_load (r := .a _) rfl Fx.ty30 rfl (by (repeat rw [upd_ne _ _ (by first | assumption | exact Ne.symm (by assumption))]); first | assumption | exact upd_same _ _ _) rfl rfl rfl rfl) rfl ?_
    refine SeqK.q (q_mvC rfl rfl) rfl rfl rfl ?_
    refine SeqK.q (q_buildSlice _ rfl Fx.el30 rfl (by decide) rfl) rfl rfl rfl ?_
    refine SeqK.appR1 rfl (hk1) rfl Fx.el30 rfl (by simp) rfl (by simp; omega) rfl rfl (fun k11 hk11 => ?_)
    refine SeqK.r (g_store rfl rfl Fx.ty30 rfl rfl (by rw [upd_ne _ _ (upd_lt hk11).1.symm]; exact upd_same _ _ _) rfl rfl rfl) rfl ?_
    refine SeqK.nil ?_
    refine ⟨_, fun _ _ h => h, k11, by rw [upd_ne _ _ (upd_lt hk11).1]; exact (upd_lt hk11).2, ?_⟩
    show upd (upd (upd H kb _) k11 _) kb _ = _
    rw [upd_swap _ _ _ (upd_lt hk11).1, upd_upd]
    simp
    rfl
  ·
    obtain ⟨k1, hk1, rfl⟩ := hJ
    have hne : kb ≠ k1 := (upd_lt hk1).1.symm
    refine AW.seq ?_
    refine AW.reg ?_
    refine SeqK.r (g_load (r := .a _) rfl Fx.ty30 rfl (by (repeat rw [upd_ne _ _ (by first | assumption | exact Ne.symm (by assumption))]); first | assumption | exact upd_same _ _ _) rfl rfl rfl rfl) rfl ?_
    refine SeqK.q (q_asC rfl rfl) rfl rfl rfl ?_
    refine SeqK.nil ?_
    refine AW.ret ?_
    exact fin_x (x := .c _) (upd H k1 (some (.row 3 1 (xs.map (fun n : Int => (.t (.v (.int .i64 n)) : A)))))) (.tmp rfl .nil) rfl (upd_mid hkb) (⟨xs, k1, hX, (upd_lt hk1).2, rfl, rfl⟩)

set_option maxRecDepth 20000 in
theorem keys0S (kb : Nat) : IterS Try.prog 58 [.bp kb 0] (fun n : ByteArray => [sC n]) (fun xs => xs = []) (fun H => H kb = some (.box [.t (.v (.map none))])) := by
  intro kl J Jx H hJ0 hJI hst
  have hbox := hJI _ _ hJ0
  refine Spec.enter Try.func58 rfl ?_
  refine AW.wk (Wk.keep 14 [(0, .c (.a (.yl kl))), (1, .c (.a (.bp kb 0)))] [] (H) rfl ⟨rfl, rfl, trivial⟩ trivial (fun _ _ h => h) rfl) ?_
  refine AW.seq ?_
  refine AW.reg ?_
  refine SeqK.r (g_load (r := .a _) rfl Fx.ty83 rfl (by (repeat rw [upd_ne _ _ (by first | assumption | exact Ne.symm (by assumption))]); first | assumption | exact upd_same _ _ _) rfl rfl rfl rfl) rfl ?_
  refine SeqK.r (b_range0 rfl rfl Fx.un83 rfl rfl rfl) rfl ?_
  refine SeqK.nil ?_
  refine AW.block ?_
  refine AW.loop (fun (c : Nat) s => (True) ∧ s = ⟨14, sp [(0, .c (.a (.yl kl))), (5, .lp 5 0)], lv [(5, .iter0)], H⟩) (fun c => c) 0 ⟨_, Wk.keep 14 [(0, .c (.a (.yl kl))), (5, .lp 5 0)] [(5, .iter0)] (H) rfl ⟨rfl, rfl, trivial⟩ ⟨rfl, trivial⟩ (fun _ _ h => h) rfl, trivial, rfl⟩ (fun c s hs => ?_)
  obtain ⟨-, rfl⟩ := hs
  refine AW.seq ?_
  refine AW.reg ?_
  refine SeqK.r (g_next0 rfl rfl rfl rfl rfl) rfl ?_
  refine SeqK.q (q_extract _ rfl rfl rfl) rfl rfl rfl ?_
  refine SeqK.nil ?_
  refine AW.seq ?_
  refine AW.condF rfl ?_
  refine AW.exit ?_
  refine eth_e ?_
  refine eth_e ?_
  refine exit_here ?_
  exact fin_xN (x := .tup []) (H) .nil rfl (fun _ _ h => h) (.inl ⟨[], rfl, hJ0⟩)

set_option maxRecDepth 20000 in
theorem keysFS (H : Heap) (km : Nat) : E.Spec Try.prog 46 [.a (.mp km)] H fun x H' => ∃ kb, H kb = none ∧ x = .c (.a (.fn 58 [.bp kb 0])) ∧ H' = upd H kb (some (.box [.mp km])) := by
  refine Spec.enter Try.func46 rfl ?_
  refine AW.wk (Wk.keep 4 [(0, .c (.a (.mp km)))] [] (H) rfl ⟨rfl, trivial⟩ trivial (fun _ _ h => h) rfl) ?_
  refine AW.seq ?_
  refine AW.reg ?_
  refine SeqK.newBox (r := [_]) rfl rfl rfl rfl rfl rfl (fun k1 hk1 => ?_)
  refine SeqK.q (q_asC rfl rfl) rfl rfl rfl ?_
  refine SeqK.nil ?_
  refine AW.seq ?_
  refine AW.reg ?_
  refine SeqK.q (q_mkFn rfl rfl rfl) rfl rfl rfl ?_
  refine SeqK.q (q_asC rfl rfl) rfl rfl rfl ?_
  refine SeqK.nil ?_
  refine AW.ret ?_
  exact fin_x (x := .c _) (_) (.tmp rfl .nil) rfl (fun _ _ h => h) (⟨k1, hk1, rfl, rfl⟩)

set_option maxRecDepth 20000 in
theorem keys0FS (H : Heap) : E.Spec Try.prog 46 [.a (.t (.v (.map none)))] H fun x H' => ∃ kb, H kb = none ∧ x = .c (.a (.fn 58 [.bp kb 0])) ∧ H' = upd H kb (some (.box [.t (.v (.map none))])) := by
  refine Spec.enter Try.func46 rfl ?_
  refine AW.wk (Wk.keep 4 [(0, .c (.a (.t (.v (.map none)))))] [] (H) rfl ⟨rfl, trivial⟩ trivial (fun _ _ h => h) rfl) ?_
  refine AW.seq ?_
  refine AW.reg ?_
  refine SeqK.newBox (r := [_]) rfl rfl rfl rfl rfl rfl (fun k1 hk1 => ?_)
  refine SeqK.q (q_asC rfl rfl) rfl rfl rfl ?_
  refine SeqK.nil ?_
  refine AW.seq ?_
  refine AW.reg ?_
  refine SeqK.q (q_mkFn rfl rfl rfl) rfl rfl rfl ?_
  refine SeqK.q (q_asC rfl rfl) rfl rfl rfl ?_
  refine SeqK.nil ?_
  refine AW.ret ?_
  exact fin_x (x := .c _) (_) (.tmp rfl .nil) rfl (fun _ _ h => h) (⟨k1, hk1, rfl, rfl⟩)

set_option maxRecDepth 20000 in
theorem appSeqS (H : Heap) (gf : FuncId) (cs : List A) (Xs : List ByteArray → Prop) (I : Heap → Prop) (hfn : fnB Try.prog gf = true) (hit : IterS Try.prog gf cs (fun n : ByteArray => [sC n]) Xs I) (hI : ∀ H H' : Heap, (∀ k o, H k = some o → H' k = some o) → I H → I H') (hIH : I H) (hX0 : ∀ xs, Xs xs → xs.length ≤ 1000000) : E.Spec Try.prog 64 [.a (.t (.v (.slice none 0 0))), .a (.fn gf cs)] H fun x H' => ∃ xs k, Xs xs ∧ H k = none ∧ x = .c (.a (.os k 0 xs.length 1)) ∧ H' = upd H k (some (.row 9 1 (xs.map (fun n : ByteArray => (.t (.v (.string n)) : A))))) := by
  refine Spec.enter Try.func64 rfl ?_
  refine AW.wk (Wk.keep 13 [(0, .c (.a (.t (.v (.slice none 0 0))))), (1, .c (.a (.fn gf cs)))] [] (H) rfl ⟨rfl, rfl, trivial⟩ trivial (fun _ _ h => h) rfl) ?_
  refine AW.seq ?_
  refine AW.reg ?_
  refine SeqK.r (b_box (r := [_]) rfl rfl rfl rfl rfl rfl) rfl ?_
  refine SeqK.q (q_asC rfl rfl) rfl rfl rfl ?_
  refine SeqK.nil ?_
  refine AW.seq ?_
  refine AW.seq ?_
  refine AW.rowL 2 0 9 1 rfl rfl (fun k0 hk0 => ?_)
  refine AW.exp 2 rfl (fun _ _ _ _ h => by cases h) (fun kb hkb => ?_)
  obtain ⟨n0, hkb⟩ := upd_lt hkb
  refine AW.reg ?_
  refine SeqK.q (q_mvC rfl rfl) rfl rfl rfl ?_
  refine SeqK.nil ?_
  refine AW.block ?_
  rw [upd_swap _ _ _ n0.symm]
  refine AW.wk (Wk.keep 13 [(2, .c (.a (.bp kb 0))), (6, .c (.a (.fn gf cs)))] [] (upd (upd H kb (some (.box [.os k0 0 0 1]))) k0 (some (.row 9 1 ([].map (fun n : ByteArray => (.t (.v (.string n)) : A)))))) rfl ⟨rfl, rfl, trivial⟩ trivial (fun _ _ h => h) rfl) ?_
  refine AW.rangeF rfl (hfn) (fun d => rfl) (fun _ => rfl) (by decide) (hit) (hI) (fun (pre : List ByteArray) H1 => ∃ k, upd H kb (some (.box [.os 0 0 0 1])) k = none ∧ H1 = upd (upd H kb (some (.box [.os k 0 pre.length 1]))) k (some (.row 9 1 (pre.map (fun n : ByteArray => (.t (.v (.string n)) : A)))))) (fun _ _ => False) (⟨k0, by rw [upd_ne _ _ n0.symm]; exact hk0, rfl⟩) (fun pre H1 ⟨k, hk, e⟩ => by
    subst e
    refine hI H _ (fun j o hj => ?_) hIH
    rw [upd_ne _ _ (fun e => by subst e; rw [(upd_lt hk).2] at hj; cases hj), upd_ne _ _ (fun e => by subst e; rw [hkb] at hj; cases hj)]; exact hj) (fun l xs pre x H1 hX hpre hJ => ?_) (fun xs H1 hX hJ => ?_) (fun _ _ h => h.elim)
  ·
    have hlen : pre.length + 1 ≤ 1000000 := by
      have h1 := hpre.length_le
      have h2 := hX0 xs hX
      simp at h1; omega
    obtain ⟨k1, hk1, rfl⟩ := hJ
    have hne : kb ≠ k1 := (upd_lt hk1).1.symm
    replace hk1 : upd H kb (some (.box [.os k1 0 pre.length 1])) k1 = none := by rw [upd_ne _ _ hne.symm]; exact (upd_lt hk1).2
    refine AWR.reg (by kernel_rfl) ?_
    refine SeqK.q (q_asC rfl rfl) rfl rfl rfl ?_
    refine SeqK.nil ?_
    refine ⟨rfl, ?_⟩
    refine AWR.block ?_
    refine AWR.reg (by kernel_rfl) ?_
    refine SeqK.r (g_load (r := .a _) rfl Fx.ty61 rfl (by (repeat rw [upd_ne _ _ (by first | assumption | exact Ne.symm (by assumption))]); first | assumption | exact upd_same _ _ _) rfl rfl rfl rfl) rfl ?_
    refine SeqK.q (q_mvC rfl rfl) rfl rfl rfl ?_
    refine SeqK.q (q_buildSlice _ rfl Fx.el61 rfl (by decide) rfl) rfl rfl rfl ?_
    refine SeqK.appR1 rfl (hk1) rfl Fx.el61 rfl (by simp) rfl (by simp; omega) rfl rfl (fun k11 hk11 => ?_)
    refine SeqK.r (g_store rfl rfl Fx.ty61 rfl rfl (by rw [upd_ne _ _ (upd_lt hk11).1.symm]; exact upd_same _ _ _) rfl rfl rfl) rfl ?_
    refine SeqK.nil ?_
    refine ⟨_, fun _ _ h => h, k11, by rw [upd_ne _ _ (upd_lt hk11).1]; exact (upd_lt hk11).2, ?_⟩
    show upd (upd (upd H kb _) k11 _) kb _ = _
    rw [upd_swap _ _ _ (upd_lt hk11).1, upd_upd]
    simp
    rfl
  ·
    obtain ⟨k1, hk1, rfl⟩ := hJ
    have hne : kb ≠ k1 := (upd_lt hk1).1.symm
    refine AW.seq ?_
    refine AW.reg ?_
    refine SeqK.r (g_load (r := .a _) rfl Fx.ty61 rfl (by (repeat rw [upd_ne _ _ (by first | assumption | exact Ne.symm (by assumption))]); first | assumption | exact upd_same _ _ _) rfl rfl rfl rfl) rfl ?_
    refine SeqK.q (q_asC rfl rfl) rfl rfl rfl ?_
    refine SeqK.nil ?_
    refine AW.ret ?_
    exact fin_x (x := .c _) (upd H k1 (some (.row 9 1 (xs.map (fun n : ByteArray => (.t (.v (.string n)) : A)))))) (.tmp rfl .nil) rfl (upd_mid hkb) (⟨xs, k1, hX, (upd_lt hk1).2, rfl, rfl⟩)

end Go.Proofs.Ytikcmjamioopbaa.W
namespace Go.Proofs.Ytikcmjamioopbaa.W
open Go.RowKit E M
set_option linter.unusedVariables false
set_option linter.unusedSimpArgs false
set_option linter.unusedSectionVars false
/-- sorted -/
def SortOf {α : Type} (lt : α → α → Bool) (xs ys : List α) : Prop := ys.Perm xs ∧ ys.Pairwise fun a b => lt b a = false
section
variable {α : Type} [DecidableEq α] {lt : α → α → Bool}
theorem SortOf.asc (o : Ord lt) {xs ys : List α} (h : SortOf lt xs ys) (hn : xs.Nodup) : Asc lt ys := by
  have h1 : ys.Nodup := h.1.nodup_iff.2 hn
  refine (h.2.and h1).imp fun {a b} ⟨h2, h3⟩ => ?_
  cases h4 : lt a b with
  | true => rfl
  | false => exact absurd (o.tot a b h4 h2) h3
theorem KeysX.len {nd : Nd α} {H : Heap} {k km : Nat} {es : List ME} {ck : Nat} {g : α → Option Nat} {L : List (α × α)} (h : GrAt nd H k km es ck g L) {a : α} {es3 : List ME} {c3 : Nat} (ok : MOk nd.kk es3 c3) (hget : ∀ b, mget (nd.nv b) es3 = if (a, b) ∈ L then some yes else none) (hL : L.length ≤ 1000000) : ∀ xs, KeysX nd es3 xs → xs.length ≤ 1000000 := fun xs hx => by
  have := len_sub (xs.map fun b => (a, b)) L (by
    rw [List.Nodup, List.pairwise_map]; exact hx.1.imp fun h e => h (by injection e)) fun e he => by
    obtain ⟨b, hb, rfl⟩ := List.mem_map.1 he
    exact (h.keys ok hget b).1 ((hx.2 b).1 hb)
  simp at this; omega
end
theorem le_total_str (a b : List UInt8) : (decide (a ≤ b) || decide (b ≤ a)) = true := by
  rcases List.le_total a b with h | h <;> simp [h]
theorem sortI (H : Heap) (k : Nat) (l : List Int) (hk : H k = some (.row 3 1 (l.map fun n => (.t (.v (.int .i64 n)) : A)))) (hl : l.length ≤ 1000000) :
    E.Spec Try.prog 48 [.a (.os k 0 l.length 1)] H fun x H' => x = .tup [] ∧ ∃ ys, SortOf ltI l ys ∧ H' = upd H k (some (.row 3 1 (ys.map fun n => (.t (.v (.int .i64 n)) : A)))) :=
  (E.Spec.sort (Value.int .i64) (fun _ => rfl) (fun l => l.mergeSort fun x y => decide (x ≤ y)) (fun l => List.length_mergeSort l) (fun blk off cap zs w => Try.slices_Sort_int blk off cap zs w) (fun p cap w => Try.slices_Sort_int_none p cap w) H k 3 l hk (by omega)).mono fun x H' ⟨h1, h2⟩ => ⟨h1, _, ⟨List.mergeSort_perm _ _, (List.pairwise_mergeSort (le := fun x y : Int => decide (x ≤ y)) (fun a b c => by simp; omega) (fun a b => by simp; omega) l).imp fun {a b} h => by simp [ltI] at h ⊢; omega⟩, h2⟩
theorem sortS (H : Heap) (k : Nat) (l : List ByteArray) (hk : H k = some (.row 9 1 (l.map fun n => (.t (.v (.string n)) : A)))) (hl : l.length ≤ 1000000) :
    E.Spec Try.prog 57 [.a (.os k 0 l.length 1)] H fun x H' => x = .tup [] ∧ ∃ ys, SortOf ltS l ys ∧ H' = upd H k (some (.row 9 1 (ys.map fun n => (.t (.v (.string n)) : A)))) := by
  have h := E.Spec.sort Go.Proofs.encStr (fun _ => rfl) (fun l => l.mergeSort fun x y => decide (x ≤ y)) (fun l => List.length_mergeSort l) (fun blk off cap zs w => Try.slices_Sort_string blk off cap zs w) (fun p cap w => Try.slices_Sort_string_none p cap w) H k 9 (l.map fun s => s.data.toList) (by rw [hk, List.map_map]; rfl) (by simp; omega)
  rw [List.length_map] at h
  refine h.mono fun x H' ⟨h1, h2⟩ => ⟨h1, ((l.map fun s => s.data.toList).mergeSort fun x y => decide (x ≤ y)).map fun b => ⟨b.toArray⟩, ⟨?_, ?_⟩, ?_⟩
  · have := (List.mergeSort_perm (l.map fun s : ByteArray => s.data.toList) (fun x y => decide (x ≤ y))).map fun b : List UInt8 => (⟨b.toArray⟩ : ByteArray)
    rw [List.map_map] at this
    have e : ((fun b : List UInt8 => (⟨b.toArray⟩ : ByteArray)) ∘ fun s : ByteArray => s.data.toList) = id := by funext s; rfl
    rw [e, List.map_id] at this
    exact this
  · rw [List.pairwise_map]
    refine (List.pairwise_mergeSort (le := fun x y : List UInt8 => decide (x ≤ y)) (fun a b c => by simpa using fun h1 h2 => List.le_trans h1 h2) le_total_str _).imp fun {a b} h => ?_
    cases h9 : ltS ⟨b.toArray⟩ ⟨a.toArray⟩ with
    | false => rfl
    | true =>
      have h9 := ltS_iff.1 h9
      simp at h9 h
      exact absurd h9 (List.not_lt.2 h)
  · rw [h2, List.map_map]; rfl

set_option maxRecDepth 20000 in
theorem collectI (H : Heap) (gf : FuncId) (cs : List A) (Xs : List Int → Prop) (I : Heap → Prop) (hfn : fnB Try.prog gf = true) (hit : IterS Try.prog gf cs (fun n : Int => [iC n]) Xs I) (hI : ∀ H H' : Heap, (∀ k o, H k = some o → H' k = some o) → I H → I H') (hIH : I H) (hX0 : ∀ xs, Xs xs → xs.length ≤ 1000000) : E.Spec Try.prog 47 [.a (.fn gf cs)] H fun x H' => ∃ xs k, Xs xs ∧ H k = none ∧ x = .c (.a (.os k 0 xs.length 1)) ∧ H' = upd H k (some (.row 3 1 (xs.map (fun n : Int => (.t (.v (.int .i64 n)) : A))))) := by
  refine Spec.enter Try.func47 rfl ?_
  refine AW.wk (Wk.keep 5 [(0, .c (.a (.fn gf cs)))] [] (H) rfl ⟨rfl, trivial⟩ trivial (fun _ _ h => h) rfl) ?_
  refine AW.seq ?_
  refine AW.reg ?_
  refine SeqK.q (q_asC rfl rfl) rfl rfl rfl ?_
  refine SeqK.nil ?_
  refine AW.seq ?_
  refine AW.reg ?_
  refine SeqK.q (q_mvC rfl rfl) rfl rfl rfl ?_
  refine SeqK.callE rfl rfl rfl rfl Fx.fn59 rfl (appSeqI _ gf cs Xs I hfn hit hI hIH hX0) (fun _ _ ⟨_, _, _, _, h, _⟩ => by rw [h]; rfl) (fun x4 H4 q4 => ?_)
  obtain ⟨xs, k, hX, hk, rfl, hH⟩ := q4
  subst hH
  refine SeqK.q (q_asC rfl rfl) rfl rfl rfl ?_
  refine SeqK.nil ?_
  refine AW.ret ?_
  exact fin_x (x := .c _) (_) (.tmp rfl .nil) rfl (fun _ _ h => h) (⟨xs, k, hX, hk, rfl, rfl⟩)

set_option maxRecDepth 20000 in
theorem sortedI (H : Heap) (gf : FuncId) (cs : List A) (Xs : List Int → Prop) (I : Heap → Prop) (hfn : fnB Try.prog gf = true) (hit : IterS Try.prog gf cs (fun n : Int => [iC n]) Xs I) (hI : ∀ H H' : Heap, (∀ k o, H k = some o → H' k = some o) → I H → I H') (hIH : I H) (hX0 : ∀ xs, Xs xs → xs.length ≤ 1000000) : E.Spec Try.prog 38 [.a (.fn gf cs)] H fun x H' => ∃ xs ys k, Xs xs ∧ SortOf ltI xs ys ∧ H k = none ∧ x = .c (.a (.os k 0 ys.length 1)) ∧ H' = upd H k (some (.row 3 1 (ys.map (fun n : Int => (.t (.v (.int .i64 n)) : A))))) := by
  refine Spec.enter Try.func38 rfl ?_
  refine AW.wk (Wk.keep 9 [(0, .c (.a (.fn gf cs)))] [] (H) rfl ⟨rfl, trivial⟩ trivial (fun _ _ h => h) rfl) ?_
  refine AW.seq ?_
  refine AW.reg ?_
  refine SeqK.q (q_asC rfl rfl) rfl rfl rfl ?_
  refine SeqK.nil ?_
  refine AW.seq ?_
  refine AW.reg ?_
  refine SeqK.q (q_mvC rfl rfl) rfl rfl rfl ?_
  refine SeqK.callE rfl rfl rfl rfl Fx.fn47 rfl (collectI _ gf cs Xs I hfn hit hI hIH hX0) (fun _ _ ⟨_, _, _, _, h, _⟩ => by rw [h]; rfl) (fun x5 H5 q5 => ?_)
  obtain ⟨xs, k, hX, hk, rfl, hH⟩ := q5
  subst hH
  refine SeqK.q (q_asC rfl rfl) rfl rfl rfl ?_
  refine SeqK.nil ?_
  refine AW.seq ?_
  refine AW.reg ?_
  refine SeqK.q (q_mvC rfl rfl) rfl rfl rfl ?_
  refine SeqK.callE rfl rfl rfl rfl Fx.fn48 rfl (sortI _ k xs (upd_same _ _ _) (hX0 xs hX)) (fun _ _ h => by rw [h.1]; rfl) (fun x7 H7 q7 => ?_)
  obtain ⟨rfl, ys, hs, hH⟩ := q7
  rw [upd_upd] at hH
  subst hH
  refine SeqK.nil ?_
  refine AW.seq ?_
  refine AW.reg ?_
  refine SeqK.q (q_mvC rfl rfl) rfl rfl rfl ?_
  refine SeqK.q (q_asC rfl rfl) rfl rfl rfl ?_
  refine SeqK.nil ?_
  refine AW.ret ?_
  exact fin_x (x := .c _) (_) (.tmp rfl .nil) rfl (fun _ _ h => h) (⟨xs, ys, k, hX, hs, hk, by rw [hs.1.length_eq], rfl⟩)

set_option maxRecDepth 20000 in
theorem nextsI (H : Heap) (k : Nat) (L : List (Int × Int)) (n : Int) (km : Nat) (es : List ME) (ck : Nat) (g : Int → Option Nat) (G : GrAt ndI H k km es ck g L) (hL : L.length ≤ 1000000) (ki : Nat) (hg : g n = some ki) : E.Spec Try.prog 40 [.a (.bp k 0), iC n] H fun x H' => ∃ k', H k' = none ∧ x = .c (.a (.os k' 0 (succs ltI L n).length 1)) ∧ H' = upd H k' (some (.row 3 1 ((succs ltI L n).map (fun n : Int => (.t (.v (.int .i64 n)) : A))))) := by
  have hbox := G.box
  have hmap := G.map
  have hkm := G.kne
  have hgn := G.get n
  rw [hg] at hgn
  simp only [Option.map_some, Option.map_none] at hgn
  obtain ⟨es3, c3, h3, ok3, hget⟩ := G.inn n ki hg
  refine Spec.enter Try.func40 rfl ?_
  refine AW.wk (Wk.keep 13 [(0, .c (.a (.bp k 0))), (1, .c (iC n))] [] (H) rfl ⟨rfl, rfl, trivial⟩ trivial (fun _ _ h => h) rfl) ?_
  refine AW.seq ?_
  refine AW.reg ?_
  refine SeqK.q (q_asC rfl rfl) rfl rfl rfl ?_
  refine SeqK.nil ?_
  refine AW.seq ?_
  refine AW.reg ?_
  refine SeqK.q (q_mvC rfl rfl) rfl rfl rfl ?_
  refine SeqK.q (q_nilH rfl rfl) rfl rfl rfl ?_
  refine SeqK.q (q_fieldH _ rfl Fx.fl74_0 rfl rfl) rfl rfl rfl ?_
  refine SeqK.r (g_load (r := .a _) rfl Fx.ty72 rfl (by (repeat rw [upd_ne _ _ (by first | assumption | exact Ne.symm (by assumption))]); first | assumption | exact upd_same _ _ _) rfl rfl rfl rfl) rfl ?_
  refine SeqK.q (q_mvC rfl rfl) rfl rfl rfl ?_
  refine SeqK.r (g_lookup (r := .c (.a _)) (.int Fx.un3) rfl Fx.un72 Fx.ze48 rfl (by (repeat rw [upd_ne _ _ (by first | assumption | exact Ne.symm (by assumption))]); first | assumption | exact upd_same _ _ _) rfl rfl (by assumption) rfl rfl rfl) rfl ?_
  refine SeqK.callE rfl rfl rfl rfl Fx.fn39 rfl (keysFI _ ki) (fun _ _ ⟨_, _, h, _⟩ => by rw [h]; rfl) (fun x11 H11 q11 => ?_)
  obtain ⟨kb, hkb, rfl, hH⟩ := q11
  subst hH
  refine SeqK.callE rfl rfl rfl rfl Fx.fn38 rfl (sortedI _ 49 [.bp kb 0] (KeysX ndI es3) (fun H => H kb = some (.box [.mp ki]) ∧ H ki = some (.map ndI.kk es3 c3)) Fx.fn49 (keys1I kb ki es3 c3 ok3) (fun H H' hs h => ⟨hs _ _ h.1, hs _ _ h.2⟩) ⟨upd_same _ _ _, by rw [upd_ne _ _ (fun e => by subst e; rw [h3] at hkb; cases hkb)]; exact h3⟩ (KeysX.len G ok3 hget hL)) (fun _ _ ⟨_, _, _, _, _, _, h, _⟩ => by rw [h]; rfl) (fun x12 H12 q12 => ?_)
  obtain ⟨xs, ys, k2, hX, hs, hk2, rfl, hH⟩ := q12
  subst hH
  refine SeqK.q (q_asC rfl rfl) rfl rfl rfl ?_
  refine SeqK.nil ?_
  refine AW.ret ?_
  have hys : ys = succs ltI L n := asc_ext ordI (hs.asc ordI hX.1) (succs_asc ordI) fun i => by rw [hs.1.mem_iff, hX.2, G.keys ok3 hget, mem_succs]
  subst hys
  exact fin_x (x := .c _) (upd H k2 (some (.row 3 1 ((succs ltI L n).map (fun n : Int => (.t (.v (.int .i64 n)) : A)))))) (.tmp rfl .nil) rfl (upd_mid hkb) (⟨k2, (upd_lt hk2).2, rfl, rfl⟩)

set_option maxRecDepth 20000 in
theorem nextnI (H : Heap) (k : Nat) (L : List (Int × Int)) (n : Int) (km : Nat) (es : List ME) (ck : Nat) (g : Int → Option Nat) (G : GrAt ndI H k km es ck g L) (hL : L.length ≤ 1000000) (hg : g n = none) : E.Spec Try.prog 40 [.a (.bp k 0), iC n] H fun x H' => ∃ k', H k' = none ∧ x = .c (.a (.os k' 0 (succs ltI L n).length 1)) ∧ H' = upd H k' (some (.row 3 1 ((succs ltI L n).map (fun n : Int => (.t (.v (.int .i64 n)) : A))))) := by
  have hbox := G.box
  have hmap := G.map
  have hkm := G.kne
  have hgn := G.get n
  rw [hg] at hgn
  simp only [Option.map_some, Option.map_none] at hgn
  
  refine Spec.enter Try.func40 rfl ?_
  refine AW.wk (Wk.keep 13 [(0, .c (.a (.bp k 0))), (1, .c (iC n))] [] (H) rfl ⟨rfl, rfl, trivial⟩ trivial (fun _ _ h => h) rfl) ?_
  refine AW.seq ?_
  refine AW.reg ?_
  refine SeqK.q (q_asC rfl rfl) rfl rfl rfl ?_
  refine SeqK.nil ?_
  refine AW.seq ?_
  refine AW.reg ?_
  refine SeqK.q (q_mvC rfl rfl) rfl rfl rfl ?_
  refine SeqK.q (q_nilH rfl rfl) rfl rfl rfl ?_
  refine SeqK.q (q_fieldH _ rfl Fx.fl74_0 rfl rfl) rfl rfl rfl ?_
  refine SeqK.r (g_load (r := .a _) rfl Fx.ty72 rfl (by (repeat rw [upd_ne _ _ (by first | assumption | exact Ne.symm (by assumption))]); first | assumption | exact upd_same _ _ _) rfl rfl rfl rfl) rfl ?_
  refine SeqK.q (q_mvC rfl rfl) rfl rfl rfl ?_
  refine SeqK.r (g_lookup (r := .c (.a _)) (.int Fx.un3) rfl Fx.un72 Fx.ze48 rfl (by (repeat rw [upd_ne _ _ (by first | assumption | exact Ne.symm (by assumption))]); first | assumption | exact upd_same _ _ _) rfl rfl (by assumption) rfl rfl rfl) rfl ?_
  refine SeqK.callE rfl rfl rfl rfl Fx.fn39 rfl (keys0FI _) (fun _ _ ⟨_, _, h, _⟩ => by rw [h]; rfl) (fun x11 H11 q11 => ?_)
  obtain ⟨kb, hkb, rfl, hH⟩ := q11
  subst hH
  refine SeqK.callE rfl rfl rfl rfl Fx.fn38 rfl (sortedI _ 49 [.bp kb 0] (fun xs => xs = []) (fun H => H kb = some (.box [.t (.v (.map none))])) Fx.fn49 (keys0I kb) (fun H H' hs h => hs _ _ h) (upd_same _ _ _) (fun xs h => by subst h; simp)) (fun _ _ ⟨_, _, _, _, _, _, h, _⟩ => by rw [h]; rfl) (fun x12 H12 q12 => ?_)
  obtain ⟨xs, ys, k2, hX, hs, hk2, rfl, hH⟩ := q12
  subst hH
  refine SeqK.q (q_asC rfl rfl) rfl rfl rfl ?_
  refine SeqK.nil ?_
  refine AW.ret ?_
  subst hX
  have hys : ys = succs ltI L n := by
    have h1 := List.perm_nil.1 hs.1
    rw [h1]
    refine (List.eq_nil_iff_forall_not_mem.2 fun b hb => ?_).symm
    exact G.no n hg b (mem_succs.1 hb)
  subst hys
  exact fin_x (x := .c _) (upd H k2 (some (.row 3 1 ((succs ltI L n).map (fun n : Int => (.t (.v (.int .i64 n)) : A)))))) (.tmp rfl .nil) rfl (upd_mid hkb) (⟨k2, (upd_lt hk2).2, rfl, rfl⟩)

theorem nextI (H : Heap) (k : Nat) (L : List (Int × Int)) (n : Int) (G : Gr ndI H k L) (hL : L.length ≤ 1000000) : E.Spec Try.prog 40 [.a (.bp k 0), iC n] H fun x H' => ∃ k', H k' = none ∧ x = .c (.a (.os k' 0 (succs ltI L n).length 1)) ∧ H' = upd H k' (some (.row 3 1 ((succs ltI L n).map (fun n : Int => (.t (.v (.int .i64 n)) : A))))) := by
  obtain ⟨km, es, ck, g, G⟩ := G
  cases hg : g n with
  | none => exact nextnI H k L n km es ck g G hL hg
  | some ki => exact nextsI H k L n km es ck g G hL ki hg

set_option maxRecDepth 20000 in
theorem collectS (H : Heap) (gf : FuncId) (cs : List A) (Xs : List ByteArray → Prop) (I : Heap → Prop) (hfn : fnB Try.prog gf = true) (hit : IterS Try.prog gf cs (fun n : ByteArray => [sC n]) Xs I) (hI : ∀ H H' : Heap, (∀ k o, H k = some o → H' k = some o) → I H → I H') (hIH : I H) (hX0 : ∀ xs, Xs xs → xs.length ≤ 1000000) : E.Spec Try.prog 56 [.a (.fn gf cs)] H fun x H' => ∃ xs k, Xs xs ∧ H k = none ∧ x = .c (.a (.os k 0 xs.length 1)) ∧ H' = upd H k (some (.row 9 1 (xs.map (fun n : ByteArray => (.t (.v (.string n)) : A))))) := by
  refine Spec.enter Try.func56 rfl ?_
  refine AW.wk (Wk.keep 5 [(0, .c (.a (.fn gf cs)))] [] (H) rfl ⟨rfl, trivial⟩ trivial (fun _ _ h => h) rfl) ?_
  refine AW.seq ?_
  refine AW.reg ?_
  refine SeqK.q (q_asC rfl rfl) rfl rfl rfl ?_
  refine SeqK.nil ?_
  refine AW.seq ?_
  refine AW.reg ?_
  refine SeqK.q (q_mvC rfl rfl) rfl rfl rfl ?_
  refine SeqK.callE rfl rfl rfl rfl Fx.fn64 rfl (appSeqS _ gf cs Xs I hfn hit hI hIH hX0) (fun _ _ ⟨_, _, _, _, h, _⟩ => by rw [h]; rfl) (fun x4 H4 q4 => ?_)
  obtain ⟨xs, k, hX, hk, rfl, hH⟩ := q4
  subst hH
  refine SeqK.q (q_asC rfl rfl) rfl rfl rfl ?_
  refine SeqK.nil ?_
  refine AW.ret ?_
  exact fin_x (x := .c _) (_) (.tmp rfl .nil) rfl (fun _ _ h => h) (⟨xs, k, hX, hk, rfl, rfl⟩)

set_option maxRecDepth 20000 in
theorem sortedS (H : Heap) (gf : FuncId) (cs : List A) (Xs : List ByteArray → Prop) (I : Heap → Prop) (hfn : fnB Try.prog gf = true) (hit : IterS Try.prog gf cs (fun n : ByteArray => [sC n]) Xs I) (hI : ∀ H H' : Heap, (∀ k o, H k = some o → H' k = some o) → I H → I H') (hIH : I H) (hX0 : ∀ xs, Xs xs → xs.length ≤ 1000000) : E.Spec Try.prog 45 [.a (.fn gf cs)] H fun x H' => ∃ xs ys k, Xs xs ∧ SortOf ltS xs ys ∧ H k = none ∧ x = .c (.a (.os k 0 ys.length 1)) ∧ H' = upd H k (some (.row 9 1 (ys.map (fun n : ByteArray => (.t (.v (.string n)) : A))))) := by
  refine Spec.enter Try.func45 rfl ?_
  refine AW.wk (Wk.keep 9 [(0, .c (.a (.fn gf cs)))] [] (H) rfl ⟨rfl, trivial⟩ trivial (fun _ _ h => h) rfl) ?_
  refine AW.seq ?_
  refine AW.reg ?_
  refine SeqK.q (q_asC rfl rfl) rfl rfl rfl ?_
  refine SeqK.nil ?_
  refine AW.seq ?_
  refine AW.reg ?_
  refine SeqK.q (q_mvC rfl rfl) rfl rfl rfl ?_
  refine SeqK.callE rfl rfl rfl rfl Fx.fn56 rfl (collectS _ gf cs Xs I hfn hit hI hIH hX0) (fun _ _ ⟨_, _, _, _, h, _⟩ => by rw [h]; rfl) (fun x5 H5 q5 => ?_)
  obtain ⟨xs, k, hX, hk, rfl, hH⟩ := q5
  subst hH
  refine SeqK.q (q_asC rfl rfl) rfl rfl rfl ?_
  refine SeqK.nil ?_
  refine AW.seq ?_
  refine AW.reg ?_
  refine SeqK.q (q_mvC rfl rfl) rfl rfl rfl ?_
  refine SeqK.callE rfl rfl rfl rfl Fx.fn57 rfl (sortS _ k xs (upd_same _ _ _) (hX0 xs hX)) (fun _ _ h => by rw [h.1]; rfl) (fun x7 H7 q7 => ?_)
  obtain ⟨rfl, ys, hs, hH⟩ := q7
  rw [upd_upd] at hH
  subst hH
  refine SeqK.nil ?_
  refine AW.seq ?_
  refine AW.reg ?_
  refine SeqK.q (q_mvC rfl rfl) rfl rfl rfl ?_
  refine SeqK.q (q_asC rfl rfl) rfl rfl rfl ?_
  refine SeqK.nil ?_
  refine AW.ret ?_
  exact fin_x (x := .c _) (_) (.tmp rfl .nil) rfl (fun _ _ h => h) (⟨xs, ys, k, hX, hs, hk, by rw [hs.1.length_eq], rfl⟩)

set_option maxRecDepth 20000 in
theorem nextsS (H : Heap) (k : Nat) (L : List (ByteArray × ByteArray)) (n : ByteArray) (km : Nat) (es : List ME) (ck : Nat) (g : ByteArray → Option Nat) (G : GrAt ndS H k km es ck g L) (hL : L.length ≤ 1000000) (ki : Nat) (hg : g n = some ki) : E.Spec Try.prog 54 [.a (.bp k 0), sC n] H fun x H' => ∃ k', H k' = none ∧ x = .c (.a (.os k' 0 (succs ltS L n).length 1)) ∧ H' = upd H k' (some (.row 9 1 ((succs ltS L n).map (fun n : ByteArray => (.t (.v (.string n)) : A))))) := by
  have hbox := G.box
  have hmap := G.map
  have hkm := G.kne
  have hgn := G.get n
  rw [hg] at hgn
  simp only [Option.map_some, Option.map_none] at hgn
  obtain ⟨es3, c3, h3, ok3, hget⟩ := G.inn n ki hg
  refine Spec.enter Try.func54 rfl ?_
  refine AW.wk (Wk.keep 13 [(0, .c (.a (.bp k 0))), (1, .c (sC n))] [] (H) rfl ⟨rfl, rfl, trivial⟩ trivial (fun _ _ h => h) rfl) ?_
  refine AW.seq ?_
  refine AW.reg ?_
  refine SeqK.q (q_asC rfl rfl) rfl rfl rfl ?_
  refine SeqK.nil ?_
  refine AW.seq ?_
  refine AW.reg ?_
  refine SeqK.q (q_mvC rfl rfl) rfl rfl rfl ?_
  refine SeqK.q (q_nilH rfl rfl) rfl rfl rfl ?_
  refine SeqK.q (q_fieldH _ rfl Fx.fl82_0 rfl rfl) rfl rfl rfl ?_
  refine SeqK.r (g_load (r := .a _) rfl Fx.ty80 rfl (by (repeat rw [upd_ne _ _ (by first | assumption | exact Ne.symm (by assumption))]); first | assumption | exact upd_same _ _ _) rfl rfl rfl rfl) rfl ?_
  refine SeqK.q (q_mvC rfl rfl) rfl rfl rfl ?_
  refine SeqK.r (g_lookup (r := .c (.a _)) (.str Fx.un9) rfl Fx.un80 Fx.ze83 rfl (by (repeat rw [upd_ne _ _ (by first | assumption | exact Ne.symm (by assumption))]); first | assumption | exact upd_same _ _ _) rfl rfl (by assumption) rfl rfl rfl) rfl ?_
  refine SeqK.callE rfl rfl rfl rfl Fx.fn46 rfl (keysFS _ ki) (fun _ _ ⟨_, _, h, _⟩ => by rw [h]; rfl) (fun x11 H11 q11 => ?_)
  obtain ⟨kb, hkb, rfl, hH⟩ := q11
  subst hH
  refine SeqK.callE rfl rfl rfl rfl Fx.fn45 rfl (sortedS _ 58 [.bp kb 0] (KeysX ndS es3) (fun H => H kb = some (.box [.mp ki]) ∧ H ki = some (.map ndS.kk es3 c3)) Fx.fn58 (keys1S kb ki es3 c3 ok3) (fun H H' hs h => ⟨hs _ _ h.1, hs _ _ h.2⟩) ⟨upd_same _ _ _, by rw [upd_ne _ _ (fun e => by subst e; rw [h3] at hkb; cases hkb)]; exact h3⟩ (KeysX.len G ok3 hget hL)) (fun _ _ ⟨_, _, _, _, _, _, h, _⟩ => by rw [h]; rfl) (fun x12 H12 q12 => ?_)
  obtain ⟨xs, ys, k2, hX, hs, hk2, rfl, hH⟩ := q12
  subst hH
  refine SeqK.q (q_asC rfl rfl) rfl rfl rfl ?_
  refine SeqK.nil ?_
  refine AW.ret ?_
  have hys : ys = succs ltS L n := asc_ext ordS (hs.asc ordS hX.1) (succs_asc ordS) fun i => by rw [hs.1.mem_iff, hX.2, G.keys ok3 hget, mem_succs]
  subst hys
  exact fin_x (x := .c _) (upd H k2 (some (.row 9 1 ((succs ltS L n).map (fun n : ByteArray => (.t (.v (.string n)) : A)))))) (.tmp rfl .nil) rfl (upd_mid hkb) (⟨k2, (upd_lt hk2).2, rfl, rfl⟩)

set_option maxRecDepth 20000 in
theorem nextnS (H : Heap) (k : Nat) (L : List (ByteArray × ByteArray)) (n : ByteArray) (km : Nat) (es : List ME) (ck : Nat) (g : ByteArray → Option Nat) (G : GrAt ndS H k km es ck g L) (hL : L.length ≤ 1000000) (hg : g n = none) : E.Spec Try.prog 54 [.a (.bp k 0), sC n] H fun x H' => ∃ k', H k' = none ∧ x = .c (.a (.os k' 0 (succs ltS L n).length 1)) ∧ H' = upd H k' (some (.row 9 1 ((succs ltS L n).map (fun n : ByteArray => (.t (.v (.string n)) : A))))) := by
  have hbox := G.box
  have hmap := G.map
  have hkm := G.kne
  have hgn := G.get n
  rw [hg] at hgn
  simp only [Option.map_some, Option.map_none] at hgn
  
  refine Spec.enter Try.func54 rfl ?_
  refine AW.wk (Wk.keep 13 [(0, .c (.a (.bp k 0))), (1, .c (sC n))] [] (H) rfl ⟨rfl, rfl, trivial⟩ trivial (fun _ _ h => h) rfl) ?_
  refine AW.seq ?_
  refine AW.reg ?_
  refine SeqK.q (q_asC rfl rfl) rfl rfl rfl ?_
  refine SeqK.nil ?_
  refine AW.seq ?_
  refine AW.reg ?_
  refine SeqK.q (q_mvC rfl rfl) rfl rfl rfl ?_
  refine SeqK.q (q_nilH rfl rfl) rfl rfl rfl ?_
  refine SeqK.q (q_fieldH _ rfl Fx.fl82_0 rfl rfl) rfl rfl rfl ?_
  refine SeqK.r (g_load (r := .a _) rfl Fx.ty80 rfl (by (repeat rw [upd_ne _ _ (by first | assumption | exact Ne.symm (by assumption))]); first | assumption | exact upd_same _ _ _) rfl rfl rfl rfl) rfl ?_
  refine SeqK.q (q_mvC rfl rfl) rfl rfl rfl ?_
  refine SeqK.r (g_lookup (r := .c (.a _)) (.str Fx.un9) rfl Fx.un80 Fx.ze83 rfl (by (repeat rw [upd_ne _ _ (by first | assumption | exact Ne.symm (by assumption))]); first | assumption | exact upd_same _ _ _) rfl rfl (by assumption) rfl rfl rfl) rfl ?_
  refine SeqK.callE rfl rfl rfl rfl Fx.fn46 rfl (keys0FS _) (fun _ _ ⟨_, _, h, _⟩ => by rw [h]; rfl) (fun x11 H11 q11 => ?_)
  obtain ⟨kb, hkb, rfl, hH⟩ := q11
  subst hH
  refine SeqK.callE rfl rfl rfl rfl Fx.fn45 rfl (sortedS _ 58 [.bp kb 0] (fun xs => xs = []) (fun H => H kb = some (.box [.t (.v (.map none))])) Fx.fn58 (keys0S kb) (fun H H' hs h => hs _ _ h) (upd_same _ _ _) (fun xs h => by subst h; simp)) (fun _ _ ⟨_, _, _, _, _, _, h, _⟩ => by rw [h]; rfl) (fun x12 H12 q12 => ?_)
  obtain ⟨xs, ys, k2, hX, hs, hk2, rfl, hH⟩ := q12
  subst hH
  refine SeqK.q (q_asC rfl rfl) rfl rfl rfl ?_
  refine SeqK.nil ?_
  refine AW.ret ?_
  subst hX
  have hys : ys = succs ltS L n := by
    have h1 := List.perm_nil.1 hs.1
    rw [h1]
    refine (List.eq_nil_iff_forall_not_mem.2 fun b hb => ?_).symm
    exact G.no n hg b (mem_succs.1 hb)
  subst hys
  exact fin_x (x := .c _) (upd H k2 (some (.row 9 1 ((succs ltS L n).map (fun n : ByteArray => (.t (.v (.string n)) : A)))))) (.tmp rfl .nil) rfl (upd_mid hkb) (⟨k2, (upd_lt hk2).2, rfl, rfl⟩)

theorem nextS (H : Heap) (k : Nat) (L : List (ByteArray × ByteArray)) (n : ByteArray) (G : Gr ndS H k L) (hL : L.length ≤ 1000000) : E.Spec Try.prog 54 [.a (.bp k 0), sC n] H fun x H' => ∃ k', H k' = none ∧ x = .c (.a (.os k' 0 (succs ltS L n).length 1)) ∧ H' = upd H k' (some (.row 9 1 ((succs ltS L n).map (fun n : ByteArray => (.t (.v (.string n)) : A))))) := by
  obtain ⟨km, es, ck, g, G⟩ := G
  cases hg : g n with
  | none => exact nextnS H k L n km es ck g G hL hg
  | some ki => exact nextsS H k L n km es ck g G hL ki hg

end Go.Proofs.Ytikcmjamioopbaa.W
namespace Go.Proofs.Ytikcmjamioopbaa.W
open Go.RowKit E M
set_option linter.unusedVariables false
set_option linter.unusedSimpArgs false
set_option linter.unusedSectionVars false

theorem flatI (cs : List Int) : (cs.map i64T).flatten.map A.t = cs.map (fun n : Int => (.t (.v (.int .i64 n)) : A)) := by
  induction cs with
  | nil => rfl
  | cons c r ih => simp only [List.map_cons, List.flatten_cons, List.map_append, ih]; rfl
theorem nextFI (H : Heap) (k : Nat) (L : List (Int × Int)) (n : Int) (G : Gr ndI H k L) (hL : L.length ≤ 1000000) : E.Spec Try.prog 40 [.a (.bp k 0), iC n] H fun x H' => x = .c (iL .un (succs ltI L n)) ∧ H' = H :=
  E.Spec.freeze (nextI H k L n G hL) fun x H' ⟨k', h1, h2, h3⟩ => by
    subst h2 h3
    refine ⟨k', 1, 3, (succs ltI L n).map i64T, by rw [upd_same, flatI], fun e he => by obtain ⟨s, _, rfl⟩ := List.mem_map.1 he; rfl, by decide, ?_, upd_back h1⟩
    simp [fzX, fzC, fzA]

set_option maxRecDepth 20000 in
theorem succ1I (kb : Nat) (l : List Int) (hl : l.length ≤ 1000000) : IterS Try.prog 41 [.bp kb 0] (fun n : Int => [iC n]) (fun xs => xs = l) (fun H => H kb = some (.box [.t (.sl .un 1 (l.map i64T))])) := by
  intro kl J Jx H hJ0 hJI hst
  have hbox := hJI _ _ hJ0
  refine Spec.enter Try.func41 rfl ?_
  refine AW.wk (Wk.keep 16 [(0, .c (.a (.yl kl))), (1, .c (.a (.bp kb 0)))] [] (H) rfl ⟨rfl, rfl, trivial⟩ trivial (fun _ _ h => h) rfl) ?_
  refine AW.seq ?_
  refine AW.reg ?_
  refine SeqK.r (g_load (r := .a _) rfl Fx.ty30 rfl (by (repeat rw [upd_ne _ _ (by first | assumption | exact Ne.symm (by assumption))]); first | assumption | exact upd_same _ _ _) rfl rfl rfl rfl) rfl ?_
  refine SeqK.q (q_len rfl Fx.un30 rfl) rfl rfl rfl ?_
  refine SeqK.q (q_mvC rfl rfl) rfl rfl rfl ?_
  refine SeqK.nil ?_
  refine AW.block ?_
  refine AW.loop (fun (i : Nat) s => ∃ (Hx : Heap), (i ≤ l.length ∧ J (l.take i) Hx) ∧ s = ⟨16, sp [(0, .c (.a (.yl kl))), (5, .c (iL .un l)), (6, iX .i64 (((l.map i64T).length : Nat) : Int)), (7, iX .i64 ((i : Nat) : Int))], lv [], Hx⟩) (fun i => l.length - i) 0 ⟨_, Wk.keep 16 [(0, .c (.a (.yl kl))), (5, .c (iL .un l)), (6, iX .i64 (((l.map i64T).length : Nat) : Int)), (7, iX .i64 ((((0 : Nat)) : Nat) : Int))] [] ((H)) rfl ⟨rfl, rfl, rfl, rfl, trivial⟩ trivial (fun _ _ h => h) rfl, H, ⟨Nat.zero_le _, hJ0⟩, rfl⟩ (fun i s hs => ?_)
  obtain ⟨Hx, ⟨hi0, hJ⟩, rfl⟩ := hs
  refine AW.seq ?_
  refine AW.reg ?_
  refine SeqK.q (q_lss rfl rfl rfl) rfl rfl rfl ?_
  refine SeqK.nil ?_
  refine AW.seq ?_
  refine AW.condD rfl (fun h8 => ?_) (fun h8 => ?_)
  ·
    have hi : i < l.length := by simpa using h8
    have htk : l.take i ++ [l[i]] = l.take (i + 1) := by rw [List.take_add_one, List.getElem?_eq_getElem hi]; rfl
    refine AW.skip ?_
    refine AW.seq ?_
    refine AW.block ?_
    refine AW.seq ?_
    refine AW.reg ?_
    refine SeqK.q (q_index _ rfl Fx.sl30 rfl rfl (by omega) (idx_map (f := i64T) hi)) rfl rfl rfl ?_
    refine SeqK.q (q_load (.a _) rfl Fx.ty3 rfl rfl rfl) rfl rfl rfl ?_
    refine SeqK.q (q_asC rfl rfl) rfl rfl rfl ?_
    refine SeqK.nil ?_
    refine AW.seq ?_
    refine AW.reg ?_
    refine SeqK.q (q_mvC rfl rfl) rfl rfl rfl ?_
    refine SeqK.q (q_mvC rfl rfl) rfl rfl rfl ?_
    refine SeqK.callY rfl rfl rfl rfl rfl rfl (hst l (l.take i) l[i] Hx rfl (by rw [htk]; exact List.take_prefix _ _) hJ) (fun r13 H13 q13 => ?_)
    refine SeqK.q (q_not rfl rfl) rfl rfl rfl ?_
    refine SeqK.nil ?_
    refine AW.cond _ rfl (fun h14 => ?_) (fun h14 => ?_)
    ·
      have hx : Jx H13 := by
        rcases q13 with ⟨h, _⟩ | ⟨_, h⟩
        · subst h; cases h14
        · exact h
      refine AW.ret ?_
      exact fin_x (x := .tup []) (H13) .nil rfl (fun _ _ h => h) (.inr hx)
    ·
      have hx : J (l.take (i + 1)) H13 := by
        rcases q13 with ⟨_, h⟩ | ⟨h, _⟩
        · rw [← htk]; exact h
        · subst h; cases h14
      refine AW.skip ?_
      refine AW.reg ?_
      refine SeqK.q (q_add _ rfl rfl rfl (w64 (by omega) (by omega))) rfl rfl rfl ?_
      refine SeqK.q (q_mvC rfl rfl) rfl rfl rfl ?_
      refine SeqK.nil ?_
      exact ⟨i + 1, _, Wk.keep 16 [(0, .c (.a (.yl kl))), (5, .c (iL .un l)), (6, iX .i64 (((l.map i64T).length : Nat) : Int)), (7, iX .i64 (((i + 1) : Nat) : Int))] [] ((H13)) rfl ⟨rfl, rfl, rfl, rfl, trivial⟩ trivial (fun _ _ h => h) rfl, by omega, H13, ⟨hi, hx⟩, rfl⟩
  ·
    refine AW.exit ?_
    refine eth_e ?_
    refine eth_e ?_
    refine exit_here ?_
    obtain rfl : i = l.length := by simp at h8; omega
    rw [List.take_length] at hJ
    exact fin_xN (x := .tup []) (Hx) .nil rfl (fun _ _ h => h) (.inl ⟨l, rfl, hJ⟩)

set_option maxRecDepth 20000 in
theorem succI (H : Heap) (k : Nat) (L : List (Int × Int)) (n : Int) (G : Gr ndI H k L) (hL : L.length ≤ 1000000) : E.Spec Try.prog 18 [.a (.bp k 0), iC n] H fun x H' => ∃ kb, H kb = none ∧ x = .c (.a (.fn 41 [.bp kb 0])) ∧ H' = upd H kb (some (.box [.t (.sl .un 1 ((succs ltI L n).map i64T))])) := by
  refine Spec.enter Try.func18 rfl ?_
  refine AW.wk (Wk.keep 10 [(0, .c (.a (.bp k 0))), (1, .c (iC n))] [] (H) rfl ⟨rfl, rfl, trivial⟩ trivial (fun _ _ h => h) rfl) ?_
  refine AW.seq ?_
  refine AW.reg ?_
  refine SeqK.q (q_asC rfl rfl) rfl rfl rfl ?_
  refine SeqK.nil ?_
  refine AW.seq ?_
  refine AW.reg ?_
  refine SeqK.q (q_mvC rfl rfl) rfl rfl rfl ?_
  refine SeqK.q (q_mvC rfl rfl) rfl rfl rfl ?_
  refine SeqK.callE rfl rfl rfl rfl Fx.fn40 rfl (nextFI _ k L n G hL) (fun _ _ h => by rw [h.1]; rfl) (fun x8 H8 q8 => ?_)
  obtain ⟨rfl, hH⟩ := q8
  subst hH
  refine SeqK.newAlloc (r := [_]) rfl rfl rfl Fx.ze30 rfl rfl rfl (fun k5 hk5 => ?_)
  refine SeqK.r (g_store rfl rfl Fx.ty30 rfl rfl (by (repeat rw [upd_ne _ _ (by first | assumption | exact Ne.symm (by assumption))]); first | assumption | exact upd_same _ _ _) rfl rfl rfl) rfl ?_
  refine SeqK.nil ?_
  refine AW.seq ?_
  refine AW.reg ?_
  refine SeqK.q (q_mkFn rfl rfl rfl) rfl rfl rfl ?_
  refine SeqK.q (q_asC rfl rfl) rfl rfl rfl ?_
  refine SeqK.nil ?_
  refine AW.ret ?_
  exact fin_x (x := .c _) (_) (.tmp rfl .nil) rfl (fun _ _ h => h) (⟨k5, hk5, rfl, by rw [upd_upd]; rfl⟩)

theorem flatS (cs : List ByteArray) : (cs.map strT).flatten.map A.t = cs.map (fun n : ByteArray => (.t (.v (.string n)) : A)) := by
  induction cs with
  | nil => rfl
  | cons c r ih => simp only [List.map_cons, List.flatten_cons, List.map_append, ih]; rfl
theorem nextFS (H : Heap) (k : Nat) (L : List (ByteArray × ByteArray)) (n : ByteArray) (G : Gr ndS H k L) (hL : L.length ≤ 1000000) : E.Spec Try.prog 54 [.a (.bp k 0), sC n] H fun x H' => x = .c (sL .un (succs ltS L n)) ∧ H' = H :=
  E.Spec.freeze (nextS H k L n G hL) fun x H' ⟨k', h1, h2, h3⟩ => by
    subst h2 h3
    refine ⟨k', 1, 9, (succs ltS L n).map strT, by rw [upd_same, flatS], fun e he => by obtain ⟨s, _, rfl⟩ := List.mem_map.1 he; rfl, by decide, ?_, upd_back h1⟩
    simp [fzX, fzC, fzA]

set_option maxRecDepth 20000 in
theorem succ1S (kb : Nat) (l : List ByteArray) (hl : l.length ≤ 1000000) : IterS Try.prog 55 [.bp kb 0] (fun n : ByteArray => [sC n]) (fun xs => xs = l) (fun H => H kb = some (.box [.t (.sl .un 1 (l.map strT))])) := by
  intro kl J Jx H hJ0 hJI hst
  have hbox := hJI _ _ hJ0
  refine Spec.enter Try.func55 rfl ?_
  refine AW.wk (Wk.keep 16 [(0, .c (.a (.yl kl))), (1, .c (.a (.bp kb 0)))] [] (H) rfl ⟨rfl, rfl, trivial⟩ trivial (fun _ _ h => h) rfl) ?_
  refine AW.seq ?_
  refine AW.reg ?_
  refine SeqK.r (g_load (r := .a _) rfl Fx.ty61 rfl (by (repeat rw [upd_ne _ _ (by first | assumption | exact Ne.symm (by assumption))]); first | assumption | exact upd_same _ _ _) rfl rfl rfl rfl) rfl ?_
  refine SeqK.q (q_len rfl Fx.un61 rfl) rfl rfl rfl ?_
  refine SeqK.q (q_mvC rfl rfl) rfl rfl rfl ?_
  refine SeqK.nil ?_
  refine AW.block ?_
  refine AW.loop (fun (i : Nat) s => ∃ (Hx : Heap), (i ≤ l.length ∧ J (l.take i) Hx) ∧ s = ⟨16, sp [(0, .c (.a (.yl kl))), (5, .c (sL .un l)), (6, iX .i64 (((l.map strT).length : Nat) : Int)), (7, iX .i64 ((i : Nat) : Int))], lv [], Hx⟩) (fun i => l.length - i) 0 ⟨_, Wk.keep 16 [(0, .c (.a (.yl kl))), (5, .c (sL .un l)), (6, iX .i64 (((l.map strT).length : Nat) : Int)), (7, iX .i64 ((((0 : Nat)) : Nat) : Int))] [] ((H)) rfl ⟨rfl, rfl, rfl, rfl, trivial⟩ trivial (fun _ _ h => h) rfl, H, ⟨Nat.zero_le _, hJ0⟩, rfl⟩ (fun i s hs => ?_)
  obtain ⟨Hx, ⟨hi0, hJ⟩, rfl⟩ := hs
  refine AW.seq ?_
  refine AW.reg ?_
  refine SeqK.q (q_lss rfl rfl rfl) rfl rfl rfl ?_
  refine SeqK.nil ?_
  refine AW.seq ?_
  refine AW.condD rfl (fun h8 => ?_) (fun h8 => ?_)
  ·
    have hi : i < l.length := by simpa using h8
    have htk : l.take i ++ [l[i]] = l.take (i + 1) := by rw [List.take_add_one, List.getElem?_eq_getElem hi]; rfl
    refine AW.skip ?_
    refine AW.seq ?_
    refine AW.block ?_
    refine AW.seq ?_
    refine AW.reg ?_
    refine SeqK.q (q_index _ rfl Fx.sl61 rfl rfl (by omega) (idx_map (f := strT) hi)) rfl rfl rfl ?_
    refine SeqK.q (q_load (.a _) rfl Fx.ty9 rfl rfl rfl) rfl rfl rfl ?_
    refine SeqK.q (q_asC rfl rfl) rfl rfl rfl ?_
    refine SeqK.nil ?_
    refine AW.seq ?_
    refine AW.reg ?_
    refine SeqK.q (q_mvC rfl rfl) rfl rfl rfl ?_
    refine SeqK.q (q_mvC rfl rfl) rfl rfl rfl ?_
    refine SeqK.callY rfl rfl rfl rfl rfl rfl (hst l (l.take i) l[i] Hx rfl (by rw [htk]; exact List.take_prefix _ _) hJ) (fun r13 H13 q13 => ?_)
    refine SeqK.q (q_not rfl rfl) rfl rfl rfl ?_
    refine SeqK.nil ?_
    refine AW.cond _ rfl (fun h14 => ?_) (fun h14 => ?_)
    ·
      have hx : Jx H13 := by
        rcases q13 with ⟨h, _⟩ | ⟨_, h⟩
        · subst h; cases h14
        · exact h
      refine AW.ret ?_
      exact fin_x (x := .tup []) (H13) .nil rfl (fun _ _ h => h) (.inr hx)
    ·
      have hx : J (l.take (i + 1)) H13 := by
        rcases q13 with ⟨_, h⟩ | ⟨h, _⟩
        · rw [← htk]; exact h
        · subst h; cases h14
      refine AW.skip ?_
      refine AW.reg ?_
      refine SeqK.q (q_add _ rfl rfl rfl (w64 (by omega) (by omega))) rfl rfl rfl ?_
      refine SeqK.q (q_mvC rfl rfl) rfl rfl rfl ?_
      refine SeqK.nil ?_
      exact ⟨i + 1, _, Wk.keep 16 [(0, .c (.a (.yl kl))), (5, .c (sL .un l)), (6, iX .i64 (((l.map strT).length : Nat) : Int)), (7, iX .i64 (((i + 1) : Nat) : Int))] [] ((H13)) rfl ⟨rfl, rfl, rfl, rfl, trivial⟩ trivial (fun _ _ h => h) rfl, by omega, H13, ⟨hi, hx⟩, rfl⟩
  ·
    refine AW.exit ?_
    refine eth_e ?_
    refine eth_e ?_
    refine exit_here ?_
    obtain rfl : i = l.length := by simp at h8; omega
    rw [List.take_length] at hJ
    exact fin_xN (x := .tup []) (Hx) .nil rfl (fun _ _ h => h) (.inl ⟨l, rfl, hJ⟩)

set_option maxRecDepth 20000 in
theorem succS (H : Heap) (k : Nat) (L : List (ByteArray × ByteArray)) (n : ByteArray) (G : Gr ndS H k L) (hL : L.length ≤ 1000000) : E.Spec Try.prog 44 [.a (.bp k 0), sC n] H fun x H' => ∃ kb, H kb = none ∧ x = .c (.a (.fn 55 [.bp kb 0])) ∧ H' = upd H kb (some (.box [.t (.sl .un 1 ((succs ltS L n).map strT))])) := by
  refine Spec.enter Try.func44 rfl ?_
  refine AW.wk (Wk.keep 10 [(0, .c (.a (.bp k 0))), (1, .c (sC n))] [] (H) rfl ⟨rfl, rfl, trivial⟩ trivial (fun _ _ h => h) rfl) ?_
  refine AW.seq ?_
  refine AW.reg ?_
  refine SeqK.q (q_asC rfl rfl) rfl rfl rfl ?_
  refine SeqK.nil ?_
  refine AW.seq ?_
  refine AW.reg ?_
  refine SeqK.q (q_mvC rfl rfl) rfl rfl rfl ?_
  refine SeqK.q (q_mvC rfl rfl) rfl rfl rfl ?_
  refine SeqK.callE rfl rfl rfl rfl Fx.fn54 rfl (nextFS _ k L n G hL) (fun _ _ h => by rw [h.1]; rfl) (fun x8 H8 q8 => ?_)
  obtain ⟨rfl, hH⟩ := q8
  subst hH
  refine SeqK.newAlloc (r := [_]) rfl rfl rfl Fx.ze61 rfl rfl rfl (fun k5 hk5 => ?_)
  refine SeqK.r (g_store rfl rfl Fx.ty61 rfl rfl (by (repeat rw [upd_ne _ _ (by first | assumption | exact Ne.symm (by assumption))]); first | assumption | exact upd_same _ _ _) rfl rfl rfl) rfl ?_
  refine SeqK.nil ?_
  refine AW.seq ?_
  refine AW.reg ?_
  refine SeqK.q (q_mkFn rfl rfl rfl) rfl rfl rfl ?_
  refine SeqK.q (q_asC rfl rfl) rfl rfl rfl ?_
  refine SeqK.nil ?_
  refine AW.ret ?_
  exact fin_x (x := .c _) (_) (.tmp rfl .nil) rfl (fun _ _ h => h) (⟨k5, hk5, rfl, by rw [upd_upd]; rfl⟩)

end Go.Proofs.Ytikcmjamioopbaa.W
