/- Parts of the proof, one after the other: Shelf, P1, P2, B1, W1, W2, W3, W4, W5. No condition. -/
import Derived.Test.YtfbdokfcebpkaaaDoorM12
import Derived.Shelf.Strings.Builder1
import Derived.Shelf.Small.Bits
import Derived.Shelf.Strings.BuilderF
import Derived.Shelf.Strings.BuilderK
import Derived.Shelf.Strconv.Itoa0
import Derived.Shelf.Strconv.Itoa1
import Derived.Shelf.LaysM
import Derived.Shelf.Strconv.Itoa2
import Derived.Shelf.Strconv.Itoa3
import Derived.Shelf.Strconv.Itoa4
import Derived.Shelf.Bits.Mul64
import Derived.Shelf.Slices.CompactI
import Derived.Shelf.Slices.SearchI
import Derived.Shelf.Slices.Cells
import Derived.Shelf.SortM.Plain
import Derived.Shelf.SortM.SortNone
import Derived.Test.YtfbdokfcebpkaaaDoorProg
/-
  DERIVED: THE SHELF's CONTRACTS AT THIS DUMP, IN PLAIN WORDS (tools/lay-plain.mjs out of 'TrydShelf.lean', which tools/lay-shelf.mjs wrote): THE SAME DECLARATIONS UNDER THE SAME NAMES: 'import', 'namespace', 'open', 'def', 'theorem' AND NOTHING ELSE: no command of the shelf's: FOR A HAND-IN. Each laying: the table of numbers ('.._ren') and one theorem, a field a fact of the dump's own or the kernel's comparison; each contract: ONE APPLICATION.
-/
namespace Go.Proofs
open Go.Shelf
def Tryd.lays283_ren : Go.Shelf.Ren := ⟨fun | 283 => 92 | n => n, fun | 3 => 3 | 9 => 9 | 4 => 4 | n => n, fun | n => n⟩
theorem Tryd.lays283 : Go.Proofs.Lays.n283 Tryd.prog Tryd.lays283_ren := {
  mixed := by kernel_rfl
  f283 := Tryd.func92.trans (congrArg some (by kernel_rfl))
  t3 := Tryd.underlying3
  a3 := Tryd.isAgg3
  z3 := Tryd.sizeOf3
  v3 := Tryd.zeroValue3
  t4 := Tryd.underlying4
  a4 := Tryd.isAgg4
  z4 := Tryd.sizeOf4
  v4 := Tryd.zeroValue4
  t9 := Tryd.underlying9
  a9 := Tryd.isAgg9
  z9 := Tryd.sizeOf9
  v9 := Tryd.zeroValue9 }
open Go.Lib in
/-- internal/strconv.small: "small returns the string for an i with 0 <= i < nSmalls.": i's decimal numeral. The world is as it was. (LAID: no walk: one application.) -/
theorem Tryd.internal_strconv_small (i : Nat) (h : i < 100) (w : World) :
    Calls Tryd.prog 92 #[.int .i64 i] w fun e w' => e = .returned (.string ⟨(Lib.decDigits i).toArray⟩) ∧ w' = w := Any.internal_strconv_small Tryd.lays283 i h w
def Tryd.laysM284_ren : Go.Shelf.Ren := ⟨fun | 284 => 93 | 129 => 107 | 317 => 108 | 318 => 109 | n => n, fun | 53 => 78 | 3 => 3 | 212 => 132 | 0 => 0 | 4 => 4 | 46 => 111 | 5 => 5 | 9 => 9 | n => n, fun | 17 => 0 | n => n⟩
theorem Tryd.laysM284 : Go.Proofs.LaysM.n284 Tryd.prog Tryd.laysM284_ren := {
  mixed := by kernel_rfl
  f129 := Tryd.func107.trans (congrArg some (by kernel_rfl))
  f284 := Tryd.func93.trans (congrArg some (by kernel_rfl))
  f317 := Tryd.func108.trans (congrArg some (by kernel_rfl))
  f318 := Tryd.func109.trans (congrArg some (by kernel_rfl))
  t0 := Tryd.underlying0
  a0 := Tryd.isAgg0
  z0 := Tryd.sizeOf0
  v0 := Tryd.zeroValue0
  t3 := Tryd.underlying3
  a3 := Tryd.isAgg3
  z3 := Tryd.sizeOf3
  v3 := Tryd.zeroValue3
  t4 := Tryd.underlying4
  a4 := Tryd.isAgg4
  z4 := Tryd.sizeOf4
  v4 := Tryd.zeroValue4
  t5 := Tryd.underlying5
  a5 := Tryd.isAgg5
  z5 := Tryd.sizeOf5
  v5 := Tryd.zeroValue5
  t9 := Tryd.underlying9
  a9 := Tryd.isAgg9
  z9 := Tryd.sizeOf9
  v9 := Tryd.zeroValue9
  t46 := Tryd.underlying111
  a46 := Tryd.isAgg111
  z46 := Tryd.sizeOf111
  v46 := Tryd.zeroValue111
  t53 := Tryd.underlying78
  a53 := Tryd.isAgg78
  z53 := Tryd.sizeOf78
  v53 := Tryd.zeroValue78
  t212 := Tryd.underlying132
  a212 := Tryd.isAgg132
  z212 := Tryd.sizeOf132
  v212 := Tryd.zeroValue132
  g17 := by kernel_rfl
  i0 := by kernel_rfl
  i3 := by kernel_rfl
  i4 := by kernel_rfl
  i5 := by kernel_rfl
  i9 := by kernel_rfl
  i46 := by kernel_rfl
  i53 := by kernel_rfl
  i212 := by kernel_rfl
  m17 := by kernel_rfl }
open Go.Lib in
/-- internal/strconv.numDigits, at a d that is not 0: THE NUMBER OF d's DECIMAL DIGITS. The world is as it was. (LAID: no walk: one application.) -/
theorem Tryd.internal_strconv_numDigits (u : Nat) (h1 : 1 ≤ u) (h2 : u < 18446744073709551616) (w : World) (htab : Lib.TabIs Tryd.prog w "internal/strconv.uint64pow10" .u64 Lib.pow10Tab) :
    Calls Tryd.prog 93 #[.int .u64 u] w fun e w' => e = .returned (.int .i64 (Lib.nDigits u)) ∧ w' = w := Any.internal_strconv_numDigits Tryd.laysM284 u h1 h2 w htab
def Tryd.lays285_ren : Go.Shelf.Ren := ⟨fun | 285 => 94 | n => n, fun | 37 => 68 | 53 => 78 | 3 => 3 | 4 => 4 | 51 => 129 | 9 => 9 | 5 => 5 | 0 => 0 | n => n, fun | n => n⟩
theorem Tryd.lays285 : Go.Proofs.Lays.n285 Tryd.prog Tryd.lays285_ren := {
  mixed := by kernel_rfl
  f285 := Tryd.func94.trans (congrArg some (by kernel_rfl))
  t0 := Tryd.underlying0
  a0 := Tryd.isAgg0
  z0 := Tryd.sizeOf0
  v0 := Tryd.zeroValue0
  t3 := Tryd.underlying3
  a3 := Tryd.isAgg3
  z3 := Tryd.sizeOf3
  v3 := Tryd.zeroValue3
  t4 := Tryd.underlying4
  a4 := Tryd.isAgg4
  z4 := Tryd.sizeOf4
  v4 := Tryd.zeroValue4
  t5 := Tryd.underlying5
  a5 := Tryd.isAgg5
  z5 := Tryd.sizeOf5
  v5 := Tryd.zeroValue5
  t9 := Tryd.underlying9
  a9 := Tryd.isAgg9
  z9 := Tryd.sizeOf9
  v9 := Tryd.zeroValue9
  t37 := Tryd.underlying68
  a37 := Tryd.isAgg68
  z37 := Tryd.sizeOf68
  v37 := Tryd.zeroValue68
  t51 := Tryd.underlying129
  a51 := Tryd.isAgg129
  z51 := Tryd.sizeOf129
  v51 := Tryd.zeroValue129
  t53 := Tryd.underlying78
  a53 := Tryd.isAgg78
  z53 := Tryd.sizeOf78
  v53 := Tryd.zeroValue78 }
open Go.RowKit Go.Sort Go.Lib in
/-- internal/strconv.formatBase10: "formatBase10 formats the decimal representation of u into a. The caller is responsible for ensuring that a is big enough to hold u. If a is too big, leading zeros will be filled in as needed.": THE ROW HOLDS u's DIGITS ('FmtInv .. 0 ..': every place t holds 'dg u (len - 1 - t)'); all else is as it was but for the count of draws. (LAID: no walk: one application.) -/
theorem Tryd.internal_strconv_formatBase10 (blk off cap : Nat) (u : Nat) (d : Array UInt8) (w : World) (hH : Holds (fun (b : UInt8) => Value.int .u8 (b.toNat : Int)) w blk off d) (hu : u < 10 ^ d.size) (hu64 : u < 18446744073709551616) (hsz : d.size < 4611686018427387904) :
    Calls Tryd.prog 94 #[.slice (some ⟨blk, off, none⟩) d.size cap, .int .u64 u] w fun e w' =>
      e = .returned (.tuple #[]) ∧ ∃ (n v' : Nat) (dk : Array UInt8), w' = (putRow (fun (b : UInt8) => Value.int .u8 (b.toNat : Int)) w blk off dk).drewN n ∧ FmtInv d.size u 0 v' dk := Any.internal_strconv_formatBase10 Tryd.lays285 blk off cap u d w hH hu hu64 hsz
def Tryd.laysM171_ren : Go.Shelf.Ren := ⟨fun | 171 => 80 | 243 => 90 | 246 => 91 | 283 => 92 | 284 => 93 | 285 => 94 | 286 => 95 | 129 => 107 | 317 => 108 | 318 => 109 | 319 => 110 | 320 => 111 | 337 => 118 | 338 => 119 | n => n, fun | 3 => 3 | 9 => 9 | 2 => 2 | 4 => 4 | 171 => 114 | 0 => 0 | 53 => 78 | 37 => 68 | 5 => 5 | 173 => 117 | 212 => 132 | 51 => 129 | 20 => 20 | 213 => 133 | 46 => 111 | 232 => 144 | 233 => 145 | n => n, fun | 17 => 0 | 18 => 1 | 19 => 2 | n => n⟩
theorem Tryd.laysM171 : Go.Proofs.LaysM.n171 Tryd.prog Tryd.laysM171_ren := {
  mixed := by kernel_rfl
  f129 := Tryd.func107.trans (congrArg some (by kernel_rfl))
  f171 := Tryd.func80.trans (congrArg some (by kernel_rfl))
  f243 := Tryd.func90.trans (congrArg some (by kernel_rfl))
  f246 := Tryd.func91.trans (congrArg some (by kernel_rfl))
  f283 := Tryd.func92.trans (congrArg some (by kernel_rfl))
  f284 := Tryd.func93.trans (congrArg some (by kernel_rfl))
  f285 := Tryd.func94.trans (congrArg some (by kernel_rfl))
  f286 := Tryd.func95.trans (congrArg some (by kernel_rfl))
  f317 := Tryd.func108.trans (congrArg some (by kernel_rfl))
  f318 := Tryd.func109.trans (congrArg some (by kernel_rfl))
  f319 := Tryd.func110.trans (congrArg some (by kernel_rfl))
  f320 := Tryd.func111.trans (congrArg some (by kernel_rfl))
  f337 := Tryd.func118.trans (congrArg some (by kernel_rfl))
  f338 := Tryd.func119.trans (congrArg some (by kernel_rfl))
  t0 := Tryd.underlying0
  a0 := Tryd.isAgg0
  z0 := Tryd.sizeOf0
  v0 := Tryd.zeroValue0
  t2 := Tryd.underlying2
  a2 := Tryd.isAgg2
  z2 := Tryd.sizeOf2
  v2 := Tryd.zeroValue2
  t3 := Tryd.underlying3
  a3 := Tryd.isAgg3
  z3 := Tryd.sizeOf3
  v3 := Tryd.zeroValue3
  t4 := Tryd.underlying4
  a4 := Tryd.isAgg4
  z4 := Tryd.sizeOf4
  v4 := Tryd.zeroValue4
  t5 := Tryd.underlying5
  a5 := Tryd.isAgg5
  z5 := Tryd.sizeOf5
  v5 := Tryd.zeroValue5
  t9 := Tryd.underlying9
  a9 := Tryd.isAgg9
  z9 := Tryd.sizeOf9
  v9 := Tryd.zeroValue9
  t20 := Tryd.underlying20
  a20 := Tryd.isAgg20
  z20 := Tryd.sizeOf20
  v20 := Tryd.zeroValue20
  t37 := Tryd.underlying68
  a37 := Tryd.isAgg68
  z37 := Tryd.sizeOf68
  v37 := Tryd.zeroValue68
  t46 := Tryd.underlying111
  a46 := Tryd.isAgg111
  z46 := Tryd.sizeOf111
  v46 := Tryd.zeroValue111
  t51 := Tryd.underlying129
  a51 := Tryd.isAgg129
  z51 := Tryd.sizeOf129
  v51 := Tryd.zeroValue129
  t53 := Tryd.underlying78
  a53 := Tryd.isAgg78
  z53 := Tryd.sizeOf78
  v53 := Tryd.zeroValue78
  t171 := Tryd.underlying114
  a171 := Tryd.isAgg114
  z171 := Tryd.sizeOf114
  v171 := Tryd.zeroValue114
  t173 := Tryd.underlying117
  a173 := Tryd.isAgg117
  z173 := Tryd.sizeOf117
  v173 := Tryd.zeroValue117
  t212 := Tryd.underlying132
  a212 := Tryd.isAgg132
  z212 := Tryd.sizeOf132
  v212 := Tryd.zeroValue132
  t213 := Tryd.underlying133
  a213 := Tryd.isAgg133
  z213 := Tryd.sizeOf133
  t232 := Tryd.underlying144
  a232 := Tryd.isAgg144
  z232 := Tryd.sizeOf144
  v232 := Tryd.zeroValue144
  t233 := Tryd.underlying145
  a233 := Tryd.isAgg145
  z233 := Tryd.sizeOf145
  v233 := Tryd.zeroValue145
  g17 := by kernel_rfl
  g18 := by kernel_rfl
  g19 := by kernel_rfl
  i0 := by kernel_rfl
  i2 := by kernel_rfl
  i3 := by kernel_rfl
  i4 := by kernel_rfl
  i5 := by kernel_rfl
  i9 := by kernel_rfl
  i20 := by kernel_rfl
  i37 := by kernel_rfl
  i46 := by kernel_rfl
  i51 := by kernel_rfl
  i53 := by kernel_rfl
  i171 := by kernel_rfl
  i173 := by kernel_rfl
  i212 := by kernel_rfl
  i232 := by kernel_rfl
  i233 := by kernel_rfl
  m17 := by kernel_rfl
  m18 := by kernel_rfl
  m19 := by kernel_rfl }
open Go.RowKit Go.Sort Go.Lib in
/-- strconv.Itoa: "Itoa is equivalent to FormatInt(int64(i), 10).": i's DECIMAL NUMERAL ('Lib.itoa': a '-' where i is negative, then the digits), FOR EVERY int. The world behind the call: the world before it, new blocks behind the heap (the library's 'var a [24]byte'), draws. (LAID: no walk: one application.) -/
theorem Tryd.strconv_Itoa (n : Int) (h0 : -9223372036854775808 ≤ n) (h1 : n ≤ 9223372036854775807) (w : World) (htab : Lib.TabIs Tryd.prog w "internal/strconv.uint64pow10" .u64 Lib.pow10Tab) :
    Calls Tryd.prog 80 #[.int .i64 n] w fun e w' => e = .returned (.string ⟨(Lib.itoa n).toArray⟩) ∧ ∃ k os, w' = grow (w.drewN k) os := Any.strconv_Itoa Tryd.laysM171 n h0 h1 w htab
def Tryd.lays171_ren : Go.Shelf.Ren := ⟨fun | 171 => 80 | 243 => 90 | 246 => 91 | 283 => 92 | 284 => 93 | 285 => 94 | 286 => 95 | 129 => 107 | 317 => 108 | 318 => 109 | 319 => 110 | 320 => 111 | 337 => 118 | 338 => 119 | n => n, fun | 3 => 3 | 9 => 9 | 2 => 2 | 4 => 4 | 171 => 114 | 0 => 0 | 53 => 78 | 37 => 68 | 5 => 5 | 173 => 117 | 212 => 132 | 51 => 129 | 20 => 20 | 213 => 133 | 46 => 111 | 232 => 144 | 233 => 145 | n => n, fun | 17 => 0 | 18 => 1 | 19 => 2 | n => n⟩
theorem Tryd.lays171 : Go.Proofs.Lays.n171 Tryd.prog Tryd.lays171_ren := {
  mixed := by kernel_rfl
  f129 := Tryd.func107.trans (congrArg some (by kernel_rfl))
  f171 := Tryd.func80.trans (congrArg some (by kernel_rfl))
  f243 := Tryd.func90.trans (congrArg some (by kernel_rfl))
  f246 := Tryd.func91.trans (congrArg some (by kernel_rfl))
  f283 := Tryd.func92.trans (congrArg some (by kernel_rfl))
  f284 := Tryd.func93.trans (congrArg some (by kernel_rfl))
  f285 := Tryd.func94.trans (congrArg some (by kernel_rfl))
  f286 := Tryd.func95.trans (congrArg some (by kernel_rfl))
  f317 := Tryd.func108.trans (congrArg some (by kernel_rfl))
  f318 := Tryd.func109.trans (congrArg some (by kernel_rfl))
  f319 := Tryd.func110.trans (congrArg some (by kernel_rfl))
  f320 := Tryd.func111.trans (congrArg some (by kernel_rfl))
  f337 := Tryd.func118.trans (congrArg some (by kernel_rfl))
  f338 := Tryd.func119.trans (congrArg some (by kernel_rfl))
  t0 := Tryd.underlying0
  a0 := Tryd.isAgg0
  z0 := Tryd.sizeOf0
  v0 := Tryd.zeroValue0
  t2 := Tryd.underlying2
  a2 := Tryd.isAgg2
  z2 := Tryd.sizeOf2
  v2 := Tryd.zeroValue2
  t3 := Tryd.underlying3
  a3 := Tryd.isAgg3
  z3 := Tryd.sizeOf3
  v3 := Tryd.zeroValue3
  t4 := Tryd.underlying4
  a4 := Tryd.isAgg4
  z4 := Tryd.sizeOf4
  v4 := Tryd.zeroValue4
  t5 := Tryd.underlying5
  a5 := Tryd.isAgg5
  z5 := Tryd.sizeOf5
  v5 := Tryd.zeroValue5
  t9 := Tryd.underlying9
  a9 := Tryd.isAgg9
  z9 := Tryd.sizeOf9
  v9 := Tryd.zeroValue9
  t20 := Tryd.underlying20
  a20 := Tryd.isAgg20
  z20 := Tryd.sizeOf20
  v20 := Tryd.zeroValue20
  t37 := Tryd.underlying68
  a37 := Tryd.isAgg68
  z37 := Tryd.sizeOf68
  v37 := Tryd.zeroValue68
  t46 := Tryd.underlying111
  a46 := Tryd.isAgg111
  z46 := Tryd.sizeOf111
  v46 := Tryd.zeroValue111
  t51 := Tryd.underlying129
  a51 := Tryd.isAgg129
  z51 := Tryd.sizeOf129
  v51 := Tryd.zeroValue129
  t53 := Tryd.underlying78
  a53 := Tryd.isAgg78
  z53 := Tryd.sizeOf78
  v53 := Tryd.zeroValue78
  t171 := Tryd.underlying114
  a171 := Tryd.isAgg114
  z171 := Tryd.sizeOf114
  v171 := Tryd.zeroValue114
  t173 := Tryd.underlying117
  a173 := Tryd.isAgg117
  z173 := Tryd.sizeOf117
  v173 := Tryd.zeroValue117
  t212 := Tryd.underlying132
  a212 := Tryd.isAgg132
  z212 := Tryd.sizeOf132
  v212 := Tryd.zeroValue132
  t213 := Tryd.underlying133
  a213 := Tryd.isAgg133
  z213 := Tryd.sizeOf133
  t232 := Tryd.underlying144
  a232 := Tryd.isAgg144
  z232 := Tryd.sizeOf144
  v232 := Tryd.zeroValue144
  t233 := Tryd.underlying145
  a233 := Tryd.isAgg145
  z233 := Tryd.sizeOf145
  v233 := Tryd.zeroValue145
  g17 := by kernel_rfl
  g18 := by kernel_rfl
  g19 := by kernel_rfl }
open Go.RowKit Go.Sort Go.Lib in
/-- THE ROAD WITHOUT THE TABLE: 0 <= i < 100: NO PREMISE ON THE WORLD, AND THE WORLD IS AS IT WAS: a row that keeps its argument in that range need list no table ('laid = []'). (LAID: no walk: one application.) -/
theorem Tryd.strconv_Itoa_small (i : Nat) (hi : i < 100) (w : World) :
    Calls Tryd.prog 80 #[.int .i64 i] w fun e w' => e = .returned (.string ⟨(Lib.decDigits i).toArray⟩) ∧ w' = w := Any.strconv_Itoa_small Tryd.lays171 i hi w
def Tryd.laysM173_ren : Go.Shelf.Ren := ⟨fun | 173 => 81 | 246 => 91 | 283 => 92 | 284 => 93 | 285 => 94 | 286 => 95 | 129 => 107 | 317 => 108 | 318 => 109 | 319 => 110 | 320 => 111 | 337 => 118 | 338 => 119 | n => n, fun | 2 => 2 | 3 => 3 | 9 => 9 | 4 => 4 | 171 => 114 | 0 => 0 | 53 => 78 | 37 => 68 | 5 => 5 | 173 => 117 | 212 => 132 | 51 => 129 | 20 => 20 | 213 => 133 | 46 => 111 | 232 => 144 | 233 => 145 | n => n, fun | 17 => 0 | 18 => 1 | 19 => 2 | n => n⟩
theorem Tryd.laysM173 : Go.Proofs.LaysM.n173 Tryd.prog Tryd.laysM173_ren := {
  mixed := by kernel_rfl
  f129 := Tryd.func107.trans (congrArg some (by kernel_rfl))
  f173 := Tryd.func81.trans (congrArg some (by kernel_rfl))
  f246 := Tryd.func91.trans (congrArg some (by kernel_rfl))
  f283 := Tryd.func92.trans (congrArg some (by kernel_rfl))
  f284 := Tryd.func93.trans (congrArg some (by kernel_rfl))
  f285 := Tryd.func94.trans (congrArg some (by kernel_rfl))
  f286 := Tryd.func95.trans (congrArg some (by kernel_rfl))
  f317 := Tryd.func108.trans (congrArg some (by kernel_rfl))
  f318 := Tryd.func109.trans (congrArg some (by kernel_rfl))
  f319 := Tryd.func110.trans (congrArg some (by kernel_rfl))
  f320 := Tryd.func111.trans (congrArg some (by kernel_rfl))
  f337 := Tryd.func118.trans (congrArg some (by kernel_rfl))
  f338 := Tryd.func119.trans (congrArg some (by kernel_rfl))
  t0 := Tryd.underlying0
  a0 := Tryd.isAgg0
  z0 := Tryd.sizeOf0
  v0 := Tryd.zeroValue0
  t2 := Tryd.underlying2
  a2 := Tryd.isAgg2
  z2 := Tryd.sizeOf2
  v2 := Tryd.zeroValue2
  t3 := Tryd.underlying3
  a3 := Tryd.isAgg3
  z3 := Tryd.sizeOf3
  v3 := Tryd.zeroValue3
  t4 := Tryd.underlying4
  a4 := Tryd.isAgg4
  z4 := Tryd.sizeOf4
  v4 := Tryd.zeroValue4
  t5 := Tryd.underlying5
  a5 := Tryd.isAgg5
  z5 := Tryd.sizeOf5
  v5 := Tryd.zeroValue5
  t9 := Tryd.underlying9
  a9 := Tryd.isAgg9
  z9 := Tryd.sizeOf9
  v9 := Tryd.zeroValue9
  t20 := Tryd.underlying20
  a20 := Tryd.isAgg20
  z20 := Tryd.sizeOf20
  v20 := Tryd.zeroValue20
  t37 := Tryd.underlying68
  a37 := Tryd.isAgg68
  z37 := Tryd.sizeOf68
  v37 := Tryd.zeroValue68
  t46 := Tryd.underlying111
  a46 := Tryd.isAgg111
  z46 := Tryd.sizeOf111
  v46 := Tryd.zeroValue111
  t51 := Tryd.underlying129
  a51 := Tryd.isAgg129
  z51 := Tryd.sizeOf129
  v51 := Tryd.zeroValue129
  t53 := Tryd.underlying78
  a53 := Tryd.isAgg78
  z53 := Tryd.sizeOf78
  v53 := Tryd.zeroValue78
  t171 := Tryd.underlying114
  a171 := Tryd.isAgg114
  z171 := Tryd.sizeOf114
  v171 := Tryd.zeroValue114
  t173 := Tryd.underlying117
  a173 := Tryd.isAgg117
  z173 := Tryd.sizeOf117
  v173 := Tryd.zeroValue117
  t212 := Tryd.underlying132
  a212 := Tryd.isAgg132
  z212 := Tryd.sizeOf132
  v212 := Tryd.zeroValue132
  t213 := Tryd.underlying133
  a213 := Tryd.isAgg133
  z213 := Tryd.sizeOf133
  t232 := Tryd.underlying144
  a232 := Tryd.isAgg144
  z232 := Tryd.sizeOf144
  v232 := Tryd.zeroValue144
  t233 := Tryd.underlying145
  a233 := Tryd.isAgg145
  z233 := Tryd.sizeOf145
  v233 := Tryd.zeroValue145
  g17 := by kernel_rfl
  g18 := by kernel_rfl
  g19 := by kernel_rfl
  i0 := by kernel_rfl
  i2 := by kernel_rfl
  i3 := by kernel_rfl
  i4 := by kernel_rfl
  i5 := by kernel_rfl
  i9 := by kernel_rfl
  i20 := by kernel_rfl
  i37 := by kernel_rfl
  i46 := by kernel_rfl
  i51 := by kernel_rfl
  i53 := by kernel_rfl
  i171 := by kernel_rfl
  i173 := by kernel_rfl
  i212 := by kernel_rfl
  i232 := by kernel_rfl
  i233 := by kernel_rfl
  m17 := by kernel_rfl
  m18 := by kernel_rfl
  m19 := by kernel_rfl }
open Go.RowKit Go.Sort Go.Lib in
/-- strconv.FormatInt: "FormatInt returns the string representation of i in the given base": AT BASE 10: i's decimal numeral, for every int64. (LAID: no walk: one application.) -/
theorem Tryd.strconv_FormatInt_10 (n : Int) (h0 : -9223372036854775808 ≤ n) (h1 : n ≤ 9223372036854775807) (w : World) (htab : Lib.TabIs Tryd.prog w "internal/strconv.uint64pow10" .u64 Lib.pow10Tab) :
    Calls Tryd.prog 81 #[.int .i64 n, .int .i64 10] w fun e w' => e = .returned (.string ⟨(Lib.itoa n).toArray⟩) ∧ ∃ k os, w' = grow (w.drewN k) os := Any.strconv_FormatInt_10 Tryd.laysM173 n h0 h1 w htab
def Tryd.lays173_ren : Go.Shelf.Ren := ⟨fun | 173 => 81 | 246 => 91 | 283 => 92 | 284 => 93 | 285 => 94 | 286 => 95 | 129 => 107 | 317 => 108 | 318 => 109 | 319 => 110 | 320 => 111 | 337 => 118 | 338 => 119 | n => n, fun | 2 => 2 | 3 => 3 | 9 => 9 | 4 => 4 | 171 => 114 | 0 => 0 | 53 => 78 | 37 => 68 | 5 => 5 | 173 => 117 | 212 => 132 | 51 => 129 | 20 => 20 | 213 => 133 | 46 => 111 | 232 => 144 | 233 => 145 | n => n, fun | 17 => 0 | 18 => 1 | 19 => 2 | n => n⟩
theorem Tryd.lays173 : Go.Proofs.Lays.n173 Tryd.prog Tryd.lays173_ren := {
  mixed := by kernel_rfl
  f129 := Tryd.func107.trans (congrArg some (by kernel_rfl))
  f173 := Tryd.func81.trans (congrArg some (by kernel_rfl))
  f246 := Tryd.func91.trans (congrArg some (by kernel_rfl))
  f283 := Tryd.func92.trans (congrArg some (by kernel_rfl))
  f284 := Tryd.func93.trans (congrArg some (by kernel_rfl))
  f285 := Tryd.func94.trans (congrArg some (by kernel_rfl))
  f286 := Tryd.func95.trans (congrArg some (by kernel_rfl))
  f317 := Tryd.func108.trans (congrArg some (by kernel_rfl))
  f318 := Tryd.func109.trans (congrArg some (by kernel_rfl))
  f319 := Tryd.func110.trans (congrArg some (by kernel_rfl))
  f320 := Tryd.func111.trans (congrArg some (by kernel_rfl))
  f337 := Tryd.func118.trans (congrArg some (by kernel_rfl))
  f338 := Tryd.func119.trans (congrArg some (by kernel_rfl))
  t0 := Tryd.underlying0
  a0 := Tryd.isAgg0
  z0 := Tryd.sizeOf0
  v0 := Tryd.zeroValue0
  t2 := Tryd.underlying2
  a2 := Tryd.isAgg2
  z2 := Tryd.sizeOf2
  v2 := Tryd.zeroValue2
  t3 := Tryd.underlying3
  a3 := Tryd.isAgg3
  z3 := Tryd.sizeOf3
  v3 := Tryd.zeroValue3
  t4 := Tryd.underlying4
  a4 := Tryd.isAgg4
  z4 := Tryd.sizeOf4
  v4 := Tryd.zeroValue4
  t5 := Tryd.underlying5
  a5 := Tryd.isAgg5
  z5 := Tryd.sizeOf5
  v5 := Tryd.zeroValue5
  t9 := Tryd.underlying9
  a9 := Tryd.isAgg9
  z9 := Tryd.sizeOf9
  v9 := Tryd.zeroValue9
  t20 := Tryd.underlying20
  a20 := Tryd.isAgg20
  z20 := Tryd.sizeOf20
  v20 := Tryd.zeroValue20
  t37 := Tryd.underlying68
  a37 := Tryd.isAgg68
  z37 := Tryd.sizeOf68
  v37 := Tryd.zeroValue68
  t46 := Tryd.underlying111
  a46 := Tryd.isAgg111
  z46 := Tryd.sizeOf111
  v46 := Tryd.zeroValue111
  t51 := Tryd.underlying129
  a51 := Tryd.isAgg129
  z51 := Tryd.sizeOf129
  v51 := Tryd.zeroValue129
  t53 := Tryd.underlying78
  a53 := Tryd.isAgg78
  z53 := Tryd.sizeOf78
  v53 := Tryd.zeroValue78
  t171 := Tryd.underlying114
  a171 := Tryd.isAgg114
  z171 := Tryd.sizeOf114
  v171 := Tryd.zeroValue114
  t173 := Tryd.underlying117
  a173 := Tryd.isAgg117
  z173 := Tryd.sizeOf117
  v173 := Tryd.zeroValue117
  t212 := Tryd.underlying132
  a212 := Tryd.isAgg132
  z212 := Tryd.sizeOf132
  v212 := Tryd.zeroValue132
  t213 := Tryd.underlying133
  a213 := Tryd.isAgg133
  z213 := Tryd.sizeOf133
  t232 := Tryd.underlying144
  a232 := Tryd.isAgg144
  z232 := Tryd.sizeOf144
  v232 := Tryd.zeroValue144
  t233 := Tryd.underlying145
  a233 := Tryd.isAgg145
  z233 := Tryd.sizeOf145
  v233 := Tryd.zeroValue145
  g17 := by kernel_rfl
  g18 := by kernel_rfl
  g19 := by kernel_rfl }
open Go.RowKit Go.Sort Go.Lib in
/-- THE ROAD WITHOUT THE TABLE: 0 <= i < 100. (LAID: no walk: one application.) -/
theorem Tryd.strconv_FormatInt_10_small (i : Nat) (hi : i < 100) (w : World) :
    Calls Tryd.prog 81 #[.int .i64 i, .int .i64 10] w fun e w' => e = .returned (.string ⟨(Lib.decDigits i).toArray⟩) ∧ w' = w := Any.strconv_FormatInt_10_small Tryd.lays173 i hi w
def Tryd.lays264_ren : Go.Shelf.Ren := ⟨fun | 264 => 86 | n => n, fun | 53 => 78 | 46 => 111 | n => n, fun | n => n⟩
theorem Tryd.lays264 : Go.Proofs.Lays.n264 Tryd.prog Tryd.lays264_ren := {
  mixed := by kernel_rfl
  f264 := Tryd.func86.trans (congrArg some (by kernel_rfl))
  t46 := Tryd.underlying111
  a46 := Tryd.isAgg111
  z46 := Tryd.sizeOf111
  v46 := Tryd.zeroValue111
  t53 := Tryd.underlying78
  a53 := Tryd.isAgg78
  z53 := Tryd.sizeOf78
  v53 := Tryd.zeroValue78 }
open Go.RowKit Go.Lib in
theorem Tryd.bits_Mul64 (x y : Nat) (hx : x < 18446744073709551616) (hy : y < 18446744073709551616) (w : World) :
    Calls Tryd.prog 86 #[.int .u64 x, .int .u64 y] w fun e w' => e = .returned (.tuple #[.int .u64 ((x * y / 18446744073709551616 : Nat) : Int), .int .u64 ((x * y % 18446744073709551616 : Nat) : Int)]) ∧ w' = w := Any.bits_Mul64 Tryd.lays264 x y hx hy w
end Go.Proofs
/- Linear terms, plainly: parts, bounds, the order, normal terms. Plain theorems. -/
namespace Go.Proofs.YtfbdokfcebpkaaaDoor.M
set_option linter.unusedVariables false
mutual
inductive Tm where
  | mk (c : Int) (ps : List Pt)
inductive Pt where
  | mk (coef kind var dv : Int) (of : List Tm)
end
@[reducible] def Tm.c : Tm → Int | .mk c _ => c
@[reducible] def Tm.ps : Tm → List Pt | .mk _ ps => ps
@[reducible] def Pt.coef : Pt → Int | .mk a _ _ _ _ => a
@[reducible] def Pt.kind : Pt → Int | .mk _ a _ _ _ => a
@[reducible] def Pt.var : Pt → Int | .mk _ _ a _ _ => a
@[reducible] def Pt.dv : Pt → Int | .mk _ _ _ a _ => a
@[reducible] def Pt.of : Pt → List Tm | .mk _ _ _ _ a => a
mutual
def Tm.dep : Tm → Nat
  | .mk _ ps => depPs ps + 1
def depPs : List Pt → Nat
  | [] => 0
  | p :: r => max p.dep (depPs r)
def Pt.dep : Pt → Nat
  | .mk _ _ _ _ of => depTs of
def depTs : List Tm → Nat
  | [] => 0
  | t :: r => max t.dep (depTs r)
end
mutual
def Tm.cnt : Tm → Nat
  | .mk _ ps => 1 + cntPs ps
def cntPs : List Pt → Nat
  | [] => 0
  | p :: r => 1 + p.cnt + cntPs r
def Pt.cnt : Pt → Nat
  | .mk _ _ _ _ of => cntTs of
def cntTs : List Tm → Nat
  | [] => 0
  | t :: r => t.cnt + cntTs r
end
theorem mem_dep {o : Tm} : ∀ {l : List Tm}, o ∈ l → o.dep ≤ depTs l
  | t :: r, h => by
    rcases List.mem_cons.1 h with rfl | h
    · simp only [depTs]; omega
    · have := mem_dep h; simp only [depTs]; omega
theorem mem_depP {p : Pt} : ∀ {l : List Pt}, p ∈ l → p.dep ≤ depPs l
  | t :: r, h => by
    rcases List.mem_cons.1 h with rfl | h
    · simp only [depPs]; omega
    · have := mem_depP h; simp only [depPs]; omega
theorem dep_of {t : Tm} {p : Pt} {o : Tm} (hp : p ∈ t.ps) (ho : o ∈ p.of) : o.dep < t.dep := by
  cases t with | mk c ps => cases p with | mk a k v b of =>
  have h1 := mem_depP hp
  have h2 := mem_dep ho
  simp only [Tm.dep, Pt.dep, Tm.ps, Pt.of] at *
  omega
theorem Tm.ind {motive : Tm → Prop} (h : ∀ t, (∀ p ∈ t.ps, ∀ o ∈ p.of, motive o) → motive t) (t : Tm) : motive t := by
  have key : ∀ n (t : Tm), t.dep < n → motive t := by
    intro n
    induction n with
    | zero => intro t ht; omega
    | succ n ih => intro t ht; exact h t fun p hp o ho => ih o (by have := dep_of hp ho; omega)
  exact key _ t (Nat.lt_succ_self _)
mutual
def bndT : Tm → Nat
  | .mk c ps => c.natAbs + bndPs ps
def bndPs : List Pt → Nat
  | [] => 0
  | p :: r => p.coef.natAbs * bndP p + bndPs r
def bndP : Pt → Nat
  | .mk _ k _ b of => if k = 1 then 16 else if k = 2 then bndO of / b.toNat + 1 else 2 ^ 31
def bndO : List Tm → Nat
  | [] => 0
  | t :: _ => bndT t
end
theorem cntPs_app {a b : List Pt} : cntPs (a ++ b) = cntPs a + cntPs b := by
  induction a with
  | nil => simp [cntPs]
  | cons p r ih => simp only [List.cons_append, cntPs, ih]; omega
theorem cntTs_app {a b : List Tm} : cntTs (a ++ b) = cntTs a + cntTs b := by
  induction a with
  | nil => simp [cntTs]
  | cons p r ih => simp only [List.cons_append, cntTs, ih]; omega
theorem Tm.cnt_eq (t : Tm) : t.cnt = 1 + cntPs t.ps := by cases t; rfl
theorem Pt.cnt_eq (p : Pt) : p.cnt = cntTs p.of := by cases p; rfl
theorem cntPs_take {l : List Pt} {i : Nat} (h : i < l.length) : cntPs (l.take (i + 1)) = cntPs (l.take i) + (1 + cntTs l[i].of) := by
  rw [List.take_succ_eq_append_getElem h, cntPs_app]; simp only [cntPs, Pt.cnt_eq]; omega
theorem cntTs_take {l : List Tm} {i : Nat} (h : i < l.length) : cntTs (l.take (i + 1)) = cntTs (l.take i) + l[i].cnt := by
  rw [List.take_succ_eq_append_getElem h, cntTs_app]; simp only [cntTs]; omega
/-! the bound -/
theorem bndT_eq (t : Tm) : bndT t = t.c.natAbs + bndPs t.ps := by cases t; rfl
theorem bndP_eq (p : Pt) : bndP p = if p.kind = 1 then 16 else if p.kind = 2 then bndO p.of / p.dv.toNat + 1 else 2 ^ 31 := by cases p; rfl
theorem bndPs_app {a b : List Pt} : bndPs (a ++ b) = bndPs a + bndPs b := by
  induction a with
  | nil => simp [bndPs]
  | cons p r ih => simp only [List.cons_append, bndPs, ih]; omega
theorem bndPs_take {l : List Pt} {i : Nat} (h : i < l.length) : bndPs (l.take (i + 1)) = bndPs (l.take i) + l[i].coef.natAbs * bndP l[i] := by
  rw [List.take_succ_eq_append_getElem h, bndPs_app]; simp only [bndPs]; omega
def smallB (t : Tm) : Bool := decide (t.c.natAbs ≤ 2 ^ 40) && t.ps.all (fun p => decide (p.coef.natAbs ≤ 2 ^ 20)) && decide (bndT t ≤ 2 ^ 60)
/-! the order -/
def ints (a b : Int) : Int := if a < b then -1 else if b < a then 1 else 0
mutual
def cmpT : Tm → Tm → Int
  | .mk c ps, b => cmpL ps b.ps (ints c b.c)
def cmpL : List Pt → List Pt → Int → Int
  | [], [], e => e
  | [], _ :: _, _ => -1
  | _ :: _, [], _ => 1
  | p :: r, q :: s, e => if cmpP p q ≠ 0 then cmpP p q else if p.coef ≠ q.coef then ints p.coef q.coef else cmpL r s e
def cmpP : Pt → Pt → Int
  | .mk _ k v b of, q => if k ≠ q.kind then ints k q.kind else if v ≠ q.var then ints v q.var else if b ≠ q.dv then ints b q.dv else cmpO of q.of
def cmpO : List Tm → List Tm → Int
  | [], [] => 0
  | [], _ :: _ => -1
  | _ :: _, [] => 1
  | o :: _, o' :: _ => cmpT o o'
end
theorem cmpT_eq (a b : Tm) : cmpT a b = cmpL a.ps b.ps (ints a.c b.c) := by cases a; rw [cmpT]
theorem cmpP_eq (p q : Pt) : cmpP p q = if p.kind ≠ q.kind then ints p.kind q.kind else if p.var ≠ q.var then ints p.var q.var else if p.dv ≠ q.dv then ints p.dv q.dv else cmpO p.of q.of := by cases p; rw [cmpP]
/-! normal terms -/
def ascB : List Pt → Bool
  | p :: q :: r => decide (cmpP p q < 0) && ascB (q :: r)
  | _ => true
mutual
def vldT : Tm → Bool
  | .mk c ps => vldPs ps && ascB ps && smallB (.mk c ps)
def vldPs : List Pt → Bool
  | [] => true
  | p :: r => vldP p && vldPs r
def vldP : Pt → Bool
  | .mk a k v b of => decide (a ≠ 0) && if k = 0 ∨ k = 1 then decide (0 ≤ v) && decide (b = 0) && of.isEmpty else decide (k = 2) && decide (v = 0) && decide (2 ≤ b) && decide (b ≤ 1000) && vldO of
def vldO : List Tm → Bool
  | [t] => !t.ps.isEmpty && vldT t
  | _ => false
end
theorem vldT_eq (t : Tm) : vldT t = (vldPs t.ps && ascB t.ps && smallB t) := by cases t; rfl
theorem vldP_eq (p : Pt) : vldP p = (decide (p.coef ≠ 0) && if p.kind = 0 ∨ p.kind = 1 then decide (0 ≤ p.var) && decide (p.dv = 0) && p.of.isEmpty else decide (p.kind = 2) && decide (p.var = 0) && decide (2 ≤ p.dv) && decide (p.dv ≤ 1000) && vldO p.of) := by cases p; rfl
theorem vldPs_iff {l : List Pt} : vldPs l = true ↔ ∀ p ∈ l, vldP p = true := by
  induction l with
  | nil => simp [vldPs]
  | cons p r ih => simp [vldPs, ih]
/-! shape: what the comparison needs -/
mutual
def finT : Tm → Prop
  | .mk _ ps => finPs ps
def finPs : List Pt → Prop
  | [] => True
  | p :: r => finP p ∧ finPs r
def finP : Pt → Prop
  | .mk _ k _ _ of => (of = [] ↔ k ≠ 2) ∧ finTs of
def finTs : List Tm → Prop
  | [] => True
  | t :: r => finT t ∧ finTs r
end
theorem finPs_iff {l : List Pt} : finPs l ↔ ∀ p ∈ l, finP p := by
  induction l with
  | nil => simp [finPs]
  | cons p r ih => simp [finPs, ih]
theorem finTs_iff {l : List Tm} : finTs l ↔ ∀ p ∈ l, finT p := by
  induction l with
  | nil => simp [finTs]
  | cons p r ih => simp [finTs, ih]
theorem finT_eq (t : Tm) : finT t ↔ ∀ p ∈ t.ps, finP p := by cases t; simp only [finT, finPs_iff]
theorem finP_eq (p : Pt) : finP p ↔ (p.of = [] ↔ p.kind ≠ 2) ∧ ∀ o ∈ p.of, finT o := by cases p; simp only [finP, finTs_iff]
theorem cntPs_mem {l : List Pt} {p : Pt} (h : p ∈ l) : 1 + p.cnt ≤ cntPs l := by
  induction l with
  | nil => cases h
  | cons q r ih =>
    simp only [cntPs]
    rcases List.mem_cons.1 h with rfl | h
    · omega
    · have := ih h; omega
theorem cntTs_mem {l : List Tm} {p : Tm} (h : p ∈ l) : p.cnt ≤ cntTs l := by
  induction l with
  | nil => cases h
  | cons q r ih =>
    simp only [cntTs]
    rcases List.mem_cons.1 h with rfl | h
    · omega
    · have := ih h; omega
theorem Tm.cnt_pos (t : Tm) : 1 ≤ t.cnt := by rw [Tm.cnt_eq]; omega
theorem cntPs_len (l : List Pt) : l.length ≤ cntPs l := by
  induction l with
  | nil => simp
  | cons q r ih => simp only [cntPs, List.length_cons]; omega
theorem cnt_of {t : Tm} {p : Pt} {o : Tm} (hp : p ∈ t.ps) (ho : o ∈ p.of) : o.cnt < t.cnt := by
  have h1 := cntPs_mem hp
  have h2 := cntTs_mem ho
  rw [Pt.cnt_eq] at h1
  rw [Tm.cnt_eq t]; omega
theorem len_ps (t : Tm) : t.ps.length < t.cnt := by rw [Tm.cnt_eq]; have := cntPs_len t.ps; omega
theorem vldP_fin {p : Pt} (h : vldP p = true) (hf : ∀ o ∈ p.of, vldT o = true → finT o) : finP p := by
  rw [vldP_eq] at h
  rw [finP_eq]
  split at h
  · rename_i hk
    simp only [Bool.and_eq_true, List.isEmpty_iff, decide_eq_true_eq] at h
    exact ⟨⟨fun _ => by omega, fun _ => h.2.2⟩, by rw [h.2.2]; simp⟩
  · simp only [Bool.and_eq_true, decide_eq_true_eq] at h
    obtain ⟨_, ⟨⟨h1, _⟩, h2⟩⟩ := h
    cases ho : p.of with
    | nil => rw [ho] at h2; simp [vldO] at h2
    | cons o r =>
      cases r with
      | cons o2 r2 => rw [ho] at h2; simp [vldO] at h2
      | nil =>
        rw [ho] at h2 hf
        simp only [vldO, Bool.and_eq_true] at h2
        refine ⟨by simp; omega, fun x hx => hf x hx ?_⟩
        simp at hx; subst hx; exact h2.2
theorem vldT_fin (t : Tm) : vldT t = true → finT t := by
  induction t using Tm.ind with
  | h t ih =>
    intro h
    rw [vldT_eq] at h
    simp only [Bool.and_eq_true] at h
    rw [finT_eq]
    intro p hp
    exact vldP_fin (vldPs_iff.1 h.1.1 p hp) fun o ho hv => ih p hp o ho hv
/-! the comparison by places -/
theorem ints_zero {a b : Int} : ints a b = 0 ↔ a = b := by unfold ints; split <;> (try split) <;> omega
def orI : List Int → Int
  | [] => 0
  | a :: r => if a ≠ 0 then a else orI r
theorem orI_at {l : List Int} {i : Nat} (h : i < l.length) (h0 : ∀ x ∈ l.take i, x = 0) (hi : l[i] ≠ 0) : orI l = l[i] := by
  induction l generalizing i with
  | nil => simp at h
  | cons a r ih =>
    cases i with
    | zero => simp only [List.getElem_cons_zero] at hi ⊢; simp only [orI, if_pos hi]
    | succ i =>
      have : a = 0 := h0 a (by simp)
      simp only [orI, this, ne_eq, not_true_eq_false, if_false, List.getElem_cons_succ]
      exact ih (by simpa using h) (fun x hx => h0 x (by simp [hx])) (by simpa using hi)
theorem orI_none {l : List Int} (h0 : ∀ x ∈ l, x = 0) : orI l = 0 := by
  induction l with
  | nil => rfl
  | cons a r ih =>
    have : a = 0 := h0 a (by simp)
    simp only [orI, this, ne_eq, not_true_eq_false, if_false]
    exact ih fun x hx => h0 x (by simp [hx])
theorem cmpL_step {a b : List Pt} {i : Nat} {e : Int} (ha : i < a.length) (hb : i < b.length) : cmpL (a.drop i) (b.drop i) e = if cmpP a[i] b[i] ≠ 0 then cmpP a[i] b[i] else if a[i].coef ≠ b[i].coef then ints a[i].coef b[i].coef else cmpL (a.drop (i + 1)) (b.drop (i + 1)) e := by
  rw [List.drop_eq_getElem_cons ha, List.drop_eq_getElem_cons hb, cmpL]
theorem cmpL_end {a b : List Pt} {i : Nat} {e : Int} (ha : i ≤ a.length) (hb : i ≤ b.length) (h : i = a.length ∨ i = b.length) : cmpL (a.drop i) (b.drop i) e = if (a.length : Int) ≠ b.length then ints a.length b.length else e := by
  rcases Nat.lt_trichotomy a.length b.length with hl | hl | hl
  · have hi : i = a.length := by omega
    subst hi
    rw [List.drop_length, List.drop_eq_getElem_cons (by omega), cmpL, if_pos (by omega)]
    unfold ints; rw [if_pos (by omega)]
  · have hi : i = a.length := by omega
    subst hi
    rw [List.drop_length, hl, List.drop_length, cmpL, if_neg (by omega)]
  · have hi : i = b.length := by omega
    subst hi
    rw [List.drop_length, List.drop_eq_getElem_cons (by omega), cmpL, if_pos (by omega)]
    unfold ints; rw [if_neg (by omega), if_pos (by omega)]
/-! bounds as they are computed -/
def cap (n : Nat) : Nat := min n (2 ^ 60 + 1)
theorem cap_le (n : Nat) : cap n ≤ 2 ^ 60 + 1 := Nat.min_le_right _ _
theorem cap_add (a b : Nat) : cap (cap a + cap b) = cap (a + b) := by unfold cap; omega
def bokP (p : Pt) : Prop := p.kind = 2 → (1 ≤ p.dv ∧ p.dv ≤ 1000) ∧ ∃ h : 0 < p.of.length, vldT p.of[0] = true
theorem vldP_bok {p : Pt} (h : vldP p = true) : bokP p := by
  intro hk
  rw [vldP_eq, if_neg (by omega)] at h
  simp only [Bool.and_eq_true, decide_eq_true_eq] at h
  obtain ⟨_, ⟨⟨_, h1⟩, h2⟩, h3⟩ := h
  refine ⟨⟨by omega, by omega⟩, ?_⟩
  cases ho : p.of with
  | nil => rw [ho] at h3; simp [vldO] at h3
  | cons o r =>
    cases r with
    | cons o2 r2 => rw [ho] at h3; simp [vldO] at h3
    | nil =>
      rw [ho] at h3
      simp only [vldO, Bool.and_eq_true] at h3
      exact ⟨by simp, h3.2⟩
structure bokT (t : Tm) : Prop where
  c : -9223372036854775808 ≤ t.c ∧ t.c ≤ 9223372036854775807
  coef : ∀ p ∈ t.ps, -9223372036854775808 ≤ p.coef ∧ p.coef ≤ 9223372036854775807
  part : ∀ p ∈ t.ps, bokP p
theorem vldT_small {t : Tm} (h : vldT t = true) : smallB t = true := by rw [vldT_eq] at h; simp only [Bool.and_eq_true] at h; exact h.2
theorem smallB_iff {t : Tm} : smallB t = true ↔ t.c.natAbs ≤ 2 ^ 40 ∧ (∀ p ∈ t.ps, p.coef.natAbs ≤ 2 ^ 20) ∧ bndT t ≤ 2 ^ 60 := by
  unfold smallB; simp [List.all_eq_true, and_assoc]
theorem vldT_bok {t : Tm} (h : vldT t = true) : bokT t := by
  have h1 := smallB_iff.1 (vldT_small h)
  rw [vldT_eq] at h
  simp only [Bool.and_eq_true] at h
  exact ⟨by omega, fun p hp => by have := h1.2.1 p hp; omega, fun p hp => vldP_bok (vldPs_iff.1 h.1.1 p hp)⟩
theorem bndO_eq {l : List Tm} (h : 0 < l.length) : bndO l = bndT l[0] := by
  cases l with
  | nil => simp at h
  | cons o r => rfl
theorem bokP_bnd {p : Pt} (h : bokP p) (hk : p.kind = 2) : ∃ h : 0 < p.of.length, bndT p.of[0] ≤ 2 ^ 60 ∧ bndP p = bndT p.of[0] / p.dv.toNat + 1 := by
  obtain ⟨_, h1, h2⟩ := h hk
  exact ⟨h1, (smallB_iff.1 (vldT_small h2)).2.2, by rw [bndP_eq, if_neg (by omega), if_pos hk, bndO_eq h1]⟩
theorem bokP_le {p : Pt} (h : bokP p) : bndP p ≤ 2 ^ 60 + 1 := by
  by_cases hk : p.kind = 2
  · obtain ⟨_, h1, h2⟩ := bokP_bnd h hk
    have := Nat.div_le_self (bndT p.of[0]) p.dv.toNat
    omega
  · rw [bndP_eq]; split <;> (try rw [if_neg hk]) <;> omega
/-! numbers in range -/
abbrev Rg (n : Int) : Prop := -9223372036854775808 ≤ n ∧ n ≤ 9223372036854775807
mutual
def rgT : Tm → Prop
  | .mk c ps => (Rg c ∧ ps.length ≤ 2 ^ 60) ∧ rgPs ps
def rgPs : List Pt → Prop
  | [] => True
  | p :: r => rgP p ∧ rgPs r
def rgP : Pt → Prop
  | .mk a k v b of => Rg a ∧ Rg k ∧ Rg v ∧ (Rg b ∧ of.length ≤ 2 ^ 60) ∧ rgTs of
def rgTs : List Tm → Prop
  | [] => True
  | t :: r => rgT t ∧ rgTs r
end
theorem rgPs_iff {l : List Pt} : rgPs l ↔ ∀ p ∈ l, rgP p := by
  induction l with
  | nil => simp [rgPs]
  | cons p r ih => simp [rgPs, ih]
theorem rgTs_iff {l : List Tm} : rgTs l ↔ ∀ p ∈ l, rgT p := by
  induction l with
  | nil => simp [rgTs]
  | cons p r ih => simp [rgTs, ih]
theorem rgT_eq (t : Tm) : rgT t ↔ (Rg t.c ∧ t.ps.length ≤ 2 ^ 60) ∧ ∀ p ∈ t.ps, rgP p := by cases t; simp only [rgT, rgPs_iff]
theorem rgP_eq (p : Pt) : rgP p ↔ Rg p.coef ∧ Rg p.kind ∧ Rg p.var ∧ (Rg p.dv ∧ p.of.length ≤ 2 ^ 60) ∧ ∀ o ∈ p.of, rgT o := by cases p; simp only [rgP, rgTs_iff]
/-! normal terms by places -/
theorem vldP_fin' {p : Pt} (h : vldP p = true) : finP p := vldP_fin h fun o _ hv => vldT_fin o hv
theorem ascB_iff : ∀ {l : List Pt}, ascB l = true ↔ ∀ j (h : j + 1 < l.length), cmpP l[j] l[j + 1] < 0
  | [] => by simp [ascB]
  | [p] => by simp [ascB]
  | p :: q :: r => by
    have ih := ascB_iff (l := q :: r)
    simp only [ascB, Bool.and_eq_true, decide_eq_true_eq, ih]
    constructor
    · rintro ⟨h1, h2⟩ j hj
      cases j with
      | zero => exact h1
      | succ j => exact h2 j (by simpa using hj)
    · intro h
      exact ⟨h 0 (by simp), fun j hj => h (j + 1) (by simpa using hj)⟩
theorem vld_no1 {t : Tm} {i : Nat} (hi : i < t.ps.length) (h : vldP t.ps[i] = false) : vldT t = false := by
  cases hv : vldT t with
  | false => rfl
  | true =>
    rw [vldT_eq] at hv
    simp only [Bool.and_eq_true] at hv
    rw [vldPs_iff.1 hv.1.1 _ (List.getElem_mem hi)] at h; cases h
theorem vld_no2 {t : Tm} {i : Nat} (hi : i < t.ps.length) (h0 : 0 < i) (h : 0 ≤ cmpP t.ps[i - 1] t.ps[i]) : vldT t = false := by
  cases hv : vldT t with
  | false => rfl
  | true =>
    rw [vldT_eq] at hv
    simp only [Bool.and_eq_true] at hv
    obtain ⟨j, rfl⟩ : ∃ j, i = j + 1 := ⟨i - 1, by omega⟩
    have := ascB_iff.1 hv.1.2 j hi
    simp only [Nat.add_sub_cancel] at h; omega
theorem vld_end {t : Tm} (h1 : ∀ p ∈ t.ps, vldP p = true) (h2 : ∀ j (h : j + 1 < t.ps.length), cmpP t.ps[j] t.ps[j + 1] < 0) : vldT t = smallB t := by
  rw [vldT_eq, vldPs_iff.2 h1, ascB_iff.2 h2]; rfl
theorem vldO_one {l : List Tm} (h0 : 0 < l.length) (h : l.length = 1) : vldO l = (decide (0 < l[0].ps.length) && vldT l[0]) := by
  match l, h with
  | [t], _ =>
    have e : ∀ l : List Pt, (!l.isEmpty) = decide (0 < l.length) := fun l => by cases l <;> simp
    simp only [vldO, List.getElem_cons_zero, e]
theorem vldO_ne {l : List Tm} (h : l.length ≠ 1) : vldO l = false := by
  match l, h with
  | [], _ => rfl
  | [t], h => simp at h
  | _ :: _ :: _, _ => rfl
/-! values -/
structure RV where
  k : Int
  n : Int
  s : ByteArray
end Go.Proofs.YtfbdokfcebpkaaaDoor.M
/- The order of terms is one: against itself, and along three. Plain theorems. -/
namespace Go.Proofs.YtfbdokfcebpkaaaDoor.M
set_option linter.unusedVariables false
def lex (a b : Int) : Int := if a ≠ 0 then a else b
theorem lex_neg (a b : Int) : lex (-a) (-b) = -lex a b := by unfold lex; split <;> split <;> omega
theorem ints_neg (a b : Int) : ints b a = -ints a b := by unfold ints; split <;> split <;> (try split) <;> omega
structure C3 (a b c : Int) : Prop where
  le : a ≤ 0 → b ≤ 0 → c ≤ 0
  ge : 0 ≤ a → 0 ≤ b → 0 ≤ c
  lt : a < 0 → b ≤ 0 → c < 0
  tl : a ≤ 0 → b < 0 → c < 0
  gt : 0 < a → 0 ≤ b → 0 < c
  tg : 0 ≤ a → 0 < b → 0 < c
theorem C3.lex {a b c a' b' c' : Int} (h : C3 a b c) (h' : C3 a' b' c') : C3 (M.lex a a') (M.lex b b') (M.lex c c') := by
  obtain ⟨h1, h2, h3, h4, h5, h6⟩ := h
  obtain ⟨k1, k2, k3, k4, k5, k6⟩ := h'
  unfold M.lex
  constructor <;> (split <;> split <;> split <;> omega)
theorem C3.ints (a b c : Int) : C3 (M.ints a b) (M.ints b c) (M.ints a c) := by
  unfold M.ints
  constructor <;> (split <;> (try split) <;> (try split) <;> (try split) <;> (try split) <;> (try split) <;> omega)
theorem cmpP_lex (p q : Pt) : cmpP p q = lex (ints p.kind q.kind) (lex (ints p.var q.var) (lex (ints p.dv q.dv) (cmpO p.of q.of))) := by
  rw [cmpP_eq]
  unfold lex
  by_cases h1 : p.kind = q.kind
  · by_cases h2 : p.var = q.var
    · by_cases h3 : p.dv = q.dv
      · simp [h1, h2, h3, ints_zero.2]
      · have := mt ints_zero.1 h3
        simp [h1, h2, h3, ints_zero.2, this]
    · have := mt ints_zero.1 h2
      simp [h1, h2, ints_zero.2, this]
  · have := mt ints_zero.1 h1
    simp [h1, this]
theorem cmpL_lex (p q : Pt) (r s : List Pt) (e : Int) : cmpL (p :: r) (q :: s) e = lex (cmpP p q) (lex (ints p.coef q.coef) (cmpL r s e)) := by
  rw [cmpL]
  unfold lex
  by_cases h2 : p.coef = q.coef
  · simp [h2, ints_zero.2]
  · have := mt ints_zero.1 h2
    simp [h2, this]
theorem cmpL_neg {l m : List Pt} (h : ∀ p ∈ l, ∀ q, cmpP q p = -cmpP p q) (e : Int) : cmpL m l (-e) = -cmpL l m e := by
  induction l generalizing m with
  | nil => cases m with
    | nil => rw [cmpL, cmpL]
    | cons q s => rw [cmpL, cmpL]; rfl
  | cons p r ih => cases m with
    | nil => rw [cmpL, cmpL]
    | cons q s => rw [cmpL_lex, cmpL_lex, h p (by simp), ints_neg p.coef, ih (fun x hx => h x (by simp [hx])), lex_neg, lex_neg]
theorem cmpO_neg {l m : List Tm} (h : ∀ o ∈ l, ∀ b, cmpT b o = -cmpT o b) : cmpO m l = -cmpO l m := by
  cases l with
  | nil => cases m with
    | nil => rw [cmpO]; rfl
    | cons q s => rw [cmpO, cmpO]; rfl
  | cons p r => cases m with
    | nil => rw [cmpO, cmpO]
    | cons q s => rw [cmpO, cmpO]; exact h p (by simp) q
theorem cmpT_neg (a : Tm) : ∀ b, cmpT b a = -cmpT a b := by
  induction a using Tm.ind with
  | h a ih =>
    intro b
    rw [cmpT_eq, cmpT_eq, ints_neg a.c b.c]
    refine cmpL_neg (fun p hp q => ?_) _
    rw [cmpP_lex, cmpP_lex, ints_neg p.kind, ints_neg p.var, ints_neg p.dv, cmpO_neg (fun o ho b => ih p hp o ho b), lex_neg, lex_neg, lex_neg]
theorem cmpT_self (a : Tm) : cmpT a a = 0 := by have := cmpT_neg a a; omega
end Go.Proofs.YtfbdokfcebpkaaaDoor.M
/- Values of linear terms as trees. -/
namespace Go.Proofs.YtfbdokfcebpkaaaDoor.W
open Go.RowKit E M
set_option linter.unusedVariables false
abbrev iC (n : Int) : C := .a (.t (.v (.int .i64 n)))
abbrev u64C (n : Nat) : C := .a (.t (.v (.int .u64 (n : Int))))
abbrev bC (b : Bool) : C := .a (.t (.v (.bool b)))
abbrev sC (s : ByteArray) : C := .a (.t (.v (.string s)))
abbrev i64T (n : Int) : List E.T := [.v (.int .i64 n)]
abbrev iL (z : Nz) (l : List Int) : C := .a (.t (.sl z 1 (l.map i64T)))
theorem w64 {n : Int} (h : -9223372036854775808 ≤ n) (h' : n ≤ 9223372036854775807) : IntKind.i64.wrap n = n := IntWalk.i64_in n ⟨h, h'⟩
theorem wu64 {n : Int} (h : 0 ≤ n) (h' : n < 18446744073709551616) : IntKind.u64.wrap n = n := by
  simp only [IntKind.wrap, IntKind.bits, IntKind.signed, Bool.false_and, Bool.false_eq_true, if_false]; omega
theorem wu64n {n : Int} (h : n < 0) (h' : -18446744073709551616 ≤ n) : IntKind.u64.wrap n = n + 18446744073709551616 := by
  simp only [IntKind.wrap, IntKind.bits, IntKind.signed, Bool.false_and, Bool.false_eq_true, if_false]; omega
abbrev R64 (n : Int) : Prop := -9223372036854775808 ≤ n ∧ n ≤ 9223372036854775807
mutual
def tmT : Tm → List E.T
  | .mk c ps => [.v (.int .i64 c), .sl .un 5 (ptsT ps)]
def ptsT : List Pt → List (List E.T)
  | [] => []
  | p :: r => ptT' p :: ptsT r
def ptT' : Pt → List E.T
  | .mk a k v b of => [.v (.int .i64 a), .v (.int .i64 k), .v (.int .i64 v), .v (.int .i64 b), .sl .un 2 (tmsT of)]
def tmsT : List Tm → List (List E.T)
  | [] => []
  | t :: r => tmT t :: tmsT r
end
theorem tmsT_map : ∀ l, tmsT l = l.map tmT
  | [] => rfl
  | t :: r => by rw [tmsT, tmsT_map r, List.map_cons]
abbrev ptT (p : Pt) : List E.T := [.v (.int .i64 p.coef), .v (.int .i64 p.kind), .v (.int .i64 p.var), .v (.int .i64 p.dv), .sl .un 2 (p.of.map tmT)]
theorem ptT_eq (p : Pt) : ptT' p = ptT p := by cases p; rw [ptT', tmsT_map]
theorem ptsT_map : ∀ l, ptsT l = l.map ptT
  | [] => rfl
  | p :: r => by rw [ptsT, ptsT_map r, ptT_eq, List.map_cons]
abbrev tmL (t : Tm) : List E.T := [.v (.int .i64 t.c), .sl .un 5 (t.ps.map ptT)]
theorem tmT_eq (t : Tm) : tmT t = tmL t := by cases t; rw [tmT, ptsT_map]
abbrev ptC (p : Pt) : C := .g [.t (.v (.int .i64 p.coef)), .t (.v (.int .i64 p.kind)), .t (.v (.int .i64 p.var)), .t (.v (.int .i64 p.dv)), .t (.sl .un 2 (p.of.map tmT))]
abbrev tmC (t : Tm) : C := .g [.t (.v (.int .i64 t.c)), .t (.sl .un 5 (t.ps.map ptT))]
theorem idx_map {α : Type} {f : α → List E.T} {l : List α} {i : Nat} (h : i < l.length) : (l.map f)[i]? = some (f l[i]) := by rw [List.getElem?_map, List.getElem?_eq_getElem h]; rfl
theorem idx_tm {l : List Tm} {i : Nat} (h : i < l.length) : (l.map tmT)[i]? = some (tmL l[i]) := by rw [List.getElem?_map, List.getElem?_eq_getElem h, Option.map_some, tmT_eq]
end Go.Proofs.YtfbdokfcebpkaaaDoor.W
namespace Go.Proofs.YtfbdokfcebpkaaaDoor.W
open Go.RowKit E M
set_option linter.unusedVariables false
set_option linter.unusedSimpArgs false
set_option linter.unusedSectionVars false
theorem tdiv_np {a b : Int} (ha : a ≤ 0) (hb : 0 ≤ b) : a.tdiv b ≤ 0 := by
  have := Int.tdiv_nonneg (a := -a) (b := b) (by omega) hb
  rw [Int.neg_tdiv] at this; omega
theorem tdiv_mul {a b : Int} (hb : 1 ≤ b) : (a.tdiv b * b).natAbs ≤ a.natAbs ∧ (a.tmod b < 0 ↔ a.tdiv b * b > a) ∧ (a < 0 → a.tdiv b * b ≤ 0) := by
  have h0 : a < 0 → a.tdiv b * b ≤ 0 := fun h => by
    have := Int.mul_le_mul_of_nonneg_right (tdiv_np (a := a) (b := b) (by omega) (by omega)) (show 0 ≤ b by omega)
    omega
  have h1 := Int.tdiv_mul_add_tmod a b
  have h2 : (a.tdiv b * b).natAbs = a.natAbs / b.natAbs * b.natAbs := by rw [Int.natAbs_mul, Int.natAbs_tdiv]; rfl
  have h3 := Nat.div_mul_le_self a.natAbs b.natAbs
  refine ⟨by omega, by omega, h0⟩
theorem tdiv_R {a b : Int} (hb : 1 ≤ b) (ha : R64 a) : -9223372036854775808 ≤ a.tdiv b ∧ a.tdiv b ≤ 9223372036854775807 ∧ (a.tdiv b * b > a → -9223372036854775808 < a.tdiv b) := by
  have h1 : (a.tdiv b).natAbs = a.natAbs / b.natAbs := Int.natAbs_tdiv _ _
  have h2 := Nat.div_le_self a.natAbs b.natAbs
  have h3 := (tdiv_mul (a := a) hb).1
  refine ⟨by omega, ?_, fun h => ?_⟩
  · by_cases h : a < 0
    · have := tdiv_np (a := a) (b := b) (by omega) (by omega); omega
    · omega
  · by_cases h4 : a < 0
    · by_cases h5 : b < 2
      · have : b = 1 := by omega
        subst this; simp at h
      · have : a.natAbs / b.natAbs < a.natAbs := Nat.div_lt_self (by omega) (by omega)
        omega
    · have := Int.tdiv_nonneg (a := a) (b := b) (by omega) (show 0 ≤ b by omega); omega
theorem tdiv_floor {a b : Int} (hb : 1 ≤ b) : (a.tdiv b * b > a → a.tdiv b - 1 = a / b) ∧ (¬ a.tdiv b * b > a → a.tdiv b = a / b) := by
  have h1 := Int.tdiv_mul_add_tmod a b
  have h2 := Int.ediv_mul_add_emod a b
  have h3 := Int.emod_nonneg a (show b ≠ 0 by omega)
  have h4 := Int.emod_lt_of_pos a (show 0 < b by omega)
  have h5 := Int.tmod_lt_of_pos a (show 0 < b by omega)
  have h6 : -b < a.tmod b := by
    have := Int.lt_tmod_of_pos a (show 0 < b by omega)
    omega
  refine ⟨fun h => ?_, fun h => ?_⟩
  · refine (Int.ediv_eq_iff_of_pos (show 0 < b by omega)).2 ⟨?_, ?_⟩ |>.symm <;> grind
  · refine (Int.ediv_eq_iff_of_pos (show 0 < b by omega)).2 ⟨?_, ?_⟩ |>.symm <;> grind

set_option maxRecDepth 20000 in
theorem abs_any (n : Int) (hn : R64 n) : Pure Tryd.prog 50 [iC n] (.c (u64C n.natAbs)) := by
  intro H
  refine Spec.enter Tryd.func50 rfl ?_
  refine AW.wk (Wk.keep 10 [(0, .c (iC n))] [] (H) rfl ⟨rfl, trivial⟩ trivial (fun _ _ h => h) rfl) ?_
  refine AW.seq ?_
  refine AW.reg ?_
  refine SeqK.q (q_asC rfl rfl) rfl rfl rfl ?_
  refine SeqK.nil ?_
  refine AW.seq ?_
  refine AW.seq ?_
  refine AW.reg ?_
  refine SeqK.q (q_mvC rfl rfl) rfl rfl rfl ?_
  refine SeqK.q (q_lss rfl rfl rfl) rfl rfl rfl ?_
  refine SeqK.nil ?_
  refine AW.condD rfl (fun h4 => ?_) (fun h4 => ?_)
  ·
    refine AW.seq ?_
    refine AW.reg ?_
    refine SeqK.q (q_mvC rfl rfl) rfl rfl rfl ?_
    refine SeqK.q (q_conv _ rfl Fx.un78 rfl (wu64n h4 (by omega)) ⟨_, Fx.un2⟩) rfl rfl rfl ?_
    refine SeqK.q (q_neg _ rfl rfl ((by rw [wu64n (by omega) (by omega)]; omega : IntKind.u64.wrap _ = ((n.natAbs : Nat) : Int)))) rfl rfl rfl ?_
    refine SeqK.q (q_asC rfl rfl) rfl rfl rfl ?_
    refine SeqK.nil ?_
    refine AW.ret ?_
    exact fin_x (x := .c _) H (.tmp rfl .nil) rfl (fun _ _ h => h) ⟨rfl, rfl⟩
  ·
    refine AW.skip ?_
    refine AW.seq ?_
    refine AW.reg ?_
    refine SeqK.q (q_mvC rfl rfl) rfl rfl rfl ?_
    refine SeqK.q (q_conv _ rfl Fx.un78 rfl ((by rw [wu64 (by omega) (by omega)]; omega : IntKind.u64.wrap _ = ((n.natAbs : Nat) : Int))) ⟨_, Fx.un2⟩) rfl rfl rfl ?_
    refine SeqK.q (q_asC rfl rfl) rfl rfl rfl ?_
    refine SeqK.nil ?_
    refine AW.ret ?_
    exact fin_x (x := .c _) H (.tmp rfl .nil) rfl (fun _ _ h => h) ⟨rfl, rfl⟩

set_option maxRecDepth 20000 in
theorem rabs_any (n : Int) (hn : -9223372036854775808 < n ∧ n ≤ 9223372036854775807) : Pure Tryd.prog 54 [iC n] (.c (iC (n.natAbs : Int))) := by
  intro H
  refine Spec.enter Tryd.func54 rfl ?_
  refine AW.wk (Wk.keep 8 [(0, .c (iC n))] [] (H) rfl ⟨rfl, trivial⟩ trivial (fun _ _ h => h) rfl) ?_
  refine AW.seq ?_
  refine AW.reg ?_
  refine SeqK.q (q_asC rfl rfl) rfl rfl rfl ?_
  refine SeqK.nil ?_
  refine AW.seq ?_
  refine AW.seq ?_
  refine AW.reg ?_
  refine SeqK.q (q_mvC rfl rfl) rfl rfl rfl ?_
  refine SeqK.q (q_lss rfl rfl rfl) rfl rfl rfl ?_
  refine SeqK.nil ?_
  refine AW.condD rfl (fun h4 => ?_) (fun h4 => ?_)
  ·
    refine AW.seq ?_
    refine AW.reg ?_
    refine SeqK.q (q_mvC rfl rfl) rfl rfl rfl ?_
    refine SeqK.q (q_neg _ rfl rfl ((by rw [w64 (by omega) (by omega)]; omega : IntKind.i64.wrap _ = ((n.natAbs : Nat) : Int)))) rfl rfl rfl ?_
    refine SeqK.q (q_asC rfl rfl) rfl rfl rfl ?_
    refine SeqK.nil ?_
    refine AW.ret ?_
    exact fin_x (x := .c _) (H) (.tmp rfl .nil) rfl (fun _ _ h => h) (⟨rfl, rfl⟩)
  ·
    refine AW.skip ?_
    refine AW.seq ?_
    refine AW.reg ?_
    refine SeqK.q (q_mvC rfl rfl) rfl rfl rfl ?_
    refine SeqK.q (q_asC rfl rfl) rfl rfl rfl ?_
    refine SeqK.nil ?_
    refine AW.ret ?_
    have e : n = (n.natAbs : Int) := by omega
    exact fin_x (x := .c _) (H) (.tmp rfl .nil) rfl (fun _ _ h => h) (⟨by rw [← e], rfl⟩)

set_option maxRecDepth 20000 in
theorem within_any (n a b : Int) : Pure Tryd.prog 58 [iC n, iC a, iC b] (.c (bC (decide (a ≤ n ∧ n ≤ b)))) := by
  intro H
  refine Spec.enter Tryd.func58 rfl ?_
  refine AW.wk (Wk.keep 15 [(0, .c (iC n)), (1, .c (iC a)), (2, .c (iC b))] [] (H) rfl ⟨rfl, rfl, rfl, trivial⟩ trivial (fun _ _ h => h) rfl) ?_
  refine AW.seq ?_
  refine AW.reg ?_
  refine SeqK.q (q_asC rfl rfl) rfl rfl rfl ?_
  refine SeqK.nil ?_
  refine AW.seq ?_
  refine AW.reg ?_
  refine SeqK.q (q_mvC rfl rfl) rfl rfl rfl ?_
  refine SeqK.q (q_mvC rfl rfl) rfl rfl rfl ?_
  refine SeqK.q (q_geq rfl rfl rfl) rfl rfl rfl ?_
  refine SeqK.qD (q_mvC rfl rfl) rfl rfl rfl (fun g10 => ?_) (fun g10 => ?_)
  ·
    refine SeqK.on (q_mvC rfl rfl) rfl rfl rfl rfl rfl ?_
    refine SeqK.on (q_mvC rfl rfl) rfl rfl rfl rfl rfl ?_
    refine SeqK.on (q_leq rfl rfl rfl) rfl rfl rfl rfl rfl ?_
    refine SeqK.q (q_pkT rfl rfl rfl) rfl rfl rfl ?_
    refine SeqK.q (q_asC rfl rfl) rfl rfl rfl ?_
    refine SeqK.nil ?_
    refine AW.ret ?_
    exact fin_x (x := .c _) (H) (.tmp rfl .nil) rfl (fun _ _ h => h) (⟨by simp_all <;> omega, rfl⟩)
  ·
    refine SeqK.off rfl rfl rfl rfl rfl rfl ?_
    refine SeqK.off rfl rfl rfl rfl rfl rfl ?_
    refine SeqK.off rfl rfl rfl rfl rfl rfl ?_
    refine SeqK.q (q_pkF rfl rfl rfl) rfl rfl rfl ?_
    refine SeqK.q (q_asC rfl rfl) rfl rfl rfl ?_
    refine SeqK.nil ?_
    refine AW.ret ?_
    exact fin_x (x := .c _) (H) (.tmp rfl .nil) rfl (fun _ _ h => h) (⟨by simp_all <;> omega, rfl⟩)

set_option maxRecDepth 20000 in
theorem floor_any (a b : Int) (hn : R64 a) (hb : 1 ≤ b) : Pure Tryd.prog 73 [iC a, iC b] (.c (iC (a / b))) := by
  intro H
  refine Spec.enter Tryd.func73 rfl ?_
  refine AW.wk (Wk.keep 16 [(0, .c (iC a)), (1, .c (iC b))] [] (H) rfl ⟨rfl, rfl, trivial⟩ trivial (fun _ _ h => h) rfl) ?_
  refine AW.seq ?_
  refine AW.reg ?_
  refine SeqK.q (q_asC rfl rfl) rfl rfl rfl ?_
  refine SeqK.nil ?_
  refine AW.seq ?_
  have hb1 : (0:Int) < b := by omega
  have hq := tdiv_floor (a := a) hb
  have hm := tdiv_mul (a := a) hb
  have hd := tdiv_R (a := a) hb hn
  refine AW.reg ?_
  refine SeqK.q (q_mvC rfl rfl) rfl rfl rfl ?_
  refine SeqK.q (q_mvC rfl rfl) rfl rfl rfl ?_
  refine SeqK.q (q_quo _ rfl rfl rfl (by omega) (w64 (by omega) (by omega))) rfl rfl rfl ?_
  refine SeqK.q (q_asC rfl rfl) rfl rfl rfl ?_
  refine SeqK.nil ?_
  refine AW.seq ?_
  refine AW.seq ?_
  refine AW.reg ?_
  refine SeqK.q (q_mvC rfl rfl) rfl rfl rfl ?_
  refine SeqK.q (q_mvC rfl rfl) rfl rfl rfl ?_
  refine SeqK.q (q_rem rfl rfl rfl (by omega)) rfl rfl rfl ?_
  refine SeqK.q (q_lss rfl rfl rfl) rfl rfl rfl ?_
  refine SeqK.nil ?_
  refine AW.condD rfl (fun h12 => ?_) (fun h12 => ?_)
  ·
    refine AW.reg ?_
    refine SeqK.q (q_mvC rfl rfl) rfl rfl rfl ?_
    refine SeqK.q (q_sub _ rfl rfl rfl (w64 (by omega) (by omega))) rfl rfl rfl ?_
    refine SeqK.q (q_asC rfl rfl) rfl rfl rfl ?_
    refine SeqK.nil ?_
    refine AW.seq ?_
    refine AW.reg ?_
    refine SeqK.q (q_mvC rfl rfl) rfl rfl rfl ?_
    refine SeqK.q (q_asC rfl rfl) rfl rfl rfl ?_
    refine SeqK.nil ?_
    refine AW.ret ?_
    exact fin_x (x := .c _) (H) (.tmp rfl .nil) rfl (fun _ _ h => h) (⟨by rw [hq.1 (by omega)], rfl⟩)
  ·
    refine AW.skip ?_
    refine AW.seq ?_
    refine AW.reg ?_
    refine SeqK.q (q_mvC rfl rfl) rfl rfl rfl ?_
    refine SeqK.q (q_asC rfl rfl) rfl rfl rfl ?_
    refine SeqK.nil ?_
    refine AW.ret ?_
    exact fin_x (x := .c _) (H) (.tmp rfl .nil) rfl (fun _ _ h => h) (⟨by rw [hq.2 (by omega)], rfl⟩)

set_option maxRecDepth 20000 in
theorem ints_any (a b : Int) : Pure Tryd.prog 45 [iC a, iC b] (.c (iC (ints a b))) := by
  intro H
  refine Spec.enter Tryd.func45 rfl ?_
  refine AW.wk (Wk.keep 11 [(0, .c (iC a)), (1, .c (iC b))] [] (H) rfl ⟨rfl, rfl, trivial⟩ trivial (fun _ _ h => h) rfl) ?_
  refine AW.seq ?_
  refine AW.reg ?_
  refine SeqK.q (q_asC rfl rfl) rfl rfl rfl ?_
  refine SeqK.nil ?_
  refine AW.seq ?_
  refine AW.seq ?_
  refine AW.reg ?_
  refine SeqK.q (q_mvC rfl rfl) rfl rfl rfl ?_
  refine SeqK.q (q_mvC rfl rfl) rfl rfl rfl ?_
  refine SeqK.q (q_lss rfl rfl rfl) rfl rfl rfl ?_
  refine SeqK.nil ?_
  refine AW.condD rfl (fun h7 => ?_) (fun h7 => ?_)
  ·
    refine AW.seq ?_
    refine AW.reg ?_
    refine SeqK.q (q_asC rfl rfl) rfl rfl rfl ?_
    refine SeqK.nil ?_
    refine AW.ret ?_
    exact fin_x (x := .c _) (H) (.tmp rfl .nil) rfl (fun _ _ h => h) (⟨by simp [ints, *], rfl⟩)
  ·
    refine AW.skip ?_
    refine AW.seq ?_
    refine AW.seq ?_
    refine AW.reg ?_
    refine SeqK.q (q_mvC rfl rfl) rfl rfl rfl ?_
    refine SeqK.q (q_mvC rfl rfl) rfl rfl rfl ?_
    refine SeqK.q (q_gtr rfl rfl rfl) rfl rfl rfl ?_
    refine SeqK.nil ?_
    refine AW.condD rfl (fun h10 => ?_) (fun h10 => ?_)
    ·
      refine AW.seq ?_
      refine AW.reg ?_
      refine SeqK.q (q_asC rfl rfl) rfl rfl rfl ?_
      refine SeqK.nil ?_
      refine AW.ret ?_
      exact fin_x (x := .c _) (H) (.tmp rfl .nil) rfl (fun _ _ h => h) (⟨by simp [ints, *], rfl⟩)
    ·
      refine AW.skip ?_
      refine AW.seq ?_
      refine AW.reg ?_
      refine SeqK.q (q_asC rfl rfl) rfl rfl rfl ?_
      refine SeqK.nil ?_
      refine AW.ret ?_
      exact fin_x (x := .c _) (H) (.tmp rfl .nil) rfl (fun _ _ h => h) (⟨by simp [ints, *], rfl⟩)

set_option maxRecDepth 20000 in
theorem nan2_any (a : Int) : Pure Tryd.prog 77 [iC a] (.c (bC false)) := by
  intro H
  refine Spec.enter Tryd.func77 rfl ?_
  refine AW.wk (Wk.keep 6 [(0, .c (iC a))] [] (H) rfl ⟨rfl, trivial⟩ trivial (fun _ _ h => h) rfl) ?_
  refine AW.seq ?_
  refine AW.reg ?_
  refine SeqK.q (q_asC rfl rfl) rfl rfl rfl ?_
  refine SeqK.nil ?_
  refine AW.seq ?_
  refine AW.reg ?_
  refine SeqK.q (q_mvC rfl rfl) rfl rfl rfl ?_
  refine SeqK.q (q_mvC rfl rfl) rfl rfl rfl ?_
  refine SeqK.q (q_neq rfl rfl rfl) rfl rfl rfl ?_
  refine SeqK.q (q_asC rfl rfl) rfl rfl rfl ?_
  refine SeqK.nil ?_
  refine AW.ret ?_
  exact fin_x (x := .c _) (H) (.tmp rfl .nil) rfl (fun _ _ h => h) (⟨by simp, rfl⟩)

set_option maxRecDepth 20000 in
theorem nan3_any (a : Int) : Pure Tryd.prog 78 [iC a] (.c (bC false)) := by
  intro H
  refine Spec.enter Tryd.func78 rfl ?_
  refine AW.wk (Wk.keep 6 [(0, .c (iC a))] [] (H) rfl ⟨rfl, trivial⟩ trivial (fun _ _ h => h) rfl) ?_
  refine AW.seq ?_
  refine AW.reg ?_
  refine SeqK.q (q_asC rfl rfl) rfl rfl rfl ?_
  refine SeqK.nil ?_
  refine AW.seq ?_
  refine AW.reg ?_
  refine SeqK.q (q_mvC rfl rfl) rfl rfl rfl ?_
  refine SeqK.q (q_mvC rfl rfl) rfl rfl rfl ?_
  refine SeqK.q (q_neq rfl rfl rfl) rfl rfl rfl ?_
  refine SeqK.q (q_asC rfl rfl) rfl rfl rfl ?_
  refine SeqK.nil ?_
  refine AW.ret ?_
  exact fin_x (x := .c _) (H) (.tmp rfl .nil) rfl (fun _ _ h => h) (⟨by simp, rfl⟩)

set_option maxRecDepth 20000 in
theorem cmp2_any (a b : Int) : Pure Tryd.prog 42 [iC a, iC b] (.c (iC (ints a b))) := by
  intro H
  refine Spec.enter Tryd.func42 rfl ?_
  refine AW.wk (Wk.keep 20 [(0, .c (iC a)), (1, .c (iC b))] [] (H) rfl ⟨rfl, rfl, trivial⟩ trivial (fun _ _ h => h) rfl) ?_
  refine AW.seq ?_
  refine AW.reg ?_
  refine SeqK.q (q_asC rfl rfl) rfl rfl rfl ?_
  refine SeqK.nil ?_
  refine AW.seq ?_
  refine AW.reg ?_
  refine SeqK.q (q_mvC rfl rfl) rfl rfl rfl ?_
  refine SeqK.q (q_call _ rfl Fx.fn77 rfl (nan2_any _) rfl) rfl rfl rfl ?_
  refine SeqK.q (q_asC rfl rfl) rfl rfl rfl ?_
  refine SeqK.nil ?_
  refine AW.seq ?_
  refine AW.reg ?_
  refine SeqK.q (q_mvC rfl rfl) rfl rfl rfl ?_
  refine SeqK.q (q_call _ rfl Fx.fn77 rfl (nan2_any _) rfl) rfl rfl rfl ?_
  refine SeqK.q (q_asC rfl rfl) rfl rfl rfl ?_
  refine SeqK.nil ?_
  refine AW.seq ?_
  refine AW.seq ?_
  refine AW.reg ?_
  refine SeqK.q (q_mvC rfl rfl) rfl rfl rfl ?_
  refine SeqK.nil ?_
  refine AW.condF rfl ?_
  refine AW.skip ?_
  refine AW.seq ?_
  refine AW.seq ?_
  refine AW.reg ?_
  refine SeqK.q (q_mvC rfl rfl) rfl rfl rfl ?_
  refine SeqK.nil ?_
  refine AW.condF rfl ?_
  refine AW.skip ?_
  refine AW.seq ?_
  refine AW.seq ?_
  refine AW.reg ?_
  refine SeqK.q (q_mvC rfl rfl) rfl rfl rfl ?_
  refine SeqK.q (q_mvC rfl rfl) rfl rfl rfl ?_
  refine SeqK.q (q_lss rfl rfl rfl) rfl rfl rfl ?_
  refine SeqK.nil ?_
  refine AW.condD rfl (fun h16 => ?_) (fun h16 => ?_)
  ·
    refine AW.seq ?_
    refine AW.reg ?_
    refine SeqK.q (q_asC rfl rfl) rfl rfl rfl ?_
    refine SeqK.nil ?_
    refine AW.ret ?_
    exact fin_x (x := .c _) (H) (.tmp rfl .nil) rfl (fun _ _ h => h) (⟨by simp [ints, *], rfl⟩)
  ·
    refine AW.skip ?_
    refine AW.seq ?_
    refine AW.seq ?_
    refine AW.reg ?_
    refine SeqK.q (q_mvC rfl rfl) rfl rfl rfl ?_
    refine SeqK.q (q_mvC rfl rfl) rfl rfl rfl ?_
    refine SeqK.q (q_gtr rfl rfl rfl) rfl rfl rfl ?_
    refine SeqK.nil ?_
    refine AW.condD rfl (fun h19 => ?_) (fun h19 => ?_)
    ·
      refine AW.seq ?_
      refine AW.reg ?_
      refine SeqK.q (q_asC rfl rfl) rfl rfl rfl ?_
      refine SeqK.nil ?_
      refine AW.ret ?_
      exact fin_x (x := .c _) (H) (.tmp rfl .nil) rfl (fun _ _ h => h) (⟨by simp [ints, *], rfl⟩)
    ·
      refine AW.skip ?_
      refine AW.seq ?_
      refine AW.reg ?_
      refine SeqK.q (q_asC rfl rfl) rfl rfl rfl ?_
      refine SeqK.nil ?_
      refine AW.ret ?_
      exact fin_x (x := .c _) (H) (.tmp rfl .nil) rfl (fun _ _ h => h) (⟨by simp [ints, *], rfl⟩)

set_option maxRecDepth 20000 in
theorem cmp3_any (a b : Int) : Pure Tryd.prog 43 [iC a, iC b] (.c (iC (ints a b))) := by
  intro H
  refine Spec.enter Tryd.func43 rfl ?_
  refine AW.wk (Wk.keep 20 [(0, .c (iC a)), (1, .c (iC b))] [] (H) rfl ⟨rfl, rfl, trivial⟩ trivial (fun _ _ h => h) rfl) ?_
  refine AW.seq ?_
  refine AW.reg ?_
  refine SeqK.q (q_asC rfl rfl) rfl rfl rfl ?_
  refine SeqK.nil ?_
  refine AW.seq ?_
  refine AW.reg ?_
  refine SeqK.q (q_mvC rfl rfl) rfl rfl rfl ?_
  refine SeqK.q (q_call _ rfl Fx.fn78 rfl (nan3_any _) rfl) rfl rfl rfl ?_
  refine SeqK.q (q_asC rfl rfl) rfl rfl rfl ?_
  refine SeqK.nil ?_
  refine AW.seq ?_
  refine AW.reg ?_
  refine SeqK.q (q_mvC rfl rfl) rfl rfl rfl ?_
  refine SeqK.q (q_call _ rfl Fx.fn78 rfl (nan3_any _) rfl) rfl rfl rfl ?_
  refine SeqK.q (q_asC rfl rfl) rfl rfl rfl ?_
  refine SeqK.nil ?_
  refine AW.seq ?_
  refine AW.seq ?_
  refine AW.reg ?_
  refine SeqK.q (q_mvC rfl rfl) rfl rfl rfl ?_
  refine SeqK.nil ?_
  refine AW.condF rfl ?_
  refine AW.skip ?_
  refine AW.seq ?_
  refine AW.seq ?_
  refine AW.reg ?_
  refine SeqK.q (q_mvC rfl rfl) rfl rfl rfl ?_
  refine SeqK.nil ?_
  refine AW.condF rfl ?_
  refine AW.skip ?_
  refine AW.seq ?_
  refine AW.seq ?_
  refine AW.reg ?_
  refine SeqK.q (q_mvC rfl rfl) rfl rfl rfl ?_
  refine SeqK.q (q_mvC rfl rfl) rfl rfl rfl ?_
  refine SeqK.q (q_lss rfl rfl rfl) rfl rfl rfl ?_
  refine SeqK.nil ?_
  refine AW.condD rfl (fun h16 => ?_) (fun h16 => ?_)
  ·
    refine AW.seq ?_
    refine AW.reg ?_
    refine SeqK.q (q_asC rfl rfl) rfl rfl rfl ?_
    refine SeqK.nil ?_
    refine AW.ret ?_
    exact fin_x (x := .c _) (H) (.tmp rfl .nil) rfl (fun _ _ h => h) (⟨by simp [ints, *], rfl⟩)
  ·
    refine AW.skip ?_
    refine AW.seq ?_
    refine AW.seq ?_
    refine AW.reg ?_
    refine SeqK.q (q_mvC rfl rfl) rfl rfl rfl ?_
    refine SeqK.q (q_mvC rfl rfl) rfl rfl rfl ?_
    refine SeqK.q (q_gtr rfl rfl rfl) rfl rfl rfl ?_
    refine SeqK.nil ?_
    refine AW.condD rfl (fun h19 => ?_) (fun h19 => ?_)
    ·
      refine AW.seq ?_
      refine AW.reg ?_
      refine SeqK.q (q_asC rfl rfl) rfl rfl rfl ?_
      refine SeqK.nil ?_
      refine AW.ret ?_
      exact fin_x (x := .c _) (H) (.tmp rfl .nil) rfl (fun _ _ h => h) (⟨by simp [ints, *], rfl⟩)
    ·
      refine AW.skip ?_
      refine AW.seq ?_
      refine AW.reg ?_
      refine SeqK.q (q_asC rfl rfl) rfl rfl rfl ?_
      refine SeqK.nil ?_
      refine AW.ret ?_
      exact fin_x (x := .c _) (H) (.tmp rfl .nil) rfl (fun _ _ h => h) (⟨by simp [ints, *], rfl⟩)

end Go.Proofs.YtfbdokfcebpkaaaDoor.W
namespace Go.Proofs.YtfbdokfcebpkaaaDoor.W
open Go.RowKit E M
set_option linter.unusedVariables false
set_option linter.unusedSimpArgs false
set_option linter.unusedSectionVars false
theorem take_zero_step {l : List Int} {i : Nat} (h : i < l.length) (h0 : ∀ x ∈ l.take i, x = 0) (hi : l[i] = 0) : ∀ x ∈ l.take (i + 1), x = 0 := by
  rw [List.take_succ_eq_append_getElem h]
  intro x hx
  rcases List.mem_append.1 hx with h1 | h1
  · exact h0 x h1
  · simp at h1; rw [h1]; exact hi

set_option maxRecDepth 20000 in
theorem or_any (l : List Int) (z : Nz) (hl : l.length ≤ 1000) : Pure Tryd.prog 40 [iL z l] (.c (iC (orI l))) := by
  intro H
  refine Spec.enter Tryd.func40 rfl ?_
  refine AW.wk (Wk.keep 18 [(0, .c (iL z l))] [] (H) rfl ⟨rfl, trivial⟩ trivial (fun _ _ h => h) rfl) ?_
  refine AW.seq ?_
  refine AW.reg ?_
  refine SeqK.q (q_asC rfl rfl) rfl rfl rfl ?_
  refine SeqK.nil ?_
  refine AW.seq ?_
  refine AW.reg ?_
  refine SeqK.q (q_asC rfl rfl) rfl rfl rfl ?_
  refine SeqK.nil ?_
  refine AW.seq ?_
  refine AW.seq ?_
  refine AW.reg ?_
  refine SeqK.q (q_mvC rfl rfl) rfl rfl rfl ?_
  refine SeqK.q (q_len rfl Fx.un54 rfl) rfl rfl rfl ?_
  refine SeqK.q (q_mvC rfl rfl) rfl rfl rfl ?_
  refine SeqK.nil ?_
  refine AW.block ?_
  refine AW.loop (fun (i : Nat) s => (i ≤ l.length ∧ ∀ x ∈ l.take i, x = 0) ∧ s = ⟨18, sp [(3, .c (iC 0)), (6, .c (iL z l)), (7, iX .i64 (((l.map i64T).length : Nat) : Int)), (8, iX .i64 ((i : Nat) : Int))], lv [], H⟩) (fun i => l.length - i) 0 ⟨_, Wk.keep 18 [(3, .c (iC 0)), (6, .c (iL z l)), (7, iX .i64 (((l.map i64T).length : Nat) : Int)), (8, iX .i64 ((((0 : Nat)) : Nat) : Int))] [] (H) rfl ⟨rfl, rfl, rfl, rfl, trivial⟩ trivial (fun _ _ h => h) rfl, ⟨Nat.zero_le _, by simp⟩, rfl⟩ (fun i s hs => ?_)
  obtain ⟨⟨hi0, h0⟩, rfl⟩ := hs
  refine AW.seq ?_
  refine AW.reg ?_
  refine SeqK.q (q_lss rfl rfl rfl) rfl rfl rfl ?_
  refine SeqK.nil ?_
  refine AW.seq ?_
  refine AW.condD rfl (fun h9 => ?_) (fun h9 => ?_)
  ·
    have hi : i < l.length := by simpa using h9
    refine AW.skip ?_
    refine AW.seq ?_
    refine AW.block ?_
    refine AW.seq ?_
    refine AW.reg ?_
    refine SeqK.q (q_index _ rfl Fx.sl54 rfl rfl (by omega) (idx_map (f := i64T) hi)) rfl rfl rfl ?_
    refine SeqK.q (q_load (.a _) rfl Fx.ty3 rfl rfl rfl) rfl rfl rfl ?_
    refine SeqK.q (q_asC rfl rfl) rfl rfl rfl ?_
    refine SeqK.nil ?_
    refine AW.seq ?_
    refine AW.reg ?_
    refine SeqK.q (q_mvC rfl rfl) rfl rfl rfl ?_
    refine SeqK.q (q_mvC rfl rfl) rfl rfl rfl ?_
    refine SeqK.q (q_neq rfl rfl rfl) rfl rfl rfl ?_
    refine SeqK.nil ?_
    refine AW.condD rfl (fun h14 => ?_) (fun h14 => ?_)
    ·
      refine AW.seq ?_
      refine AW.reg ?_
      refine SeqK.q (q_mvC rfl rfl) rfl rfl rfl ?_
      refine SeqK.q (q_asC rfl rfl) rfl rfl rfl ?_
      refine SeqK.nil ?_
      refine AW.ret ?_
      exact fin_x (x := .c _) (H) (.tmp rfl .nil) rfl (fun _ _ h => h) (⟨by rw [orI_at hi h0 h14], rfl⟩)
    ·
      refine AW.skip ?_
      refine AW.reg ?_
      refine SeqK.q (q_add _ rfl rfl rfl (w64 (by omega) (by omega))) rfl rfl rfl ?_
      refine SeqK.q (q_mvC rfl rfl) rfl rfl rfl ?_
      refine SeqK.nil ?_
      exact ⟨i + 1, _, Wk.keep 18 [(3, .c (iC 0)), (6, .c (iL z l)), (7, iX .i64 (((l.map i64T).length : Nat) : Int)), (8, iX .i64 (((i + 1) : Nat) : Int))] [] (H) rfl ⟨rfl, rfl, rfl, rfl, trivial⟩ trivial (fun _ _ h => h) rfl, by omega, ⟨hi, take_zero_step hi h0 (Classical.not_not.1 h14)⟩, rfl⟩
  ·
    refine AW.exit ?_
    refine eth_e ?_
    refine eth_e ?_
    refine exit_here ?_
    refine AW.seq ?_
    refine AW.reg ?_
    refine SeqK.q (q_mvC rfl rfl) rfl rfl rfl ?_
    refine SeqK.q (q_asC rfl rfl) rfl rfl rfl ?_
    refine SeqK.nil ?_
    refine AW.ret ?_
    exact fin_x (x := .c _) (H) (.tmp rfl .nil) rfl (fun _ _ h => h) (⟨by rw [orI_none]; intro x hx; exact h0 x (by rw [List.take_of_length_le (by simp at h9; omega)]; exact hx), rfl⟩)

theorem cmpP_prog {p q : Pt} (hp : finP p) (hq : finP q) :
    (orI [ints p.kind q.kind, ints p.var q.var, ints p.dv q.dv] ≠ 0 → cmpP p q = orI [ints p.kind q.kind, ints p.var q.var, ints p.dv q.dv]) ∧
    (orI [ints p.kind q.kind, ints p.var q.var, ints p.dv q.dv] = 0 → cmpP p q = cmpO p.of q.of ∧ (p.of = [] ↔ q.of = [])) := by
  rw [cmpP_eq]
  rw [finP_eq] at hp hq
  simp only [orI]
  by_cases h1 : p.kind = q.kind
  · by_cases h2 : p.var = q.var
    · by_cases h3 : p.dv = q.dv
      · simp [h1, h2, h3, ints_zero.2, hp.1, hq.1]
      · have := mt ints_zero.1 h3
        simp [h1, h2, h3, ints_zero.2, this]
    · have := mt ints_zero.1 h2
      simp [h1, h2, ints_zero.2, this]
  · have := mt ints_zero.1 h1
    simp [h1, this]

abbrev cP (p q : Pt) : Int := orI [ints p.kind q.kind, ints p.var q.var, ints p.dv q.dv]
theorem cmpP_c {p q : Pt} (hp : finP p) (hq : finP q) (h : cP p q ≠ 0 ∨ (p.of.length : Int) = 0 ∨ (q.of.length : Int) = 0) : cmpP p q = cP p q := by
  have hc := cmpP_prog hp hq
  by_cases h0 : cP p q = 0
  · rw [(hc.2 h0).1, h0]
    have h1 : p.of = [] := by
      rcases h with h | h | h
      · exact absurd h0 h
      · exact List.eq_nil_of_length_eq_zero (by omega)
      · exact (hc.2 h0).2.2 (List.eq_nil_of_length_eq_zero (by omega))
    rw [h1, (hc.2 h0).2.1 h1, cmpO]
  · exact hc.1 h0
theorem cmpO_at : ∀ {a b : List Tm} (ha : 0 < a.length) (hb : 0 < b.length), cmpO a b = cmpT a[0] b[0]
  | o :: r, o2 :: r2, _, _ => by simp [cmpO]
theorem cmpP_o {p q : Pt} (hp : finP p) (hq : finP q) (h : cP p q = 0) (hp0 : 0 < p.of.length) (hq0 : 0 < q.of.length) : cmpP p q = cmpT p.of[0] q.of[0] := by
  rw [((cmpP_prog hp hq).2 h).1]
  exact cmpO_at hp0 hq0

set_option maxRecDepth 20000 in
theorem cmpPart_of (p q : Pt) (hp : finP p) (hq : finP q) (ih : ∀ o ∈ p.of, ∀ b ∈ q.of, Pure Tryd.prog 14 [tmC o, tmC b] (.c (iC (cmpT o b)))) : Pure Tryd.prog 41 [ptC p, ptC q] (.c (iC (cmpP p q))) := by
  intro H
  refine Spec.enter Tryd.func41 rfl ?_
  refine AW.wk (Wk.keep 47 [(0, .c (ptC p)), (1, .c (ptC q))] [] (H) rfl ⟨rfl, rfl, trivial⟩ trivial (fun _ _ h => h) rfl) ?_
  refine AW.seq ?_
  refine AW.reg ?_
  refine SeqK.r (b_box (r := [_, _, _, _, _]) rfl rfl rfl rfl rfl rfl) rfl ?_
  refine SeqK.r (b_box (r := [_, _, _, _, _]) rfl rfl rfl rfl rfl rfl) rfl ?_
  refine SeqK.q (q_asC rfl rfl) rfl rfl rfl ?_
  refine SeqK.nil ?_
  refine AW.seq ?_
  refine AW.draw Fx.mo ?_
  refine LexK.q (q_fieldL _ rfl Fx.fl62_1 rfl rfl) rfl rfl rfl ?_
  refine LexK.r (b_load (r := .a _) rfl Fx.ty3 rfl rfl rfl rfl rfl rfl) rfl ?_
  refine LexK.q (q_fieldL _ rfl Fx.fl62_1 rfl rfl) rfl rfl rfl ?_
  refine LexK.r (b_load (r := .a _) rfl Fx.ty3 rfl rfl rfl rfl rfl rfl) rfl ?_
  refine LexK.q (q_call _ rfl Fx.fn43 rfl (cmp3_any _ _) rfl) rfl rfl rfl ?_
  refine LexK.q (q_fieldL _ rfl Fx.fl62_2 rfl rfl) rfl rfl rfl ?_
  refine LexK.r (b_load (r := .a _) rfl Fx.ty3 rfl rfl rfl rfl rfl rfl) rfl ?_
  refine LexK.q (q_fieldL _ rfl Fx.fl62_2 rfl rfl) rfl rfl rfl ?_
  refine LexK.r (b_load (r := .a _) rfl Fx.ty3 rfl rfl rfl rfl rfl rfl) rfl ?_
  refine LexK.q (q_call _ rfl Fx.fn43 rfl (cmp3_any _ _) rfl) rfl rfl rfl ?_
  refine LexK.q (q_fieldL _ rfl Fx.fl62_3 rfl rfl) rfl rfl rfl ?_
  refine LexK.r (b_load (r := .a _) rfl Fx.ty2 rfl rfl rfl rfl rfl rfl) rfl ?_
  refine LexK.q (q_fieldL _ rfl Fx.fl62_3 rfl rfl) rfl rfl rfl ?_
  refine LexK.r (b_load (r := .a _) rfl Fx.ty2 rfl rfl rfl rfl rfl rfl) rfl ?_
  refine LexK.q (q_call _ rfl Fx.fn42 rfl (cmp2_any _ _) rfl) rfl rfl rfl ?_
  refine LexK.q (q_buildSlice _ rfl Fx.el54 rfl (by decide) rfl) rfl rfl rfl ?_
  refine LexK.q (q_call _ rfl Fx.fn40 rfl (or_any [ints p.kind q.kind, ints p.var q.var, ints p.dv q.dv] .nn (by simp)) rfl) rfl rfl rfl ?_
  refine LexK.q (q_asC rfl rfl) rfl rfl rfl ?_
  refine LexK.nil (by kernel_rfl) ?_
  refine AW.seq ?_
  refine AW.seq ?_
  obtain ⟨cc, hcc⟩ : ∃ cc, cc = cP p q := ⟨_, rfl⟩
  refine AW.reg ?_
  refine SeqK.q (q_mvC rfl rfl) rfl rfl rfl ?_
  refine SeqK.q (q_neq rfl rfl rfl) rfl rfl rfl ?_
  refine SeqK.qD (q_mvC rfl rfl) rfl rfl rfl (fun g25 => ?_) (fun g25 => ?_)
  ·
    refine SeqK.off rfl rfl rfl rfl rfl rfl ?_
    refine SeqK.off rfl rfl rfl rfl rfl rfl ?_
    refine SeqK.off rfl rfl rfl rfl rfl rfl ?_
    refine SeqK.off rfl rfl rfl rfl rfl rfl ?_
    refine SeqK.q (q_pkT rfl rfl rfl) rfl rfl rfl ?_
    refine SeqK.q (q_mvC rfl rfl) rfl rfl rfl ?_
    refine SeqK.off rfl rfl rfl rfl rfl rfl ?_
    refine SeqK.off rfl rfl rfl rfl rfl rfl ?_
    refine SeqK.off rfl rfl rfl rfl rfl rfl ?_
    refine SeqK.off rfl rfl rfl rfl rfl rfl ?_
    refine SeqK.q (q_pkT rfl rfl rfl) rfl rfl rfl ?_
    refine SeqK.nil ?_
    refine AW.condT rfl ?_
    refine AW.seq ?_
    refine AW.reg ?_
    refine SeqK.q (q_mvC rfl rfl) rfl rfl rfl ?_
    refine SeqK.q (q_asC rfl rfl) rfl rfl rfl ?_
    refine SeqK.nil ?_
    refine AW.ret ?_
    exact fin_x (x := .c _) (H) (.tmp rfl .nil) rfl (fun _ _ h => h) (⟨by rw [cmpP_c hp hq (by first | exact .inl (by assumption) | (simp only [List.length_map] at *; omega))], rfl⟩)
  ·
    refine SeqK.on (q_fieldL _ rfl Fx.fl62_4 rfl rfl) rfl rfl rfl rfl rfl ?_
    refine SeqK.rOn (b_load (r := .a _) rfl Fx.ty60 rfl rfl rfl rfl rfl rfl) rfl rfl rfl ?_
    refine SeqK.on (q_len rfl Fx.un60 rfl) rfl rfl rfl rfl rfl ?_
    refine SeqK.on (q_eql rfl rfl rfl) rfl rfl rfl rfl rfl ?_
    refine SeqK.q (q_pkF rfl rfl rfl) rfl rfl rfl ?_
    refine SeqK.qD (q_mvC rfl rfl) rfl rfl rfl (fun g31 => ?_) (fun g31 => ?_)
    ·
      refine SeqK.off rfl rfl rfl rfl rfl rfl ?_
      refine SeqK.off rfl rfl rfl rfl rfl rfl ?_
      refine SeqK.off rfl rfl rfl rfl rfl rfl ?_
      refine SeqK.off rfl rfl rfl rfl rfl rfl ?_
      refine SeqK.q (q_pkT rfl rfl rfl) rfl rfl rfl ?_
      refine SeqK.nil ?_
      refine AW.condT rfl ?_
      refine AW.seq ?_
      refine AW.reg ?_
      refine SeqK.q (q_mvC rfl rfl) rfl rfl rfl ?_
      refine SeqK.q (q_asC rfl rfl) rfl rfl rfl ?_
      refine SeqK.nil ?_
      refine AW.ret ?_
      exact fin_x (x := .c _) (H) (.tmp rfl .nil) rfl (fun _ _ h => h) (⟨by rw [cmpP_c hp hq (by first | exact .inl (by assumption) | (simp only [List.length_map] at *; omega))], rfl⟩)
    ·
      refine SeqK.on (q_fieldL _ rfl Fx.fl62_4 rfl rfl) rfl rfl rfl rfl rfl ?_
      refine SeqK.rOn (b_load (r := .a _) rfl Fx.ty60 rfl rfl rfl rfl rfl rfl) rfl rfl rfl ?_
      refine SeqK.on (q_len rfl Fx.un60 rfl) rfl rfl rfl rfl rfl ?_
      refine SeqK.on (q_eql rfl rfl rfl) rfl rfl rfl rfl rfl ?_
      refine SeqK.q (q_pkF rfl rfl rfl) rfl rfl rfl ?_
      refine SeqK.nil ?_
      refine AW.condD rfl (fun h36 => ?_) (fun h36 => ?_)
      ·
        refine AW.seq ?_
        refine AW.reg ?_
        refine SeqK.q (q_mvC rfl rfl) rfl rfl rfl ?_
        refine SeqK.q (q_asC rfl rfl) rfl rfl rfl ?_
        refine SeqK.nil ?_
        refine AW.ret ?_
        exact fin_x (x := .c _) (H) (.tmp rfl .nil) rfl (fun _ _ h => h) (⟨by rw [cmpP_c hp hq (by first | exact .inl (by assumption) | (simp only [List.length_map] at *; omega))], rfl⟩)
      ·
        refine AW.skip ?_
        refine AW.seq ?_
        have hp0 : 0 < p.of.length := by rw [List.length_map] at g31; omega
        have hq0 : 0 < q.of.length := by rw [List.length_map] at h36; omega
        refine AW.draw Fx.mo ?_
        refine LexK.q (q_fieldL _ rfl Fx.fl62_4 rfl rfl) rfl rfl rfl ?_
        refine LexK.r (b_load (r := .a _) rfl Fx.ty60 rfl rfl rfl rfl rfl rfl) rfl ?_
        refine LexK.q (q_index _ rfl Fx.sl60 rfl rfl (by omega) (idx_tm hp0)) rfl rfl rfl ?_
        refine LexK.q (q_load (.g [_, _]) rfl Fx.ty24 rfl rfl rfl) rfl rfl rfl ?_
        refine LexK.q (q_fieldL _ rfl Fx.fl62_4 rfl rfl) rfl rfl rfl ?_
        refine LexK.r (b_load (r := .a _) rfl Fx.ty60 rfl rfl rfl rfl rfl rfl) rfl ?_
        refine LexK.q (q_index _ rfl Fx.sl60 rfl rfl (by omega) (idx_tm hq0)) rfl rfl rfl ?_
        refine LexK.q (q_load (.g [_, _]) rfl Fx.ty24 rfl rfl rfl) rfl rfl rfl ?_
        refine LexK.q (q_call _ rfl Fx.fn14 rfl (ih _ (List.getElem_mem hp0) _ (List.getElem_mem hq0)) rfl) rfl rfl rfl ?_
        refine LexK.q (q_asC rfl rfl) rfl rfl rfl ?_
        refine LexK.nil (by kernel_rfl) ?_
        refine AW.ret ?_
        exact fin_x (x := .c _) (H) (.tmp rfl .nil) rfl (fun _ _ h => h) (⟨by rw [cmpP_o hp hq (by first | omega | simp_all) hp0 hq0], rfl⟩)

end Go.Proofs.YtfbdokfcebpkaaaDoor.W
namespace Go.Proofs.YtfbdokfcebpkaaaDoor.W
open Go.RowKit E M
set_option linter.unusedVariables false
set_option linter.unusedSimpArgs false
set_option linter.unusedSectionVars false
theorem or2 {x y : Int} : orI [x, y] = if x ≠ 0 then x else y := by
  by_cases h : x = 0 <;> by_cases h2 : y = 0 <;> simp [orI, h, h2]
theorem cmp_stop {a b : Tm} {i : Nat} (hi : i < a.ps.length) (hj : i < b.ps.length) (hI : cmpL (a.ps.drop i) (b.ps.drop i) (ints a.c b.c) = cmpT a b) (h : orI [cmpP a.ps[i] b.ps[i], ints a.ps[i].coef b.ps[i].coef] ≠ 0) : cmpT a b = orI [cmpP a.ps[i] b.ps[i], ints a.ps[i].coef b.ps[i].coef] := by
  rw [← hI, cmpL_step hi hj, or2]
  rw [or2] at h
  by_cases h1 : cmpP a.ps[i] b.ps[i] = 0
  · simp only [h1, ne_eq, not_true_eq_false, if_false] at h ⊢
    rw [if_pos (fun e => h (ints_zero.2 e))]
  · rw [if_pos h1, if_pos h1]
theorem cmp_go {a b : Tm} {i : Nat} (hi : i < a.ps.length) (hj : i < b.ps.length) (hI : cmpL (a.ps.drop i) (b.ps.drop i) (ints a.c b.c) = cmpT a b) (h : orI [cmpP a.ps[i] b.ps[i], ints a.ps[i].coef b.ps[i].coef] = 0) : cmpL (a.ps.drop (i + 1)) (b.ps.drop (i + 1)) (ints a.c b.c) = cmpT a b := by
  rw [← hI, cmpL_step hi hj]
  rw [or2] at h
  by_cases h1 : cmpP a.ps[i] b.ps[i] = 0
  · rw [if_neg (by omega)] at h
    rw [if_neg (by omega), if_neg (fun e => e (ints_zero.1 h))]
  · rw [if_pos h1] at h; exact absurd h h1
theorem cmp_end {a b : Tm} {i : Nat} (hi : i ≤ a.ps.length) (hj : i ≤ b.ps.length) (he : i = a.ps.length ∨ i = b.ps.length) (hI : cmpL (a.ps.drop i) (b.ps.drop i) (ints a.c b.c) = cmpT a b) : cmpT a b = orI [ints a.ps.length b.ps.length, ints a.c b.c] := by
  rw [← hI, cmpL_end hi hj he, or2]
  by_cases h1 : (a.ps.length : Int) = b.ps.length
  · rw [if_neg (by omega), if_neg (by rw [ints_zero.2 h1]; simp)]
  · rw [if_pos h1, if_pos (fun e => h1 (ints_zero.1 e))]

set_option maxRecDepth 20000 in
theorem cmp_of (a b : Tm) (ha : finT a) (hb : finT b) (hN : a.cnt ≤ 100000) (ih : ∀ p ∈ a.ps, ∀ o ∈ p.of, ∀ q ∈ b.ps, ∀ o2 ∈ q.of, Pure Tryd.prog 14 [tmC o, tmC o2] (.c (iC (cmpT o o2)))) : Pure Tryd.prog 14 [tmC a, tmC b] (.c (iC (cmpT a b))) := by
  intro H
  refine Spec.enter Tryd.func14 rfl ?_
  refine AW.wk (Wk.keep 57 [(0, .c (tmC a)), (1, .c (tmC b))] [] (H) rfl ⟨rfl, rfl, trivial⟩ trivial (fun _ _ h => h) rfl) ?_
  refine AW.seq ?_
  refine AW.reg ?_
  refine SeqK.r (b_box (r := [_, _]) rfl rfl rfl rfl rfl rfl) rfl ?_
  refine SeqK.r (b_box (r := [_, _]) rfl rfl rfl rfl rfl rfl) rfl ?_
  refine SeqK.q (q_asC rfl rfl) rfl rfl rfl ?_
  refine SeqK.nil ?_
  refine AW.seq ?_
  refine AW.seq ?_
  have hfa := (finT_eq a).1 ha
  have hfb := (finT_eq b).1 hb
  have hla := len_ps a
  obtain ⟨la, hla0⟩ : ∃ la, la = a.ps.length := ⟨_, rfl⟩
  refine AW.reg ?_
  refine SeqK.q (q_fieldL _ rfl Fx.fl24_1 rfl rfl) rfl rfl rfl ?_
  refine SeqK.r (b_load (r := .a _) rfl Fx.ty22 rfl rfl rfl rfl rfl rfl) rfl ?_
  refine SeqK.q (q_len rfl Fx.un22 rfl) rfl rfl rfl ?_
  refine SeqK.q (q_fieldL _ rfl Fx.fl24_1 rfl rfl) rfl rfl rfl ?_
  refine SeqK.r (b_load (r := .a _) rfl Fx.ty22 rfl rfl rfl rfl rfl rfl) rfl ?_
  refine SeqK.q (q_len rfl Fx.un22 rfl) rfl rfl rfl ?_
  refine SeqK.q (q_min rfl rfl rfl) rfl rfl rfl ?_
  refine SeqK.q (q_mvC rfl rfl) rfl rfl rfl ?_
  refine SeqK.nil ?_
  refine AW.block ?_
  refine AW.loop (fun (i : Nat) s => ((i ≤ a.ps.length ∧ i ≤ b.ps.length) ∧ cmpL (a.ps.drop i) (b.ps.drop i) (ints a.c b.c) = cmpT a b) ∧ s = ⟨57, sp [(2, .lp 2 0), (3, .lp 3 0), (15, iX .i64 (min (((a.ps.map ptT).length : Nat) : Int) (((b.ps.map ptT).length : Nat) : Int))), (16, iX .i64 ((i : Nat) : Int))], lv [(2, .box [.t (.v (.int .i64 a.c)), .t (.sl .un 5 (a.ps.map ptT))]), (3, .box [.t (.v (.int .i64 b.c)), .t (.sl .un 5 (b.ps.map ptT))])], H⟩) (fun i => a.ps.length - i) 0 ⟨_, Wk.keep 57 [(2, .lp 2 0), (3, .lp 3 0), (15, iX .i64 (min (((a.ps.map ptT).length : Nat) : Int) (((b.ps.map ptT).length : Nat) : Int))), (16, iX .i64 ((((0 : Nat)) : Nat) : Int))] [(2, .box [.t (.v (.int .i64 a.c)), .t (.sl .un 5 (a.ps.map ptT))]), (3, .box [.t (.v (.int .i64 b.c)), .t (.sl .un 5 (b.ps.map ptT))])] (H) rfl ⟨rfl, rfl, rfl, rfl, trivial⟩ ⟨rfl, rfl, trivial⟩ (fun _ _ h => h) rfl, ⟨⟨Nat.zero_le _, Nat.zero_le _⟩, (cmpT_eq a b).symm⟩, rfl⟩ (fun i s hs => ?_)
  obtain ⟨⟨hi0, hI⟩, rfl⟩ := hs
  refine AW.seq ?_
  refine AW.reg ?_
  refine SeqK.q (q_lss rfl rfl rfl) rfl rfl rfl ?_
  refine SeqK.nil ?_
  refine AW.seq ?_
  refine AW.condD rfl (fun h17 => ?_) (fun h17 => ?_)
  ·
    have hij : i < a.ps.length ∧ i < b.ps.length := by rw [List.length_map, List.length_map] at h17; omega
    have hi := hij.1
    have hj := hij.2
    refine AW.skip ?_
    refine AW.seq ?_
    refine AW.block ?_
    refine AW.seq ?_
    refine AW.reg ?_
    refine SeqK.q (q_mvC rfl rfl) rfl rfl rfl ?_
    refine SeqK.q (q_asC rfl rfl) rfl rfl rfl ?_
    refine SeqK.nil ?_
    refine AW.seq ?_
    refine AW.draw Fx.mo ?_
    refine LexK.q (q_fieldL _ rfl Fx.fl24_1 rfl rfl) rfl rfl rfl ?_
    refine LexK.r (b_load (r := .a _) rfl Fx.ty22 rfl rfl rfl rfl rfl rfl) rfl ?_
    refine LexK.q (q_mvC rfl rfl) rfl rfl rfl ?_
    refine LexK.q (q_index _ rfl Fx.sl22 rfl rfl (by omega) (idx_map (f := ptT) hi)) rfl rfl rfl ?_
    refine LexK.q (q_load (.g [_, _, _, _, _]) rfl Fx.ty62 rfl rfl rfl) rfl rfl rfl ?_
    refine LexK.q (q_fieldL _ rfl Fx.fl24_1 rfl rfl) rfl rfl rfl ?_
    refine LexK.r (b_load (r := .a _) rfl Fx.ty22 rfl rfl rfl rfl rfl rfl) rfl ?_
    refine LexK.q (q_mvC rfl rfl) rfl rfl rfl ?_
    refine LexK.q (q_index _ rfl Fx.sl22 rfl rfl (by omega) (idx_map (f := ptT) hj)) rfl rfl rfl ?_
    refine LexK.q (q_load (.g [_, _, _, _, _]) rfl Fx.ty62 rfl rfl rfl) rfl rfl rfl ?_
    refine LexK.r (b_alloc (r := [_, _, _, _, _]) rfl rfl Fx.ze62 rfl rfl rfl rfl) rfl ?_
    refine LexK.r (b_alloc (r := [_, _, _, _, _]) rfl rfl Fx.ze62 rfl rfl rfl rfl) rfl ?_
    refine LexK.r (b_store (r := [_, _, _, _, _]) rfl rfl Fx.ty62 rfl rfl rfl rfl rfl rfl) rfl ?_
    refine LexK.r (b_store (r := [_, _, _, _, _]) rfl rfl Fx.ty62 rfl rfl rfl rfl rfl rfl) rfl ?_
    refine LexK.nil (by kernel_rfl) ?_
    refine AW.seq ?_
    refine AW.draw Fx.mo ?_
    refine LexK.r (b_load (r := .g [_, _, _, _, _]) rfl Fx.ty62 rfl rfl rfl rfl rfl rfl) rfl ?_
    refine LexK.r (b_load (r := .g [_, _, _, _, _]) rfl Fx.ty62 rfl rfl rfl rfl rfl rfl) rfl ?_
    refine LexK.q (q_call _ rfl Fx.fn41 rfl (cmpPart_of a.ps[i] b.ps[i] (hfa _ (List.getElem_mem hi)) (hfb _ (List.getElem_mem hj)) (fun o ho b2 hb2 => ih _ (List.getElem_mem hi) o ho _ (List.getElem_mem hj) b2 hb2)) rfl) rfl rfl rfl ?_
    refine LexK.q (q_fieldL _ rfl Fx.fl62_0 rfl rfl) rfl rfl rfl ?_
    refine LexK.r (b_load (r := .a _) rfl Fx.ty2 rfl rfl rfl rfl rfl rfl) rfl ?_
    refine LexK.q (q_fieldL _ rfl Fx.fl62_0 rfl rfl) rfl rfl rfl ?_
    refine LexK.r (b_load (r := .a _) rfl Fx.ty2 rfl rfl rfl rfl rfl rfl) rfl ?_
    refine LexK.q (q_call _ rfl Fx.fn42 rfl (cmp2_any _ _) rfl) rfl rfl rfl ?_
    refine LexK.q (q_buildSlice _ rfl Fx.el54 rfl (by decide) rfl) rfl rfl rfl ?_
    refine LexK.q (q_call _ rfl Fx.fn40 rfl (or_any [cmpP a.ps[i] b.ps[i], ints a.ps[i].coef b.ps[i].coef] .nn (by simp)) rfl) rfl rfl rfl ?_
    refine LexK.q (q_asC rfl rfl) rfl rfl rfl ?_
    refine LexK.nil (by kernel_rfl) ?_
    refine AW.seq ?_
    refine AW.reg ?_
    refine SeqK.q (q_mvC rfl rfl) rfl rfl rfl ?_
    refine SeqK.q (q_neq rfl rfl rfl) rfl rfl rfl ?_
    refine SeqK.nil ?_
    refine AW.condD rfl (fun h40 => ?_) (fun h40 => ?_)
    ·
      refine AW.seq ?_
      refine AW.reg ?_
      refine SeqK.q (q_mvC rfl rfl) rfl rfl rfl ?_
      refine SeqK.q (q_asC rfl rfl) rfl rfl rfl ?_
      refine SeqK.nil ?_
      refine AW.ret ?_
      exact fin_x (x := .c _) (H) (.tmp rfl .nil) rfl (fun _ _ h => h) (⟨by rw [cmp_stop hi hj hI h40], rfl⟩)
    ·
      refine AW.skip ?_
      refine AW.reg ?_
      refine SeqK.q (q_add _ rfl rfl rfl (w64 (by omega) (by omega))) rfl rfl rfl ?_
      refine SeqK.q (q_mvC rfl rfl) rfl rfl rfl ?_
      refine SeqK.nil ?_
      exact ⟨i + 1, _, Wk.keep 57 [(2, .lp 2 0), (3, .lp 3 0), (15, iX .i64 (min (((a.ps.map ptT).length : Nat) : Int) (((b.ps.map ptT).length : Nat) : Int))), (16, iX .i64 (((i + 1) : Nat) : Int))] [(2, .box [.t (.v (.int .i64 a.c)), .t (.sl .un 5 (a.ps.map ptT))]), (3, .box [.t (.v (.int .i64 b.c)), .t (.sl .un 5 (b.ps.map ptT))])] (H) rfl ⟨rfl, rfl, rfl, rfl, trivial⟩ ⟨rfl, rfl, trivial⟩ (fun _ _ h => h) rfl, by omega, ⟨⟨hi, hj⟩, cmp_go hi hj hI (Classical.not_not.1 h40)⟩, rfl⟩
  ·
    refine AW.exit ?_
    refine eth_e ?_
    refine eth_e ?_
    refine exit_here ?_
    refine AW.seq ?_
    refine AW.draw Fx.mo ?_
    refine LexK.q (q_fieldL _ rfl Fx.fl24_1 rfl rfl) rfl rfl rfl ?_
    refine LexK.r (b_load (r := .a _) rfl Fx.ty22 rfl rfl rfl rfl rfl rfl) rfl ?_
    refine LexK.q (q_len rfl Fx.un22 rfl) rfl rfl rfl ?_
    refine LexK.q (q_fieldL _ rfl Fx.fl24_1 rfl rfl) rfl rfl rfl ?_
    refine LexK.r (b_load (r := .a _) rfl Fx.ty22 rfl rfl rfl rfl rfl rfl) rfl ?_
    refine LexK.q (q_len rfl Fx.un22 rfl) rfl rfl rfl ?_
    refine LexK.q (q_call _ rfl Fx.fn43 rfl (cmp3_any _ _) rfl) rfl rfl rfl ?_
    refine LexK.q (q_fieldL _ rfl Fx.fl24_0 rfl rfl) rfl rfl rfl ?_
    refine LexK.r (b_load (r := .a _) rfl Fx.ty2 rfl rfl rfl rfl rfl rfl) rfl ?_
    refine LexK.q (q_fieldL _ rfl Fx.fl24_0 rfl rfl) rfl rfl rfl ?_
    refine LexK.r (b_load (r := .a _) rfl Fx.ty2 rfl rfl rfl rfl rfl rfl) rfl ?_
    refine LexK.q (q_call _ rfl Fx.fn42 rfl (cmp2_any _ _) rfl) rfl rfl rfl ?_
    refine LexK.q (q_buildSlice _ rfl Fx.el54 rfl (by decide) rfl) rfl rfl rfl ?_
    refine LexK.q (q_call _ rfl Fx.fn40 rfl (or_any [ints ((a.ps.map ptT).length : Nat) ((b.ps.map ptT).length : Nat), ints a.c b.c] .nn (by simp)) rfl) rfl rfl rfl ?_
    refine LexK.q (q_asC rfl rfl) rfl rfl rfl ?_
    refine LexK.nil (by kernel_rfl) ?_
    refine AW.ret ?_
    exact fin_x (x := .c _) (H) (.tmp rfl .nil) rfl (fun _ _ h => h) (⟨by rw [cmp_end hi0.1 hi0.2 (by rw [List.length_map, List.length_map] at h17; omega) hI, List.length_map, List.length_map], rfl⟩)

theorem cmp_any (a : Tm) : finT a → a.cnt ≤ 100000 → ∀ b, finT b → Pure Tryd.prog 14 [tmC a, tmC b] (.c (iC (cmpT a b))) := by
  induction a using Tm.ind with
  | h a ih =>
    intro ha hN b hb
    exact cmp_of a b ha hb hN fun p hp o ho q hq o2 ho2 => ih p hp o ho (((finP_eq p).1 ((finT_eq a).1 ha p hp)).2 o ho) (by have := cnt_of hp ho; omega) o2 (((finP_eq q).1 ((finT_eq b).1 hb q hq)).2 o2 ho2)
theorem cmpPart_any (p q : Pt) (hp : finP p) (hq : finP q) (hN : p.cnt ≤ 100000) : Pure Tryd.prog 41 [ptC p, ptC q] (.c (iC (cmpP p q))) :=
  cmpPart_of p q hp hq fun o ho b hb => cmp_any o (((finP_eq p).1 hp).2 o ho) (by rw [Pt.cnt_eq] at hN; have := cntTs_mem ho; omega) b (((finP_eq q).1 hq).2 b hb)

theorem cmpO_none {a b : List Tm} (h : (a.length : Int) = 0 ∨ (b.length : Int) = 0) : cmpO a b = ints a.length b.length := by
  match a, b, h with
  | [], [], _ => simp [cmpO, ints]
  | [], _ :: _, _ => simp [cmpO, ints]
  | _ :: _, [], _ => simp [cmpO, ints]; omega
  | _ :: _, _ :: _, h => simp at h; omega

set_option maxRecDepth 20000 in
theorem rparts_of (p q : Pt) (ih : ∀ o ∈ p.of, ∀ b ∈ q.of, Pure Tryd.prog 15 [tmC o, tmC b] (.c (iC (cmpT o b)))) : Pure Tryd.prog 44 [ptC p, ptC q] (.c (iC (cmpP p q))) := by
  intro H
  refine Spec.enter Tryd.func44 rfl ?_
  refine AW.wk (Wk.keep 61 [(0, .c (ptC p)), (1, .c (ptC q))] [] (H) rfl ⟨rfl, rfl, trivial⟩ trivial (fun _ _ h => h) rfl) ?_
  refine AW.seq ?_
  refine AW.reg ?_
  refine SeqK.r (b_box (r := [_, _, _, _, _]) rfl rfl rfl rfl rfl rfl) rfl ?_
  refine SeqK.r (b_box (r := [_, _, _, _, _]) rfl rfl rfl rfl rfl rfl) rfl ?_
  refine SeqK.q (q_asC rfl rfl) rfl rfl rfl ?_
  refine SeqK.nil ?_
  refine AW.seq ?_
  refine AW.seq ?_
  refine AW.reg ?_
  refine SeqK.q (q_fieldL _ rfl Fx.fl62_1 rfl rfl) rfl rfl rfl ?_
  refine SeqK.r (b_load (r := .a _) rfl Fx.ty3 rfl rfl rfl rfl rfl rfl) rfl ?_
  refine SeqK.q (q_fieldL _ rfl Fx.fl62_1 rfl rfl) rfl rfl rfl ?_
  refine SeqK.r (b_load (r := .a _) rfl Fx.ty3 rfl rfl rfl rfl rfl rfl) rfl ?_
  refine SeqK.q (q_neq rfl rfl rfl) rfl rfl rfl ?_
  refine SeqK.nil ?_
  refine AW.condD rfl (fun h9 => ?_) (fun h9 => ?_)
  ·
    refine AW.seq ?_
    refine AW.reg ?_
    refine SeqK.q (q_fieldL _ rfl Fx.fl62_1 rfl rfl) rfl rfl rfl ?_
    refine SeqK.r (b_load (r := .a _) rfl Fx.ty3 rfl rfl rfl rfl rfl rfl) rfl ?_
    refine SeqK.q (q_fieldL _ rfl Fx.fl62_1 rfl rfl) rfl rfl rfl ?_
    refine SeqK.r (b_load (r := .a _) rfl Fx.ty3 rfl rfl rfl rfl rfl rfl) rfl ?_
    refine SeqK.q (q_call _ rfl Fx.fn45 rfl (ints_any _ _) rfl) rfl rfl rfl ?_
    refine SeqK.q (q_asC rfl rfl) rfl rfl rfl ?_
    refine SeqK.nil ?_
    refine AW.ret ?_
    exact fin_x (x := .c _) (H) (.tmp rfl .nil) rfl (fun _ _ h => h) (⟨by rw [cmpP_eq, if_pos h9], rfl⟩)
  ·
    refine AW.skip ?_
    refine AW.seq ?_
    refine AW.seq ?_
    refine AW.reg ?_
    refine SeqK.q (q_fieldL _ rfl Fx.fl62_2 rfl rfl) rfl rfl rfl ?_
    refine SeqK.r (b_load (r := .a _) rfl Fx.ty3 rfl rfl rfl rfl rfl rfl) rfl ?_
    refine SeqK.q (q_fieldL _ rfl Fx.fl62_2 rfl rfl) rfl rfl rfl ?_
    refine SeqK.r (b_load (r := .a _) rfl Fx.ty3 rfl rfl rfl rfl rfl rfl) rfl ?_
    refine SeqK.q (q_neq rfl rfl rfl) rfl rfl rfl ?_
    refine SeqK.nil ?_
    refine AW.condD rfl (fun h19 => ?_) (fun h19 => ?_)
    ·
      refine AW.seq ?_
      refine AW.reg ?_
      refine SeqK.q (q_fieldL _ rfl Fx.fl62_2 rfl rfl) rfl rfl rfl ?_
      refine SeqK.r (b_load (r := .a _) rfl Fx.ty3 rfl rfl rfl rfl rfl rfl) rfl ?_
      refine SeqK.q (q_fieldL _ rfl Fx.fl62_2 rfl rfl) rfl rfl rfl ?_
      refine SeqK.r (b_load (r := .a _) rfl Fx.ty3 rfl rfl rfl rfl rfl rfl) rfl ?_
      refine SeqK.q (q_call _ rfl Fx.fn45 rfl (ints_any _ _) rfl) rfl rfl rfl ?_
      refine SeqK.q (q_asC rfl rfl) rfl rfl rfl ?_
      refine SeqK.nil ?_
      refine AW.ret ?_
      exact fin_x (x := .c _) (H) (.tmp rfl .nil) rfl (fun _ _ h => h) (⟨by rw [cmpP_eq, if_neg h9, if_pos h19], rfl⟩)
    ·
      refine AW.skip ?_
      refine AW.seq ?_
      refine AW.seq ?_
      refine AW.reg ?_
      refine SeqK.q (q_fieldL _ rfl Fx.fl62_3 rfl rfl) rfl rfl rfl ?_
      refine SeqK.r (b_load (r := .a _) rfl Fx.ty2 rfl rfl rfl rfl rfl rfl) rfl ?_
      refine SeqK.q (q_fieldL _ rfl Fx.fl62_3 rfl rfl) rfl rfl rfl ?_
      refine SeqK.r (b_load (r := .a _) rfl Fx.ty2 rfl rfl rfl rfl rfl rfl) rfl ?_
      refine SeqK.q (q_neq rfl rfl rfl) rfl rfl rfl ?_
      refine SeqK.nil ?_
      refine AW.condD rfl (fun h29 => ?_) (fun h29 => ?_)
      ·
        refine AW.seq ?_
        refine AW.reg ?_
        refine SeqK.q (q_fieldL _ rfl Fx.fl62_3 rfl rfl) rfl rfl rfl ?_
        refine SeqK.r (b_load (r := .a _) rfl Fx.ty2 rfl rfl rfl rfl rfl rfl) rfl ?_
        refine SeqK.q (q_fieldL _ rfl Fx.fl62_3 rfl rfl) rfl rfl rfl ?_
        refine SeqK.r (b_load (r := .a _) rfl Fx.ty2 rfl rfl rfl rfl rfl rfl) rfl ?_
        refine SeqK.q (q_call _ rfl Fx.fn45 rfl (ints_any _ _) rfl) rfl rfl rfl ?_
        refine SeqK.q (q_asC rfl rfl) rfl rfl rfl ?_
        refine SeqK.nil ?_
        refine AW.ret ?_
        exact fin_x (x := .c _) (H) (.tmp rfl .nil) rfl (fun _ _ h => h) (⟨by rw [cmpP_eq, if_neg h9, if_neg h19, if_pos h29], rfl⟩)
      ·
        refine AW.skip ?_
        refine AW.seq ?_
        refine AW.seq ?_
        refine AW.reg ?_
        refine SeqK.q (q_fieldL _ rfl Fx.fl62_4 rfl rfl) rfl rfl rfl ?_
        refine SeqK.r (b_load (r := .a _) rfl Fx.ty60 rfl rfl rfl rfl rfl rfl) rfl ?_
        refine SeqK.q (q_len rfl Fx.un60 rfl) rfl rfl rfl ?_
        refine SeqK.q (q_eql rfl rfl rfl) rfl rfl rfl ?_
        refine SeqK.qD (q_mvC rfl rfl) rfl rfl rfl (fun g39 => ?_) (fun g39 => ?_)
        ·
          refine SeqK.off rfl rfl rfl rfl rfl rfl ?_
          refine SeqK.off rfl rfl rfl rfl rfl rfl ?_
          refine SeqK.off rfl rfl rfl rfl rfl rfl ?_
          refine SeqK.off rfl rfl rfl rfl rfl rfl ?_
          refine SeqK.q (q_pkT rfl rfl rfl) rfl rfl rfl ?_
          refine SeqK.nil ?_
          refine AW.condT rfl ?_
          refine AW.seq ?_
          refine AW.reg ?_
          refine SeqK.q (q_fieldL _ rfl Fx.fl62_4 rfl rfl) rfl rfl rfl ?_
          refine SeqK.r (b_load (r := .a _) rfl Fx.ty60 rfl rfl rfl rfl rfl rfl) rfl ?_
          refine SeqK.q (q_len rfl Fx.un60 rfl) rfl rfl rfl ?_
          refine SeqK.q (q_fieldL _ rfl Fx.fl62_4 rfl rfl) rfl rfl rfl ?_
          refine SeqK.r (b_load (r := .a _) rfl Fx.ty60 rfl rfl rfl rfl rfl rfl) rfl ?_
          refine SeqK.q (q_len rfl Fx.un60 rfl) rfl rfl rfl ?_
          refine SeqK.q (q_call _ rfl Fx.fn45 rfl (ints_any _ _) rfl) rfl rfl rfl ?_
          refine SeqK.q (q_asC rfl rfl) rfl rfl rfl ?_
          refine SeqK.nil ?_
          refine AW.ret ?_
          exact fin_x (x := .c _) (H) (.tmp rfl .nil) rfl (fun _ _ h => h) (⟨by simp only [List.length_map] at *; rw [cmpP_eq, if_neg h9, if_neg h19, if_neg h29, cmpO_none (by omega)], rfl⟩)
        ·
          refine SeqK.on (q_fieldL _ rfl Fx.fl62_4 rfl rfl) rfl rfl rfl rfl rfl ?_
          refine SeqK.rOn (b_load (r := .a _) rfl Fx.ty60 rfl rfl rfl rfl rfl rfl) rfl rfl rfl ?_
          refine SeqK.on (q_len rfl Fx.un60 rfl) rfl rfl rfl rfl rfl ?_
          refine SeqK.on (q_eql rfl rfl rfl) rfl rfl rfl rfl rfl ?_
          refine SeqK.q (q_pkF rfl rfl rfl) rfl rfl rfl ?_
          refine SeqK.nil ?_
          refine AW.condD rfl (fun h44 => ?_) (fun h44 => ?_)
          ·
            refine AW.seq ?_
            refine AW.reg ?_
            refine SeqK.q (q_fieldL _ rfl Fx.fl62_4 rfl rfl) rfl rfl rfl ?_
            refine SeqK.r (b_load (r := .a _) rfl Fx.ty60 rfl rfl rfl rfl rfl rfl) rfl ?_
            refine SeqK.q (q_len rfl Fx.un60 rfl) rfl rfl rfl ?_
            refine SeqK.q (q_fieldL _ rfl Fx.fl62_4 rfl rfl) rfl rfl rfl ?_
            refine SeqK.r (b_load (r := .a _) rfl Fx.ty60 rfl rfl rfl rfl rfl rfl) rfl ?_
            refine SeqK.q (q_len rfl Fx.un60 rfl) rfl rfl rfl ?_
            refine SeqK.q (q_call _ rfl Fx.fn45 rfl (ints_any _ _) rfl) rfl rfl rfl ?_
            refine SeqK.q (q_asC rfl rfl) rfl rfl rfl ?_
            refine SeqK.nil ?_
            refine AW.ret ?_
            exact fin_x (x := .c _) (H) (.tmp rfl .nil) rfl (fun _ _ h => h) (⟨by simp only [List.length_map] at *; rw [cmpP_eq, if_neg h9, if_neg h19, if_neg h29, cmpO_none (by omega)], rfl⟩)
          ·
            refine AW.skip ?_
            refine AW.seq ?_
            have hp0 : 0 < p.of.length := by rw [List.length_map] at g39; omega
            have hq0 : 0 < q.of.length := by rw [List.length_map] at h44; omega
            refine AW.draw Fx.mo ?_
            refine LexK.q (q_fieldL _ rfl Fx.fl62_4 rfl rfl) rfl rfl rfl ?_
            refine LexK.r (b_load (r := .a _) rfl Fx.ty60 rfl rfl rfl rfl rfl rfl) rfl ?_
            refine LexK.q (q_index _ rfl Fx.sl60 rfl rfl (by omega) (idx_tm hp0)) rfl rfl rfl ?_
            refine LexK.q (q_load (.g [_, _]) rfl Fx.ty24 rfl rfl rfl) rfl rfl rfl ?_
            refine LexK.q (q_fieldL _ rfl Fx.fl62_4 rfl rfl) rfl rfl rfl ?_
            refine LexK.r (b_load (r := .a _) rfl Fx.ty60 rfl rfl rfl rfl rfl rfl) rfl ?_
            refine LexK.q (q_index _ rfl Fx.sl60 rfl rfl (by omega) (idx_tm hq0)) rfl rfl rfl ?_
            refine LexK.q (q_load (.g [_, _]) rfl Fx.ty24 rfl rfl rfl) rfl rfl rfl ?_
            refine LexK.q (q_call _ rfl Fx.fn15 rfl (ih _ (List.getElem_mem hp0) _ (List.getElem_mem hq0)) rfl) rfl rfl rfl ?_
            refine LexK.q (q_asC rfl rfl) rfl rfl rfl ?_
            refine LexK.nil (by kernel_rfl) ?_
            refine AW.ret ?_
            exact fin_x (x := .c _) (H) (.tmp rfl .nil) rfl (fun _ _ h => h) (⟨by rw [cmpP_eq, if_neg h9, if_neg h19, if_neg h29, cmpO_at hp0 hq0], rfl⟩)

theorem rcmp_stop {a b : Tm} {i : Nat} (hi : i < a.ps.length) (hj : i < b.ps.length) (hI : cmpL (a.ps.drop i) (b.ps.drop i) (ints a.c b.c) = cmpT a b) (h : cmpP a.ps[i] b.ps[i] ≠ 0) : cmpT a b = cmpP a.ps[i] b.ps[i] := by
  rw [← hI, cmpL_step hi hj, if_pos h]
theorem rcmp_coef {a b : Tm} {i : Nat} (hi : i < a.ps.length) (hj : i < b.ps.length) (hI : cmpL (a.ps.drop i) (b.ps.drop i) (ints a.c b.c) = cmpT a b) (h : ¬ cmpP a.ps[i] b.ps[i] ≠ 0) (h2 : a.ps[i].coef ≠ b.ps[i].coef) : cmpT a b = ints a.ps[i].coef b.ps[i].coef := by
  rw [← hI, cmpL_step hi hj, if_neg h, if_pos h2]
theorem rcmp_go {a b : Tm} {i : Nat} (hi : i < a.ps.length) (hj : i < b.ps.length) (hI : cmpL (a.ps.drop i) (b.ps.drop i) (ints a.c b.c) = cmpT a b) (h : ¬ cmpP a.ps[i] b.ps[i] ≠ 0) (h2 : ¬ a.ps[i].coef ≠ b.ps[i].coef) : cmpL (a.ps.drop (i + 1)) (b.ps.drop (i + 1)) (ints a.c b.c) = cmpT a b := by
  rw [← hI, cmpL_step hi hj, if_neg h, if_neg h2]
theorem rcmp_end {a b : Tm} {i : Nat} (hi : i ≤ a.ps.length) (hj : i ≤ b.ps.length) (he : i = a.ps.length ∨ i = b.ps.length) (hI : cmpL (a.ps.drop i) (b.ps.drop i) (ints a.c b.c) = cmpT a b) : cmpT a b = if (a.ps.length : Int) ≠ b.ps.length then ints a.ps.length b.ps.length else ints a.c b.c := by
  rw [← hI, cmpL_end hi hj he]

set_option maxRecDepth 20000 in
theorem rcmp_of (a b : Tm) (hN : a.cnt ≤ 100000) (ih : ∀ p ∈ a.ps, ∀ o ∈ p.of, ∀ q ∈ b.ps, ∀ o2 ∈ q.of, Pure Tryd.prog 15 [tmC o, tmC o2] (.c (iC (cmpT o o2)))) : Pure Tryd.prog 15 [tmC a, tmC b] (.c (iC (cmpT a b))) := by
  intro H
  refine Spec.enter Tryd.func15 rfl ?_
  refine AW.wk (Wk.keep 80 [(0, .c (tmC a)), (1, .c (tmC b))] [] (H) rfl ⟨rfl, rfl, trivial⟩ trivial (fun _ _ h => h) rfl) ?_
  refine AW.seq ?_
  refine AW.reg ?_
  refine SeqK.r (b_box (r := [_, _]) rfl rfl rfl rfl rfl rfl) rfl ?_
  refine SeqK.r (b_box (r := [_, _]) rfl rfl rfl rfl rfl rfl) rfl ?_
  refine SeqK.q (q_asC rfl rfl) rfl rfl rfl ?_
  refine SeqK.nil ?_
  refine AW.seq ?_
  refine AW.seq ?_
  have hla := len_ps a
  refine AW.reg ?_
  refine SeqK.q (q_asC rfl rfl) rfl rfl rfl ?_
  refine SeqK.nil ?_
  refine AW.block ?_
  refine AW.loop (fun (i : Nat) s => ((i ≤ a.ps.length ∧ i ≤ b.ps.length) ∧ cmpL (a.ps.drop i) (b.ps.drop i) (ints a.c b.c) = cmpT a b) ∧ s = ⟨80, sp [(2, .lp 2 0), (3, .lp 3 0), (4, .c (iC 0)), (5, iX .i64 ((i : Nat) : Int))], lv [(2, .box [.t (.v (.int .i64 a.c)), .t (.sl .un 5 (a.ps.map ptT))]), (3, .box [.t (.v (.int .i64 b.c)), .t (.sl .un 5 (b.ps.map ptT))])], H⟩) (fun i => a.ps.length - i) 0 ⟨_, Wk.keep 80 [(2, .lp 2 0), (3, .lp 3 0), (4, .c (iC 0)), (5, iX .i64 ((((0 : Nat)) : Nat) : Int))] [(2, .box [.t (.v (.int .i64 a.c)), .t (.sl .un 5 (a.ps.map ptT))]), (3, .box [.t (.v (.int .i64 b.c)), .t (.sl .un 5 (b.ps.map ptT))])] (H) rfl ⟨rfl, rfl, rfl, rfl, trivial⟩ ⟨rfl, rfl, trivial⟩ (fun _ _ h => h) rfl, ⟨⟨Nat.zero_le _, Nat.zero_le _⟩, (cmpT_eq a b).symm⟩, rfl⟩ (fun i s hs => ?_)
  obtain ⟨⟨hi0, hI⟩, rfl⟩ := hs
  refine AW.seq ?_
  refine AW.seq ?_
  refine AW.reg ?_
  refine SeqK.q (q_mvC rfl rfl) rfl rfl rfl ?_
  refine SeqK.q (q_fieldL _ rfl Fx.fl24_1 rfl rfl) rfl rfl rfl ?_
  refine SeqK.r (b_load (r := .a _) rfl Fx.ty22 rfl rfl rfl rfl rfl rfl) rfl ?_
  refine SeqK.q (q_len rfl Fx.un22 rfl) rfl rfl rfl ?_
  refine SeqK.q (q_lss rfl rfl rfl) rfl rfl rfl ?_
  refine SeqK.qD (q_mvC rfl rfl) rfl rfl rfl (fun g12 => ?_) (fun g12 => ?_)
  ·
    refine SeqK.on (q_mvC rfl rfl) rfl rfl rfl rfl rfl ?_
    refine SeqK.on (q_fieldL _ rfl Fx.fl24_1 rfl rfl) rfl rfl rfl rfl rfl ?_
    refine SeqK.rOn (b_load (r := .a _) rfl Fx.ty22 rfl rfl rfl rfl rfl rfl) rfl rfl rfl ?_
    refine SeqK.on (q_len rfl Fx.un22 rfl) rfl rfl rfl rfl rfl ?_
    refine SeqK.on (q_lss rfl rfl rfl) rfl rfl rfl rfl rfl ?_
    refine SeqK.q (q_pkT rfl rfl rfl) rfl rfl rfl ?_
    refine SeqK.nil ?_
    refine AW.condD rfl (fun h18 => ?_) (fun h18 => ?_)
    ·
      have hij : i < a.ps.length ∧ i < b.ps.length := by simp only [List.length_map] at g12 h18; omega
      have hi := hij.1
      have hj := hij.2
      refine AW.skip ?_
      refine AW.seq ?_
      refine AW.block ?_
      refine AW.seq ?_
      refine AW.seq ?_
      refine AW.draw Fx.mo ?_
      refine LexK.q (q_fieldL _ rfl Fx.fl24_1 rfl rfl) rfl rfl rfl ?_
      refine LexK.r (b_load (r := .a _) rfl Fx.ty22 rfl rfl rfl rfl rfl rfl) rfl ?_
      refine LexK.q (q_mvC rfl rfl) rfl rfl rfl ?_
      refine LexK.q (q_index _ rfl Fx.sl22 rfl rfl (by omega) (idx_map (f := ptT) hi)) rfl rfl rfl ?_
      refine LexK.q (q_load (.g [_, _, _, _, _]) rfl Fx.ty62 rfl rfl rfl) rfl rfl rfl ?_
      refine LexK.q (q_fieldL _ rfl Fx.fl24_1 rfl rfl) rfl rfl rfl ?_
      refine LexK.r (b_load (r := .a _) rfl Fx.ty22 rfl rfl rfl rfl rfl rfl) rfl ?_
      refine LexK.q (q_mvC rfl rfl) rfl rfl rfl ?_
      refine LexK.q (q_index _ rfl Fx.sl22 rfl rfl (by omega) (idx_map (f := ptT) hj)) rfl rfl rfl ?_
      refine LexK.q (q_load (.g [_, _, _, _, _]) rfl Fx.ty62 rfl rfl rfl) rfl rfl rfl ?_
      refine LexK.q (q_call _ rfl Fx.fn44 rfl (rparts_of a.ps[i] b.ps[i] (fun o ho b2 hb2 => ih _ (List.getElem_mem hi) o ho _ (List.getElem_mem hj) b2 hb2)) rfl) rfl rfl rfl ?_
      refine LexK.q (q_asC rfl rfl) rfl rfl rfl ?_
      refine LexK.nil (by kernel_rfl) ?_
      refine AW.seq ?_
      refine AW.reg ?_
      refine SeqK.q (q_mvC rfl rfl) rfl rfl rfl ?_
      refine SeqK.q (q_neq rfl rfl rfl) rfl rfl rfl ?_
      refine SeqK.nil ?_
      refine AW.condD rfl (fun h33 => ?_) (fun h33 => ?_)
      ·
        refine AW.seq ?_
        refine AW.reg ?_
        refine SeqK.q (q_mvC rfl rfl) rfl rfl rfl ?_
        refine SeqK.q (q_asC rfl rfl) rfl rfl rfl ?_
        refine SeqK.nil ?_
        refine AW.ret ?_
        exact fin_x (x := .c _) (H) (.tmp rfl .nil) rfl (fun _ _ h => h) (⟨by rw [rcmp_stop hi hj hI h33], rfl⟩)
      ·
        refine AW.skip ?_
        refine AW.seq ?_
        refine AW.draw Fx.mo ?_
        refine LexK.q (q_fieldL _ rfl Fx.fl24_1 rfl rfl) rfl rfl rfl ?_
        refine LexK.r (b_load (r := .a _) rfl Fx.ty22 rfl rfl rfl rfl rfl rfl) rfl ?_
        refine LexK.q (q_mvC rfl rfl) rfl rfl rfl ?_
        refine LexK.q (q_index _ rfl Fx.sl22 rfl rfl (by omega) (idx_map (f := ptT) hi)) rfl rfl rfl ?_
        refine LexK.q (q_fieldP _ rfl Fx.fl62_0 rfl rfl) rfl rfl rfl ?_
        refine LexK.q (q_load (.a _) rfl Fx.ty2 rfl rfl rfl) rfl rfl rfl ?_
        refine LexK.q (q_fieldL _ rfl Fx.fl24_1 rfl rfl) rfl rfl rfl ?_
        refine LexK.r (b_load (r := .a _) rfl Fx.ty22 rfl rfl rfl rfl rfl rfl) rfl ?_
        refine LexK.q (q_mvC rfl rfl) rfl rfl rfl ?_
        refine LexK.q (q_index _ rfl Fx.sl22 rfl rfl (by omega) (idx_map (f := ptT) hj)) rfl rfl rfl ?_
        refine LexK.q (q_fieldP _ rfl Fx.fl62_0 rfl rfl) rfl rfl rfl ?_
        refine LexK.q (q_load (.a _) rfl Fx.ty2 rfl rfl rfl) rfl rfl rfl ?_
        refine LexK.q (q_neq rfl rfl rfl) rfl rfl rfl ?_
        refine LexK.nil (by kernel_rfl) ?_
        refine AW.condD rfl (fun h47 => ?_) (fun h47 => ?_)
        ·
          refine AW.seq ?_
          refine AW.draw Fx.mo ?_
          refine LexK.q (q_fieldL _ rfl Fx.fl24_1 rfl rfl) rfl rfl rfl ?_
          refine LexK.r (b_load (r := .a _) rfl Fx.ty22 rfl rfl rfl rfl rfl rfl) rfl ?_
          refine LexK.q (q_mvC rfl rfl) rfl rfl rfl ?_
          refine LexK.q (q_index _ rfl Fx.sl22 rfl rfl (by omega) (idx_map (f := ptT) hi)) rfl rfl rfl ?_
          refine LexK.q (q_fieldP _ rfl Fx.fl62_0 rfl rfl) rfl rfl rfl ?_
          refine LexK.q (q_load (.a _) rfl Fx.ty2 rfl rfl rfl) rfl rfl rfl ?_
          refine LexK.q (q_fieldL _ rfl Fx.fl24_1 rfl rfl) rfl rfl rfl ?_
          refine LexK.r (b_load (r := .a _) rfl Fx.ty22 rfl rfl rfl rfl rfl rfl) rfl ?_
          refine LexK.q (q_mvC rfl rfl) rfl rfl rfl ?_
          refine LexK.q (q_index _ rfl Fx.sl22 rfl rfl (by omega) (idx_map (f := ptT) hj)) rfl rfl rfl ?_
          refine LexK.q (q_fieldP _ rfl Fx.fl62_0 rfl rfl) rfl rfl rfl ?_
          refine LexK.q (q_load (.a _) rfl Fx.ty2 rfl rfl rfl) rfl rfl rfl ?_
          refine LexK.q (q_call _ rfl Fx.fn45 rfl (ints_any _ _) rfl) rfl rfl rfl ?_
          refine LexK.q (q_asC rfl rfl) rfl rfl rfl ?_
          refine LexK.nil (by kernel_rfl) ?_
          refine AW.ret ?_
          exact fin_x (x := .c _) (H) (.tmp rfl .nil) rfl (fun _ _ h => h) (⟨by rw [rcmp_coef hi hj hI h33 h47], rfl⟩)
        ·
          refine AW.skip ?_
          refine AW.reg ?_
          refine SeqK.q (q_mvC rfl rfl) rfl rfl rfl ?_
          refine SeqK.q (q_add _ rfl rfl rfl (w64 (by omega) (by omega))) rfl rfl rfl ?_
          refine SeqK.q (q_asC rfl rfl) rfl rfl rfl ?_
          refine SeqK.nil ?_
          exact ⟨i + 1, _, Wk.keep 80 [(2, .lp 2 0), (3, .lp 3 0), (4, .c (iC 0)), (5, iX .i64 (((i + 1) : Nat) : Int))] [(2, .box [.t (.v (.int .i64 a.c)), .t (.sl .un 5 (a.ps.map ptT))]), (3, .box [.t (.v (.int .i64 b.c)), .t (.sl .un 5 (b.ps.map ptT))])] (H) rfl ⟨rfl, rfl, rfl, rfl, trivial⟩ ⟨rfl, rfl, trivial⟩ (fun _ _ h => h) rfl, by omega, ⟨⟨hi, hj⟩, rcmp_go hi hj hI h33 h47⟩, rfl⟩
    ·
      refine AW.exit ?_
      refine eth_e ?_
      refine eth_e ?_
      refine exit_here ?_
      refine AW.seq ?_
      refine AW.seq ?_
      refine AW.reg ?_
      refine SeqK.q (q_fieldL _ rfl Fx.fl24_1 rfl rfl) rfl rfl rfl ?_
      refine SeqK.r (b_load (r := .a _) rfl Fx.ty22 rfl rfl rfl rfl rfl rfl) rfl ?_
      refine SeqK.q (q_len rfl Fx.un22 rfl) rfl rfl rfl ?_
      refine SeqK.q (q_fieldL _ rfl Fx.fl24_1 rfl rfl) rfl rfl rfl ?_
      refine SeqK.r (b_load (r := .a _) rfl Fx.ty22 rfl rfl rfl rfl rfl rfl) rfl ?_
      refine SeqK.q (q_len rfl Fx.un22 rfl) rfl rfl rfl ?_
      refine SeqK.q (q_neq rfl rfl rfl) rfl rfl rfl ?_
      refine SeqK.nil ?_
      refine AW.condD rfl (fun h67 => ?_) (fun h67 => ?_)
      ·
        refine AW.seq ?_
        refine AW.reg ?_
        refine SeqK.q (q_fieldL _ rfl Fx.fl24_1 rfl rfl) rfl rfl rfl ?_
        refine SeqK.r (b_load (r := .a _) rfl Fx.ty22 rfl rfl rfl rfl rfl rfl) rfl ?_
        refine SeqK.q (q_len rfl Fx.un22 rfl) rfl rfl rfl ?_
        refine SeqK.q (q_fieldL _ rfl Fx.fl24_1 rfl rfl) rfl rfl rfl ?_
        refine SeqK.r (b_load (r := .a _) rfl Fx.ty22 rfl rfl rfl rfl rfl rfl) rfl ?_
        refine SeqK.q (q_len rfl Fx.un22 rfl) rfl rfl rfl ?_
        refine SeqK.q (q_call _ rfl Fx.fn45 rfl (ints_any _ _) rfl) rfl rfl rfl ?_
        refine SeqK.q (q_asC rfl rfl) rfl rfl rfl ?_
        refine SeqK.nil ?_
        refine AW.ret ?_
        exact fin_x (x := .c _) (H) (.tmp rfl .nil) rfl (fun _ _ h => h) (⟨by rw [rcmp_end hi0.1 hi0.2 (by simp only [List.length_map] at *; omega) hI, if_pos (by simp only [List.length_map] at *; omega), List.length_map, List.length_map], rfl⟩)
      ·
        refine AW.skip ?_
        refine AW.seq ?_
        refine AW.reg ?_
        refine SeqK.q (q_fieldL _ rfl Fx.fl24_0 rfl rfl) rfl rfl rfl ?_
        refine SeqK.r (b_load (r := .a _) rfl Fx.ty2 rfl rfl rfl rfl rfl rfl) rfl ?_
        refine SeqK.q (q_fieldL _ rfl Fx.fl24_0 rfl rfl) rfl rfl rfl ?_
        refine SeqK.r (b_load (r := .a _) rfl Fx.ty2 rfl rfl rfl rfl rfl rfl) rfl ?_
        refine SeqK.q (q_call _ rfl Fx.fn45 rfl (ints_any _ _) rfl) rfl rfl rfl ?_
        refine SeqK.q (q_asC rfl rfl) rfl rfl rfl ?_
        refine SeqK.nil ?_
        refine AW.ret ?_
        exact fin_x (x := .c _) (H) (.tmp rfl .nil) rfl (fun _ _ h => h) (⟨by rw [rcmp_end hi0.1 hi0.2 (by simp only [List.length_map] at *; omega) hI, if_neg (by simp only [List.length_map] at *; omega)], rfl⟩)
  ·
    refine SeqK.off rfl rfl rfl rfl rfl rfl ?_
    refine SeqK.off rfl rfl rfl rfl rfl rfl ?_
    refine SeqK.off rfl rfl rfl rfl rfl rfl ?_
    refine SeqK.off rfl rfl rfl rfl rfl rfl ?_
    refine SeqK.off rfl rfl rfl rfl rfl rfl ?_
    refine SeqK.q (q_pkF rfl rfl rfl) rfl rfl rfl ?_
    refine SeqK.nil ?_
    refine AW.condF rfl ?_
    refine AW.exit ?_
    refine eth_e ?_
    refine eth_e ?_
    refine exit_here ?_
    refine AW.seq ?_
    refine AW.seq ?_
    refine AW.reg ?_
    refine SeqK.q (q_fieldL _ rfl Fx.fl24_1 rfl rfl) rfl rfl rfl ?_
    refine SeqK.r (b_load (r := .a _) rfl Fx.ty22 rfl rfl rfl rfl rfl rfl) rfl ?_
    refine SeqK.q (q_len rfl Fx.un22 rfl) rfl rfl rfl ?_
    refine SeqK.q (q_fieldL _ rfl Fx.fl24_1 rfl rfl) rfl rfl rfl ?_
    refine SeqK.r (b_load (r := .a _) rfl Fx.ty22 rfl rfl rfl rfl rfl rfl) rfl ?_
    refine SeqK.q (q_len rfl Fx.un22 rfl) rfl rfl rfl ?_
    refine SeqK.q (q_neq rfl rfl rfl) rfl rfl rfl ?_
    refine SeqK.nil ?_
    refine AW.condD rfl (fun h67 => ?_) (fun h67 => ?_)
    ·
      refine AW.seq ?_
      refine AW.reg ?_
      refine SeqK.q (q_fieldL _ rfl Fx.fl24_1 rfl rfl) rfl rfl rfl ?_
      refine SeqK.r (b_load (r := .a _) rfl Fx.ty22 rfl rfl rfl rfl rfl rfl) rfl ?_
      refine SeqK.q (q_len rfl Fx.un22 rfl) rfl rfl rfl ?_
      refine SeqK.q (q_fieldL _ rfl Fx.fl24_1 rfl rfl) rfl rfl rfl ?_
      refine SeqK.r (b_load (r := .a _) rfl Fx.ty22 rfl rfl rfl rfl rfl rfl) rfl ?_
      refine SeqK.q (q_len rfl Fx.un22 rfl) rfl rfl rfl ?_
      refine SeqK.q (q_call _ rfl Fx.fn45 rfl (ints_any _ _) rfl) rfl rfl rfl ?_
      refine SeqK.q (q_asC rfl rfl) rfl rfl rfl ?_
      refine SeqK.nil ?_
      refine AW.ret ?_
      exact fin_x (x := .c _) (H) (.tmp rfl .nil) rfl (fun _ _ h => h) (⟨by rw [rcmp_end hi0.1 hi0.2 (by simp only [List.length_map] at *; omega) hI, if_pos (by simp only [List.length_map] at *; omega), List.length_map, List.length_map], rfl⟩)
    ·
      refine AW.skip ?_
      refine AW.seq ?_
      refine AW.reg ?_
      refine SeqK.q (q_fieldL _ rfl Fx.fl24_0 rfl rfl) rfl rfl rfl ?_
      refine SeqK.r (b_load (r := .a _) rfl Fx.ty2 rfl rfl rfl rfl rfl rfl) rfl ?_
      refine SeqK.q (q_fieldL _ rfl Fx.fl24_0 rfl rfl) rfl rfl rfl ?_
      refine SeqK.r (b_load (r := .a _) rfl Fx.ty2 rfl rfl rfl rfl rfl rfl) rfl ?_
      refine SeqK.q (q_call _ rfl Fx.fn45 rfl (ints_any _ _) rfl) rfl rfl rfl ?_
      refine SeqK.q (q_asC rfl rfl) rfl rfl rfl ?_
      refine SeqK.nil ?_
      refine AW.ret ?_
      exact fin_x (x := .c _) (H) (.tmp rfl .nil) rfl (fun _ _ h => h) (⟨by rw [rcmp_end hi0.1 hi0.2 (by simp only [List.length_map] at *; omega) hI, if_neg (by simp only [List.length_map] at *; omega)], rfl⟩)

theorem rcmp_any (a : Tm) : a.cnt ≤ 100000 → ∀ b, Pure Tryd.prog 15 [tmC a, tmC b] (.c (iC (cmpT a b))) := by
  induction a using Tm.ind with
  | h a ih =>
    intro hN b
    exact rcmp_of a b hN fun p hp o ho q hq o2 ho2 => ih p hp o ho (by have := cnt_of hp ho; omega) o2
theorem rparts_any (p q : Pt) (hN : p.cnt ≤ 100000) : Pure Tryd.prog 44 [ptC p, ptC q] (.c (iC (cmpP p q))) :=
  rparts_of p q fun o ho b hb => rcmp_any o (by rw [Pt.cnt_eq] at hN; have := cntTs_mem ho; omega) b

end Go.Proofs.YtfbdokfcebpkaaaDoor.W
namespace Go.Proofs.YtfbdokfcebpkaaaDoor.W
open Go.RowKit E M
set_option linter.unusedVariables false
set_option linter.unusedSimpArgs false
set_option linter.unusedSectionVars false
theorem mul64_any (x y : Nat) (hx : x < 18446744073709551616) (hy : y < 18446744073709551616) : Pure Tryd.prog 86 [u64C x, u64C y] (.tup [u64C (x * y / 18446744073709551616), u64C (x * y % 18446744073709551616)]) :=
  Pure.of_calls [.int .u64 (x : Int), .int .u64 (y : Int)] (fun w => Tryd.bits_Mul64 x y hx hy w) fun c => ⟨_, rfl, .cons (.t (.v rfl)) (.cons (.t (.v rfl)) .nil)⟩

set_option maxRecDepth 20000 in
theorem times_any (x y : Nat) (hx : x < 18446744073709551616) (hy : y < 18446744073709551616) : Pure Tryd.prog 71 [u64C x, u64C y] (.c (u64C (cap (x * y)))) := by
  intro H
  refine Spec.enter Tryd.func71 rfl ?_
  refine AW.wk (Wk.keep 20 [(0, .c (u64C x)), (1, .c (u64C y))] [] (H) rfl ⟨rfl, rfl, trivial⟩ trivial (fun _ _ h => h) rfl) ?_
  refine AW.seq ?_
  refine AW.reg ?_
  refine SeqK.q (q_asC rfl rfl) rfl rfl rfl ?_
  refine SeqK.nil ?_
  refine AW.seq ?_
  refine AW.reg ?_
  refine SeqK.q (q_mvC rfl rfl) rfl rfl rfl ?_
  refine SeqK.q (q_mvC rfl rfl) rfl rfl rfl ?_
  refine SeqK.q (q_call _ rfl Fx.fn86 rfl (mul64_any _ _ hx hy) rfl) rfl rfl rfl ?_
  refine SeqK.q (q_mvT rfl rfl) rfl rfl rfl ?_
  refine SeqK.q (q_extract _ rfl rfl rfl) rfl rfl rfl ?_
  refine SeqK.q (q_extract _ rfl rfl rfl) rfl rfl rfl ?_
  refine SeqK.q (q_asC rfl rfl) rfl rfl rfl ?_
  refine SeqK.q (q_asC rfl rfl) rfl rfl rfl ?_
  refine SeqK.nil ?_
  refine AW.seq ?_
  refine AW.seq ?_
  refine AW.reg ?_
  refine SeqK.q (q_mvC rfl rfl) rfl rfl rfl ?_
  refine SeqK.q (q_neq rfl rfl rfl) rfl rfl rfl ?_
  refine SeqK.qD (q_mvC rfl rfl) rfl rfl rfl (fun g15 => ?_) (fun g15 => ?_)
  ·
    refine SeqK.off rfl rfl rfl rfl rfl rfl ?_
    refine SeqK.off rfl rfl rfl rfl rfl rfl ?_
    refine SeqK.q (q_pkT rfl rfl rfl) rfl rfl rfl ?_
    refine SeqK.nil ?_
    refine AW.condT rfl ?_
    refine AW.seq ?_
    refine AW.reg ?_
    refine SeqK.q (q_asC rfl rfl) rfl rfl rfl ?_
    refine SeqK.nil ?_
    refine AW.ret ?_
    exact fin_x (x := .c _) (H) (.tmp rfl .nil) rfl (fun _ _ h => h) (⟨by rw [show cap (x * y) = 1152921504606846977 by unfold cap; omega]; rfl, rfl⟩)
  ·
    refine SeqK.on (q_mvC rfl rfl) rfl rfl rfl rfl rfl ?_
    refine SeqK.on (q_gtr rfl rfl rfl) rfl rfl rfl rfl rfl ?_
    refine SeqK.q (q_pkF rfl rfl rfl) rfl rfl rfl ?_
    refine SeqK.nil ?_
    refine AW.condD rfl (fun h18 => ?_) (fun h18 => ?_)
    ·
      refine AW.seq ?_
      refine AW.reg ?_
      refine SeqK.q (q_asC rfl rfl) rfl rfl rfl ?_
      refine SeqK.nil ?_
      refine AW.ret ?_
      exact fin_x (x := .c _) (H) (.tmp rfl .nil) rfl (fun _ _ h => h) (⟨by rw [show cap (x * y) = 1152921504606846977 by unfold cap; omega]; rfl, rfl⟩)
    ·
      refine AW.skip ?_
      refine AW.seq ?_
      refine AW.reg ?_
      refine SeqK.q (q_mvC rfl rfl) rfl rfl rfl ?_
      refine SeqK.q (q_asC rfl rfl) rfl rfl rfl ?_
      refine SeqK.nil ?_
      refine AW.ret ?_
      exact fin_x (x := .c _) (H) (.tmp rfl .nil) rfl (fun _ _ h => h) (⟨by rw [show cap (x * y) = x * y % 18446744073709551616 by unfold cap; omega], rfl⟩)

set_option maxRecDepth 20000 in
theorem plus_any (x y : Nat) (hxy : x + y < 18446744073709551616) : Pure Tryd.prog 96 [u64C x, u64C y] (.c (u64C (cap (x + y)))) := by
  intro H
  refine Spec.enter Tryd.func96 rfl ?_
  refine AW.wk (Wk.keep 20 [(0, .c (u64C x)), (1, .c (u64C y))] [] (H) rfl ⟨rfl, rfl, trivial⟩ trivial (fun _ _ h => h) rfl) ?_
  refine AW.seq ?_
  refine AW.reg ?_
  refine SeqK.q (q_asC rfl rfl) rfl rfl rfl ?_
  refine SeqK.nil ?_
  refine AW.seq ?_
  refine AW.reg ?_
  refine SeqK.q (q_mvC rfl rfl) rfl rfl rfl ?_
  refine SeqK.q (q_mvC rfl rfl) rfl rfl rfl ?_
  refine SeqK.q (q_ext (ex := add64F) (us := [.int .u64 (x : Int), .int .u64 (y : Int), .int .u64 0]) (x := .tup [u64C ((x + y) % 2 ^ 64), u64C ((x + y) / 2 ^ 64)]) rfl rfl Tryd.func112 (by kernel_rfl) (by kernel_rfl) (by kernel_rfl) (by kernel_rfl) (run_add64N x y) (fun c => ⟨_, rfl, .cons (.t (.v rfl)) (.cons (.t (.v rfl)) .nil)⟩) rfl) rfl rfl rfl ?_
  refine SeqK.q (q_mvT rfl rfl) rfl rfl rfl ?_
  refine SeqK.q (q_extract _ rfl rfl rfl) rfl rfl rfl ?_
  refine SeqK.q (q_extract _ rfl rfl rfl) rfl rfl rfl ?_
  refine SeqK.q (q_asC rfl rfl) rfl rfl rfl ?_
  refine SeqK.q (q_asC rfl rfl) rfl rfl rfl ?_
  refine SeqK.nil ?_
  refine AW.seq ?_
  refine AW.seq ?_
  refine AW.reg ?_
  refine SeqK.q (q_mvC rfl rfl) rfl rfl rfl ?_
  refine SeqK.q (q_neq rfl rfl rfl) rfl rfl rfl ?_
  refine SeqK.qD (q_mvC rfl rfl) rfl rfl rfl (fun g15 => ?_) (fun g15 => ?_)
  ·
    refine SeqK.off rfl rfl rfl rfl rfl rfl ?_
    refine SeqK.off rfl rfl rfl rfl rfl rfl ?_
    refine SeqK.q (q_pkT rfl rfl rfl) rfl rfl rfl ?_
    refine SeqK.nil ?_
    refine AW.condT rfl ?_
    refine AW.seq ?_
    refine AW.reg ?_
    refine SeqK.q (q_asC rfl rfl) rfl rfl rfl ?_
    refine SeqK.nil ?_
    refine AW.ret ?_
    exact fin_x (x := .c _) (H) (.tmp rfl .nil) rfl (fun _ _ h => h) (⟨by rw [show cap (x + y) = 1152921504606846977 by unfold cap; omega]; rfl, rfl⟩)
  ·
    refine SeqK.on (q_mvC rfl rfl) rfl rfl rfl rfl rfl ?_
    refine SeqK.on (q_gtr rfl rfl rfl) rfl rfl rfl rfl rfl ?_
    refine SeqK.q (q_pkF rfl rfl rfl) rfl rfl rfl ?_
    refine SeqK.nil ?_
    refine AW.condD rfl (fun h18 => ?_) (fun h18 => ?_)
    ·
      refine AW.seq ?_
      refine AW.reg ?_
      refine SeqK.q (q_asC rfl rfl) rfl rfl rfl ?_
      refine SeqK.nil ?_
      refine AW.ret ?_
      exact fin_x (x := .c _) (H) (.tmp rfl .nil) rfl (fun _ _ h => h) (⟨by rw [show cap (x + y) = 1152921504606846977 by unfold cap; omega]; rfl, rfl⟩)
    ·
      refine AW.skip ?_
      refine AW.seq ?_
      refine AW.reg ?_
      refine SeqK.q (q_mvC rfl rfl) rfl rfl rfl ?_
      refine SeqK.q (q_asC rfl rfl) rfl rfl rfl ?_
      refine SeqK.nil ?_
      refine AW.ret ?_
      exact fin_x (x := .c _) (H) (.tmp rfl .nil) rfl (fun _ _ h => h) (⟨by rw [show cap (x + y) = (x + y) % 2 ^ 64 by unfold cap; omega], rfl⟩)

theorem plusT (t : Tm) (i : Nat) (hi : i < t.ps.length) : Pure Tryd.prog 96 [u64C (cap (t.c.natAbs + bndPs (t.ps.take i))), u64C (cap (t.ps[i].coef.natAbs * bndP t.ps[i]))] (.c (u64C (cap (t.c.natAbs + bndPs (t.ps.take (i + 1)))))) := by
  have h := plus_any (cap (t.c.natAbs + bndPs (t.ps.take i))) (cap (t.ps[i].coef.natAbs * bndP t.ps[i])) (by have := cap_le (t.c.natAbs + bndPs (t.ps.take i)); have := cap_le (t.ps[i].coef.natAbs * bndP t.ps[i]); omega)
  rw [cap_add] at h
  rw [bndPs_take hi, ← Nat.add_assoc]; exact h
theorem plus_zero (t : Tm) (h : R64 t.c) : Pure Tryd.prog 96 [u64C t.c.natAbs, .a (.t (.v (.int .u64 0)))] (.c (u64C (cap (t.c.natAbs + bndPs (t.ps.take 0))))) := by
  have := plus_any t.c.natAbs 0 (by omega)
  exact this
theorem timesB (p : Pt) (y : Nat) (hy : bndP p = y) (hc : R64 p.coef) (hp : bokP p) : Pure Tryd.prog 71 [u64C p.coef.natAbs, u64C y] (.c (u64C (cap (p.coef.natAbs * bndP p)))) := by
  have := bokP_le hp
  subst hy
  exact times_any _ _ (by omega) (by omega)
theorem quoN {x d : Nat} (hx : x ≤ 2 ^ 62) : IntKind.u64.wrap ((x : Int).tdiv (d : Int)) = ((x / d : Nat) : Int) := by
  have h : (x : Int).tdiv (d : Int) = ((x / d : Nat) : Int) := rfl
  have h1 : ((x / d : Nat) : Int) ≤ (x : Int) := by exact_mod_cast Nat.div_le_self x d
  have h0 : (0 : Int) ≤ ((x / d : Nat) : Int) := Int.natCast_nonneg _
  rw [h, wu64 h0 (by omega)]

set_option maxRecDepth 20000 in
theorem bound_of (t : Tm) (h : bokT t) (hN : t.cnt ≤ 100000) (ih : ∀ p ∈ t.ps, ∀ o ∈ p.of, vldT o = true → Pure Tryd.prog 83 [tmC o] (.c (u64C (cap (bndT o))))) : Pure Tryd.prog 83 [tmC t] (.c (u64C (cap (bndT t)))) := by
  intro H
  refine Spec.enter Tryd.func83 rfl ?_
  refine AW.wk (Wk.keep 46 [(0, .c (tmC t))] [] (H) rfl ⟨rfl, trivial⟩ trivial (fun _ _ h => h) rfl) ?_
  refine AW.seq ?_
  refine AW.reg ?_
  refine SeqK.r (b_box (r := [_, _]) rfl rfl rfl rfl rfl rfl) rfl ?_
  refine SeqK.q (q_asC rfl rfl) rfl rfl rfl ?_
  refine SeqK.nil ?_
  refine AW.seq ?_
  have hlt := len_ps t
  refine AW.reg ?_
  refine SeqK.q (q_fieldL _ rfl Fx.fl24_0 rfl rfl) rfl rfl rfl ?_
  refine SeqK.r (b_load (r := .a _) rfl Fx.ty2 rfl rfl rfl rfl rfl rfl) rfl ?_
  refine SeqK.q (q_call _ rfl Fx.fn50 rfl (abs_any _ (by first | exact h.c | exact h.coef _ (List.getElem_mem hi))) rfl) rfl rfl rfl ?_
  refine SeqK.q (q_call _ rfl Fx.fn96 rfl (plus_zero t h.c) rfl) rfl rfl rfl ?_
  refine SeqK.q (q_asC rfl rfl) rfl rfl rfl ?_
  refine SeqK.nil ?_
  refine AW.seq ?_
  refine AW.seq ?_
  refine AW.reg ?_
  refine SeqK.q (q_fieldL _ rfl Fx.fl24_1 rfl rfl) rfl rfl rfl ?_
  refine SeqK.r (b_load (r := .a _) rfl Fx.ty22 rfl rfl rfl rfl rfl rfl) rfl ?_
  refine SeqK.q (q_len rfl Fx.un22 rfl) rfl rfl rfl ?_
  refine SeqK.q (q_mvC rfl rfl) rfl rfl rfl ?_
  refine SeqK.nil ?_
  refine AW.block ?_
  refine AW.loop (fun (i : Nat) s => (i ≤ t.ps.length) ∧ s = ⟨46, sp [(3, .c (u64C (cap (t.c.natAbs + bndPs (t.ps.take i))))), (12, .c (.a (.t (.sl .un 5 (t.ps.map ptT))))), (13, iX .i64 (((t.ps.map ptT).length : Nat) : Int)), (14, iX .i64 ((i : Nat) : Int))], lv [], H⟩) (fun i => t.ps.length - i) 0 ⟨_, Wk.keep 46 [(3, .c (u64C (cap (t.c.natAbs + bndPs (t.ps.take ((0 : Nat))))))), (12, .c (.a (.t (.sl .un 5 (t.ps.map ptT))))), (13, iX .i64 (((t.ps.map ptT).length : Nat) : Int)), (14, iX .i64 ((((0 : Nat)) : Nat) : Int))] [] (H) rfl ⟨rfl, rfl, rfl, rfl, trivial⟩ trivial (fun _ _ h => h) rfl, Nat.zero_le _, rfl⟩ (fun i s hs => ?_)
  obtain ⟨hi0, rfl⟩ := hs
  refine AW.seq ?_
  refine AW.reg ?_
  refine SeqK.q (q_lss rfl rfl rfl) rfl rfl rfl ?_
  refine SeqK.nil ?_
  refine AW.seq ?_
  refine AW.condD rfl (fun h15 => ?_) (fun h15 => ?_)
  ·
    have hi : i < t.ps.length := by rw [List.length_map] at h15; omega
    have hb := h.part _ (List.getElem_mem hi)
    refine AW.skip ?_
    refine AW.seq ?_
    refine AW.block ?_
    refine AW.seq ?_
    refine AW.reg ?_
    refine SeqK.q (q_index _ rfl Fx.sl22 rfl rfl (by omega) (idx_map (f := ptT) hi)) rfl rfl rfl ?_
    refine SeqK.q (q_load (.g [_, _, _, _, _]) rfl Fx.ty62 rfl rfl rfl) rfl rfl rfl ?_
    refine SeqK.r (b_alloc (r := [_, _, _, _, _]) rfl rfl Fx.ze62 rfl rfl rfl rfl) rfl ?_
    refine SeqK.r (b_store (r := [_, _, _, _, _]) rfl rfl Fx.ty62 rfl rfl rfl rfl rfl rfl) rfl ?_
    refine SeqK.nil ?_
    refine AW.seq ?_
    refine AW.reg ?_
    refine SeqK.q (q_asC rfl rfl) rfl rfl rfl ?_
    refine SeqK.nil ?_
    refine AW.seq ?_
    refine AW.seq ?_
    refine AW.reg ?_
    refine SeqK.q (q_fieldL _ rfl Fx.fl62_1 rfl rfl) rfl rfl rfl ?_
    refine SeqK.r (b_load (r := .a _) rfl Fx.ty3 rfl rfl rfl rfl rfl rfl) rfl ?_
    refine SeqK.nil ?_
    refine AW.block ?_
    refine AW.seq ?_
    refine AW.reg ?_
    refine SeqK.q (q_eql rfl rfl rfl) rfl rfl rfl ?_
    refine SeqK.q (q_asC rfl rfl) rfl rfl rfl ?_
    refine SeqK.nil ?_
    refine AW.condD rfl (fun h20 => ?_) (fun h20 => ?_)
    ·
      refine AW.reg ?_
      refine SeqK.q (q_asC rfl rfl) rfl rfl rfl ?_
      refine SeqK.nil ?_
      refine AW.reg ?_
      refine SeqK.q (q_mvC rfl rfl) rfl rfl rfl ?_
      refine SeqK.q (q_fieldL _ rfl Fx.fl62_0 rfl rfl) rfl rfl rfl ?_
      refine SeqK.r (b_load (r := .a _) rfl Fx.ty2 rfl rfl rfl rfl rfl rfl) rfl ?_
      refine SeqK.q (q_call _ rfl Fx.fn50 rfl (abs_any _ (by first | exact h.c | exact h.coef _ (List.getElem_mem hi))) rfl) rfl rfl rfl ?_
      refine SeqK.q (q_mvC rfl rfl) rfl rfl rfl ?_
      refine SeqK.q (q_call _ rfl Fx.fn71 rfl (timesB _ 16 (by rw [bndP_eq, if_pos h20]) (h.coef _ (List.getElem_mem hi)) hb) rfl) rfl rfl rfl ?_
      refine SeqK.q (q_call _ rfl Fx.fn96 rfl (plusT t i hi) rfl) rfl rfl rfl ?_
      refine SeqK.q (q_asC rfl rfl) rfl rfl rfl ?_
      refine SeqK.nil ?_
      refine AW.reg ?_
      refine SeqK.q (q_add _ rfl rfl rfl (w64 (by omega) (by omega))) rfl rfl rfl ?_
      refine SeqK.q (q_mvC rfl rfl) rfl rfl rfl ?_
      refine SeqK.nil ?_
      exact ⟨i + 1, _, Wk.keep 46 [(3, .c (u64C (cap (t.c.natAbs + bndPs (t.ps.take (i + 1)))))), (12, .c (.a (.t (.sl .un 5 (t.ps.map ptT))))), (13, iX .i64 (((t.ps.map ptT).length : Nat) : Int)), (14, iX .i64 (((i + 1) : Nat) : Int))] [] (H) rfl ⟨rfl, rfl, rfl, rfl, trivial⟩ trivial (fun _ _ h => h) rfl, by omega, hi, rfl⟩
    ·
      refine AW.seq ?_
      refine AW.reg ?_
      refine SeqK.q (q_eql rfl rfl rfl) rfl rfl rfl ?_
      refine SeqK.q (q_asC rfl rfl) rfl rfl rfl ?_
      refine SeqK.nil ?_
      refine AW.condD rfl (fun h22 => ?_) (fun h22 => ?_)
      ·
        refine AW.seq ?_
        obtain ⟨hp0, hv1, hv2⟩ := bokP_bnd hb h22
        obtain ⟨hd, _, hvo⟩ := hb h22
        refine AW.reg ?_
        refine SeqK.q (q_fieldL _ rfl Fx.fl62_4 rfl rfl) rfl rfl rfl ?_
        refine SeqK.r (b_load (r := .a _) rfl Fx.ty60 rfl rfl rfl rfl rfl rfl) rfl ?_
        refine SeqK.q (q_index _ rfl Fx.sl60 rfl rfl (by omega) (idx_tm hp0)) rfl rfl rfl ?_
        refine SeqK.q (q_load (.g [_, _]) rfl Fx.ty24 rfl rfl rfl) rfl rfl rfl ?_
        refine SeqK.q (q_call _ rfl Fx.fn83 rfl (ih _ (List.getElem_mem hi) _ (List.getElem_mem hp0) hvo) rfl) rfl rfl rfl ?_
        refine SeqK.q (q_asC rfl rfl) rfl rfl rfl ?_
        refine SeqK.nil ?_
        refine AW.seq ?_
        refine AW.reg ?_
        refine SeqK.q (q_mvC rfl rfl) rfl rfl rfl ?_
        refine SeqK.q (q_leq rfl rfl rfl) rfl rfl rfl ?_
        refine SeqK.nil ?_
        refine AW.condD rfl (fun h30 => ?_) (fun h30 => ?_)
        ·
          have hcap : cap (bndT t.ps[i].of[0]) = bndT t.ps[i].of[0] := by unfold cap; omega
          rw [hcap] at *
          refine AW.reg ?_
          refine SeqK.q (q_mvC rfl rfl) rfl rfl rfl ?_
          refine SeqK.q (q_fieldL _ rfl Fx.fl62_3 rfl rfl) rfl rfl rfl ?_
          refine SeqK.r (b_load (r := .a _) rfl Fx.ty2 rfl rfl rfl rfl rfl rfl) rfl ?_
          refine SeqK.q (q_conv _ rfl Fx.un78 rfl ((by rw [wu64 (by omega) (by omega)]; omega : IntKind.u64.wrap t.ps[i].dv = ((t.ps[i].dv.toNat : Nat) : Int))) ⟨_, Fx.un2⟩) rfl rfl rfl ?_
          refine SeqK.q (q_quo _ rfl rfl rfl (by omega) (quoN (by omega))) rfl rfl rfl ?_
          refine SeqK.q (q_add _ rfl rfl rfl ((by rw [wu64 (by omega) (by have := Nat.div_le_self (bndT t.ps[i].of[0]) t.ps[i].dv.toNat; omega)]; rfl : IntKind.u64.wrap _ = ((bndT t.ps[i].of[0] / t.ps[i].dv.toNat + 1 : Nat) : Int)))) rfl rfl rfl ?_
          refine SeqK.q (q_asC rfl rfl) rfl rfl rfl ?_
          refine SeqK.nil ?_
          refine AW.reg ?_
          refine SeqK.q (q_mvC rfl rfl) rfl rfl rfl ?_
          refine SeqK.q (q_fieldL _ rfl Fx.fl62_0 rfl rfl) rfl rfl rfl ?_
          refine SeqK.r (b_load (r := .a _) rfl Fx.ty2 rfl rfl rfl rfl rfl rfl) rfl ?_
          refine SeqK.q (q_call _ rfl Fx.fn50 rfl (abs_any _ (by first | exact h.c | exact h.coef _ (List.getElem_mem hi))) rfl) rfl rfl rfl ?_
          refine SeqK.q (q_mvC rfl rfl) rfl rfl rfl ?_
          refine SeqK.q (q_call _ rfl Fx.fn71 rfl (timesB _ _ hv2 (h.coef _ (List.getElem_mem hi)) hb) rfl) rfl rfl rfl ?_
          refine SeqK.q (q_call _ rfl Fx.fn96 rfl (plusT t i hi) rfl) rfl rfl rfl ?_
          refine SeqK.q (q_asC rfl rfl) rfl rfl rfl ?_
          refine SeqK.nil ?_
          refine AW.reg ?_
          refine SeqK.q (q_add _ rfl rfl rfl (w64 (by omega) (by omega))) rfl rfl rfl ?_
          refine SeqK.q (q_mvC rfl rfl) rfl rfl rfl ?_
          refine SeqK.nil ?_
          exact ⟨i + 1, _, Wk.keep 46 [(3, .c (u64C (cap (t.c.natAbs + bndPs (t.ps.take (i + 1)))))), (12, .c (.a (.t (.sl .un 5 (t.ps.map ptT))))), (13, iX .i64 (((t.ps.map ptT).length : Nat) : Int)), (14, iX .i64 (((i + 1) : Nat) : Int))] [] (H) rfl ⟨rfl, rfl, rfl, rfl, trivial⟩ trivial (fun _ _ h => h) rfl, by omega, hi, rfl⟩
        ·
          exact absurd (by unfold cap; omega) h30
      ·
        refine AW.skip ?_
        refine AW.reg ?_
        refine SeqK.q (q_mvC rfl rfl) rfl rfl rfl ?_
        refine SeqK.q (q_fieldL _ rfl Fx.fl62_0 rfl rfl) rfl rfl rfl ?_
        refine SeqK.r (b_load (r := .a _) rfl Fx.ty2 rfl rfl rfl rfl rfl rfl) rfl ?_
        refine SeqK.q (q_call _ rfl Fx.fn50 rfl (abs_any _ (by first | exact h.c | exact h.coef _ (List.getElem_mem hi))) rfl) rfl rfl rfl ?_
        refine SeqK.q (q_mvC rfl rfl) rfl rfl rfl ?_
        refine SeqK.q (q_call _ rfl Fx.fn71 rfl (timesB _ (2 ^ 31) (by rw [bndP_eq, if_neg h20, if_neg h22]) (h.coef _ (List.getElem_mem hi)) hb) rfl) rfl rfl rfl ?_
        refine SeqK.q (q_call _ rfl Fx.fn96 rfl (plusT t i hi) rfl) rfl rfl rfl ?_
        refine SeqK.q (q_asC rfl rfl) rfl rfl rfl ?_
        refine SeqK.nil ?_
        refine AW.reg ?_
        refine SeqK.q (q_add _ rfl rfl rfl (w64 (by omega) (by omega))) rfl rfl rfl ?_
        refine SeqK.q (q_mvC rfl rfl) rfl rfl rfl ?_
        refine SeqK.nil ?_
        exact ⟨i + 1, _, Wk.keep 46 [(3, .c (u64C (cap (t.c.natAbs + bndPs (t.ps.take (i + 1)))))), (12, .c (.a (.t (.sl .un 5 (t.ps.map ptT))))), (13, iX .i64 (((t.ps.map ptT).length : Nat) : Int)), (14, iX .i64 (((i + 1) : Nat) : Int))] [] (H) rfl ⟨rfl, rfl, rfl, rfl, trivial⟩ trivial (fun _ _ h => h) rfl, by omega, hi, rfl⟩
  ·
    refine AW.exit ?_
    refine eth_e ?_
    refine eth_e ?_
    refine exit_here ?_
    refine AW.seq ?_
    refine AW.reg ?_
    refine SeqK.q (q_mvC rfl rfl) rfl rfl rfl ?_
    refine SeqK.q (q_asC rfl rfl) rfl rfl rfl ?_
    refine SeqK.nil ?_
    refine AW.ret ?_
    exact fin_x (x := .c _) (H) (.tmp rfl .nil) rfl (fun _ _ h => h) (⟨by rw [List.length_map] at h15; rw [bndT_eq, List.take_of_length_le (by omega)], rfl⟩)

theorem bound_any (t : Tm) : bokT t → t.cnt ≤ 100000 → Pure Tryd.prog 83 [tmC t] (.c (u64C (cap (bndT t)))) := by
  induction t using Tm.ind with
  | h t ih =>
    intro h hN
    exact bound_of t h hN fun p hp o ho hv => ih p hp o ho (vldT_bok hv) (by have := cnt_of hp ho; omega)

theorem small_no {t : Tm} {i : Nat} (hi : i < t.ps.length) (h : 2 ^ 20 < t.ps[i].coef.natAbs) : smallB t = false := by
  cases hs : smallB t with
  | false => rfl
  | true => have := (smallB_iff.1 hs).2.1 _ (List.getElem_mem hi); omega
theorem small_yes {t : Tm} (hc : t.c.natAbs ≤ 2 ^ 40) (h : ∀ p ∈ t.ps, p.coef.natAbs ≤ 2 ^ 20) : smallB t = decide (bndT t ≤ 2 ^ 60) := by
  by_cases hb : bndT t ≤ 2 ^ 60
  · rw [smallB_iff.2 ⟨hc, h, hb⟩]; simp [hb]
  · cases hs : smallB t with
    | false => simp [hb]
    | true => exact absurd (smallB_iff.1 hs).2.2 hb
theorem take_step {P : Pt → Prop} {l : List Pt} {i : Nat} (hi : i < l.length) (h : ∀ p ∈ l.take i, P p) (hp : P l[i]) : ∀ p ∈ l.take (i + 1), P p := by
  rw [List.take_succ_eq_append_getElem hi]
  intro x hx
  rcases List.mem_append.1 hx with h1 | h1
  · exact h x h1
  · simp at h1; rw [h1]; exact hp

set_option maxRecDepth 20000 in
theorem small_any (t : Tm) (h : bokT t) (hN : t.cnt ≤ 100000) : Pure Tryd.prog 57 [tmC t] (.c (bC (smallB t))) := by
  intro H
  refine Spec.enter Tryd.func57 rfl ?_
  refine AW.wk (Wk.keep 24 [(0, .c (tmC t))] [] (H) rfl ⟨rfl, trivial⟩ trivial (fun _ _ h => h) rfl) ?_
  refine AW.seq ?_
  refine AW.reg ?_
  refine SeqK.r (b_box (r := [_, _]) rfl rfl rfl rfl rfl rfl) rfl ?_
  refine SeqK.q (q_asC rfl rfl) rfl rfl rfl ?_
  refine SeqK.nil ?_
  refine AW.seq ?_
  refine AW.seq ?_
  have hlt := len_ps t
  refine AW.reg ?_
  refine SeqK.q (q_fieldL _ rfl Fx.fl24_0 rfl rfl) rfl rfl rfl ?_
  refine SeqK.r (b_load (r := .a _) rfl Fx.ty2 rfl rfl rfl rfl rfl rfl) rfl ?_
  refine SeqK.q (q_call _ rfl Fx.fn50 rfl (abs_any _ (by first | exact h.c | exact h.coef _ (List.getElem_mem hi))) rfl) rfl rfl rfl ?_
  refine SeqK.q (q_gtr rfl rfl rfl) rfl rfl rfl ?_
  refine SeqK.nil ?_
  refine AW.condD rfl (fun h8 => ?_) (fun h8 => ?_)
  ·
    refine AW.seq ?_
    refine AW.reg ?_
    refine SeqK.q (q_asC rfl rfl) rfl rfl rfl ?_
    refine SeqK.nil ?_
    refine AW.ret ?_
    exact fin_x (x := .c _) (H) (.tmp rfl .nil) rfl (fun _ _ h => h) (⟨by rw [show smallB t = false by cases hs : smallB t with | false => rfl | true => have := (smallB_iff.1 hs).1; omega], rfl⟩)
  ·
    refine AW.skip ?_
    refine AW.seq ?_
    refine AW.seq ?_
    refine AW.reg ?_
    refine SeqK.q (q_fieldL _ rfl Fx.fl24_1 rfl rfl) rfl rfl rfl ?_
    refine SeqK.r (b_load (r := .a _) rfl Fx.ty22 rfl rfl rfl rfl rfl rfl) rfl ?_
    refine SeqK.q (q_len rfl Fx.un22 rfl) rfl rfl rfl ?_
    refine SeqK.q (q_mvC rfl rfl) rfl rfl rfl ?_
    refine SeqK.nil ?_
    refine AW.block ?_
    refine AW.loop (fun (i : Nat) s => (i ≤ t.ps.length ∧ ∀ p ∈ t.ps.take i, p.coef.natAbs ≤ 2 ^ 20) ∧ s = ⟨24, sp [(1, .lp 1 0), (2, bX false), (10, .c (.a (.t (.sl .un 5 (t.ps.map ptT))))), (11, iX .i64 (((t.ps.map ptT).length : Nat) : Int)), (12, iX .i64 ((i : Nat) : Int))], lv [(1, .box [.t (.v (.int .i64 t.c)), .t (.sl .un 5 (t.ps.map ptT))])], H⟩) (fun i => t.ps.length - i) 0 ⟨_, Wk.keep 24 [(1, .lp 1 0), (2, bX false), (10, .c (.a (.t (.sl .un 5 (t.ps.map ptT))))), (11, iX .i64 (((t.ps.map ptT).length : Nat) : Int)), (12, iX .i64 ((((0 : Nat)) : Nat) : Int))] [(1, .box [.t (.v (.int .i64 t.c)), .t (.sl .un 5 (t.ps.map ptT))])] (H) rfl ⟨rfl, rfl, rfl, rfl, rfl, trivial⟩ ⟨rfl, trivial⟩ (fun _ _ h => h) rfl, ⟨Nat.zero_le _, by simp⟩, rfl⟩ (fun i s hs => ?_)
    obtain ⟨⟨hi0, hc⟩, rfl⟩ := hs
    refine AW.seq ?_
    refine AW.reg ?_
    refine SeqK.q (q_lss rfl rfl rfl) rfl rfl rfl ?_
    refine SeqK.nil ?_
    refine AW.seq ?_
    refine AW.condD rfl (fun h13 => ?_) (fun h13 => ?_)
    ·
      have hi : i < t.ps.length := by rw [List.length_map] at h13; omega
      refine AW.skip ?_
      refine AW.seq ?_
      refine AW.block ?_
      refine AW.seq ?_
      refine AW.reg ?_
      refine SeqK.q (q_index _ rfl Fx.sl22 rfl rfl (by omega) (idx_map (f := ptT) hi)) rfl rfl rfl ?_
      refine SeqK.q (q_load (.g [_, _, _, _, _]) rfl Fx.ty62 rfl rfl rfl) rfl rfl rfl ?_
      refine SeqK.r (b_alloc (r := [_, _, _, _, _]) rfl rfl Fx.ze62 rfl rfl rfl rfl) rfl ?_
      refine SeqK.r (b_store (r := [_, _, _, _, _]) rfl rfl Fx.ty62 rfl rfl rfl rfl rfl rfl) rfl ?_
      refine SeqK.nil ?_
      refine AW.seq ?_
      refine AW.reg ?_
      refine SeqK.q (q_fieldL _ rfl Fx.fl62_0 rfl rfl) rfl rfl rfl ?_
      refine SeqK.r (b_load (r := .a _) rfl Fx.ty2 rfl rfl rfl rfl rfl rfl) rfl ?_
      refine SeqK.q (q_call _ rfl Fx.fn50 rfl (abs_any _ (by first | exact h.c | exact h.coef _ (List.getElem_mem hi))) rfl) rfl rfl rfl ?_
      refine SeqK.q (q_gtr rfl rfl rfl) rfl rfl rfl ?_
      refine SeqK.nil ?_
      refine AW.condD rfl (fun h19 => ?_) (fun h19 => ?_)
      ·
        refine AW.seq ?_
        refine AW.reg ?_
        refine SeqK.q (q_asC rfl rfl) rfl rfl rfl ?_
        refine SeqK.nil ?_
        refine AW.ret ?_
        exact fin_x (x := .c _) (H) (.tmp rfl .nil) rfl (fun _ _ h => h) (⟨by rw [small_no hi (by omega)], rfl⟩)
      ·
        refine AW.skip ?_
        refine AW.reg ?_
        refine SeqK.q (q_add _ rfl rfl rfl (w64 (by omega) (by omega))) rfl rfl rfl ?_
        refine SeqK.q (q_mvC rfl rfl) rfl rfl rfl ?_
        refine SeqK.nil ?_
        exact ⟨i + 1, _, Wk.keep 24 [(1, .lp 1 0), (2, bX false), (10, .c (.a (.t (.sl .un 5 (t.ps.map ptT))))), (11, iX .i64 (((t.ps.map ptT).length : Nat) : Int)), (12, iX .i64 (((i + 1) : Nat) : Int))] [(1, .box [.t (.v (.int .i64 t.c)), .t (.sl .un 5 (t.ps.map ptT))])] (H) rfl ⟨rfl, rfl, rfl, rfl, rfl, trivial⟩ ⟨rfl, trivial⟩ (fun _ _ h => h) rfl, by omega, ⟨hi, take_step hi hc (by omega)⟩, rfl⟩
    ·
      refine AW.exit ?_
      refine eth_e ?_
      refine eth_e ?_
      refine exit_here ?_
      refine AW.seq ?_
      refine AW.reg ?_
      refine SeqK.r (b_load (r := .g [_, _]) rfl Fx.ty24 rfl rfl rfl rfl rfl rfl) rfl ?_
      refine SeqK.q (q_call _ rfl Fx.fn83 rfl (bound_any t h hN) rfl) rfl rfl rfl ?_
      refine SeqK.q (q_leq rfl rfl rfl) rfl rfl rfl ?_
      refine SeqK.q (q_asC rfl rfl) rfl rfl rfl ?_
      refine SeqK.nil ?_
      refine AW.ret ?_
      exact fin_x (x := .c _) (H) (.tmp rfl .nil) rfl (fun _ _ h => h) (⟨by rw [List.length_map] at h13; rw [List.take_of_length_le (by omega)] at hc; rw [small_yes (by omega) hc, decide_eq_decide.2 (show ((cap (bndT t) : Nat) : Int) ≤ 1152921504606846976 ↔ bndT t ≤ 2 ^ 60 by unfold cap; omega)], rfl⟩)

end Go.Proofs.YtfbdokfcebpkaaaDoor.W
namespace Go.Proofs.YtfbdokfcebpkaaaDoor.W
open Go.RowKit E M
set_option linter.unusedVariables false
set_option linter.unusedSimpArgs false
set_option linter.unusedSectionVars false
theorem bndPs_take_le (l : List Pt) (i : Nat) : bndPs (l.take i) ≤ bndPs l := by
  have h := bndPs_app (a := l.take i) (b := l.drop i)
  rw [List.take_append_drop] at h; omega
theorem small_big {t : Tm} {i : Nat} (h : 2 ^ 60 < t.c.natAbs + bndPs (t.ps.take i)) : smallB t = false := by
  cases hs : smallB t with
  | false => rfl
  | true =>
    have h1 := (smallB_iff.1 hs).2.2
    have h2 := bndPs_take_le t.ps i
    rw [bndT_eq] at h1; omega
theorem small_mul {t : Tm} {i : Nat} (hi : i < t.ps.length) (h0 : 0 < t.ps[i].coef.natAbs) (h : 2 ^ 60 / t.ps[i].coef.natAbs < bndP t.ps[i]) : smallB t = false := by
  have h1 := (Nat.div_lt_iff_lt_mul h0).1 h
  rw [Nat.mul_comm] at h1
  exact small_big (i := i + 1) (by rw [bndPs_take hi]; omega)
theorem mul_le_of {n b : Nat} (h : b ≤ 2 ^ 60 / n) : n * b ≤ 2 ^ 60 := Nat.le_trans (Nat.mul_le_mul_left n h) (Nat.mul_div_le _ _)
theorem mulB {n b : Nat} {y : Int} (hy : y = (b : Int)) (h : n * b ≤ 2 ^ 60) : IntKind.i64.wrap ((n : Int) * y) = ((n * b : Nat) : Int) := by
  subst hy
  have e : (n : Int) * (b : Int) = ((n * b : Nat) : Int) := (Int.natCast_mul n b).symm
  have h0 : (0 : Int) ≤ ((n * b : Nat) : Int) := Int.natCast_nonneg _
  have h1 : ((n * b : Nat) : Int) ≤ ((2 ^ 60 : Nat) : Int) := Int.ofNat_le.2 h
  rw [e, w64 (by omega) (by omega)]
theorem quoI {x d : Nat} (hx : x ≤ 2 ^ 62) : IntKind.i64.wrap ((x : Int).tdiv (d : Int)) = ((x / d : Nat) : Int) := by
  have h : (x : Int).tdiv (d : Int) = ((x / d : Nat) : Int) := rfl
  have h1 : ((x / d : Nat) : Int) ≤ (x : Int) := by exact_mod_cast Nat.div_le_self x d
  have h0 : (0 : Int) ≤ ((x / d : Nat) : Int) := Int.natCast_nonneg _
  rw [h, w64 (by omega) (by omega)]
theorem quoD {x : Nat} {d : Int} (hx : x ≤ 2 ^ 62) (hd : 0 ≤ d) : IntKind.i64.wrap ((x : Int).tdiv d) = ((x / d.toNat : Nat) : Int) := by
  obtain ⟨m, rfl⟩ := Int.eq_ofNat_of_zero_le hd
  exact quoI hx
abbrev rb (t : Tm) : Int := if smallB t = true then (bndT t : Int) else 1152921504606846977

set_option maxHeartbeats 4000000 in
set_option maxRecDepth 20000 in
theorem rbound_of (t : Tm) (h : bokT t) (hN : t.cnt ≤ 100000) (ih : ∀ p ∈ t.ps, ∀ o ∈ p.of, vldT o = true → Pure Tryd.prog 84 [tmC o] (.c (iC (bndT o)))) : Pure Tryd.prog 84 [tmC t] (.c (iC (rb t))) := by
  intro H
  refine Spec.enter Tryd.func84 rfl ?_
  refine AW.wk (Wk.keep 68 [(0, .c (tmC t))] [] (H) rfl ⟨rfl, trivial⟩ trivial (fun _ _ h => h) rfl) ?_
  refine AW.seq ?_
  refine AW.reg ?_
  refine SeqK.r (b_box (r := [_, _]) rfl rfl rfl rfl rfl rfl) rfl ?_
  refine SeqK.q (q_asC rfl rfl) rfl rfl rfl ?_
  refine SeqK.nil ?_
  refine AW.seq ?_
  refine AW.seq ?_
  have hlt := len_ps t
  have hcc := h.c
  refine AW.reg ?_
  refine SeqK.q (q_fieldL _ rfl Fx.fl24_0 rfl rfl) rfl rfl rfl ?_
  refine SeqK.r (b_load (r := .a _) rfl Fx.ty2 rfl rfl rfl rfl rfl rfl) rfl ?_
  refine SeqK.q (q_call _ rfl Fx.fn58 rfl (within_any _ _ _) rfl) rfl rfl rfl ?_
  refine SeqK.q (q_not rfl rfl) rfl rfl rfl ?_
  refine SeqK.nil ?_
  refine AW.cond _ rfl (fun h10 => ?_) (fun h10 => ?_)
  ·
    refine AW.seq ?_
    refine AW.reg ?_
    refine SeqK.q (q_asC rfl rfl) rfl rfl rfl ?_
    refine SeqK.nil ?_
    refine AW.ret ?_
    exact fin_x (x := .c _) (H) (.tmp rfl .nil) rfl (fun _ _ h => h) (⟨by rw [rb, if_neg (by intro hs; have := (smallB_iff.1 hs).1; simp at h10; omega)], rfl⟩)
  ·
    refine AW.skip ?_
    refine AW.seq ?_
    have hc40 : t.c.natAbs ≤ 2 ^ 40 := by simp at h10; omega
    refine AW.reg ?_
    refine SeqK.q (q_fieldL _ rfl Fx.fl24_0 rfl rfl) rfl rfl rfl ?_
    refine SeqK.r (b_load (r := .a _) rfl Fx.ty2 rfl rfl rfl rfl rfl rfl) rfl ?_
    refine SeqK.q (q_call _ rfl Fx.fn54 rfl (rabs_any _ (by simp at *; omega)) rfl) rfl rfl rfl ?_
    refine SeqK.q (q_asC rfl rfl) rfl rfl rfl ?_
    refine SeqK.nil ?_
    refine AW.seq ?_
    refine AW.seq ?_
    refine AW.reg ?_
    refine SeqK.q (q_asC rfl rfl) rfl rfl rfl ?_
    refine SeqK.nil ?_
    refine AW.block ?_
    refine AW.loop (fun (i : Nat) s => (i ≤ t.ps.length ∧ (∀ p ∈ t.ps.take i, p.coef.natAbs ≤ 2 ^ 20) ∧ t.c.natAbs + bndPs (t.ps.take i) ≤ 2 ^ 60) ∧ s = ⟨68, sp [(1, .lp 1 0), (2, .c (iC 0)), (3, iX .i64 ((t.c.natAbs + bndPs (t.ps.take i) : Nat) : Int)), (4, iX .i64 ((i : Nat) : Int))], lv [(1, .box [.t (.v (.int .i64 t.c)), .t (.sl .un 5 (t.ps.map ptT))])], H⟩) (fun i => t.ps.length - i) 0 ⟨_, Wk.keep 68 [(1, .lp 1 0), (2, .c (iC 0)), (3, iX .i64 ((t.c.natAbs + bndPs (t.ps.take ((0 : Nat))) : Nat) : Int)), (4, iX .i64 ((((0 : Nat)) : Nat) : Int))] [(1, .box [.t (.v (.int .i64 t.c)), .t (.sl .un 5 (t.ps.map ptT))])] (H) rfl ⟨rfl, rfl, rfl, rfl, trivial⟩ ⟨rfl, trivial⟩ (fun _ _ h => h) rfl, ⟨Nat.zero_le _, by simp, by simp [bndPs]; omega⟩, rfl⟩ (fun i s hs => ?_)
    obtain ⟨⟨hi0, hc, hS⟩, rfl⟩ := hs
    refine AW.seq ?_
    refine AW.seq ?_
    refine AW.reg ?_
    refine SeqK.q (q_mvC rfl rfl) rfl rfl rfl ?_
    refine SeqK.q (q_fieldL _ rfl Fx.fl24_1 rfl rfl) rfl rfl rfl ?_
    refine SeqK.r (b_load (r := .a _) rfl Fx.ty22 rfl rfl rfl rfl rfl rfl) rfl ?_
    refine SeqK.q (q_len rfl Fx.un22 rfl) rfl rfl rfl ?_
    refine SeqK.q (q_lss rfl rfl rfl) rfl rfl rfl ?_
    refine SeqK.nil ?_
    refine AW.condD rfl (fun h18 => ?_) (fun h18 => ?_)
    ·
      have hi : i < t.ps.length := by rw [List.length_map] at h18; omega
      have hb := h.part _ (List.getElem_mem hi)
      have hcf := h.coef _ (List.getElem_mem hi)
      have hbl := bokP_le hb
      refine AW.skip ?_
      refine AW.seq ?_
      refine AW.block ?_
      refine AW.seq ?_
      refine AW.reg ?_
      refine SeqK.q (q_fieldL _ rfl Fx.fl24_1 rfl rfl) rfl rfl rfl ?_
      refine SeqK.r (b_load (r := .a _) rfl Fx.ty22 rfl rfl rfl rfl rfl rfl) rfl ?_
      refine SeqK.q (q_mvC rfl rfl) rfl rfl rfl ?_
      refine SeqK.q (q_index _ rfl Fx.sl22 rfl rfl (by omega) (idx_map (f := ptT) hi)) rfl rfl rfl ?_
      refine SeqK.q (q_load (.g [_, _, _, _, _]) rfl Fx.ty62 rfl rfl rfl) rfl rfl rfl ?_
      refine SeqK.r (b_alloc (r := [_, _, _, _, _]) rfl rfl Fx.ze62 rfl rfl rfl rfl) rfl ?_
      refine SeqK.r (b_store (r := [_, _, _, _, _]) rfl rfl Fx.ty62 rfl rfl rfl rfl rfl rfl) rfl ?_
      refine SeqK.nil ?_
      refine AW.seq ?_
      refine AW.reg ?_
      refine SeqK.q (q_asC rfl rfl) rfl rfl rfl ?_
      refine SeqK.nil ?_
      refine AW.seq ?_
      refine AW.seq ?_
      refine AW.reg ?_
      refine SeqK.q (q_fieldL _ rfl Fx.fl62_1 rfl rfl) rfl rfl rfl ?_
      refine SeqK.r (b_load (r := .a _) rfl Fx.ty3 rfl rfl rfl rfl rfl rfl) rfl ?_
      refine SeqK.q (q_eql rfl rfl rfl) rfl rfl rfl ?_
      refine SeqK.nil ?_
      refine AW.condD rfl (fun h28 => ?_) (fun h28 => ?_)
      ·
        refine AW.reg ?_
        refine SeqK.q (q_asC rfl rfl) rfl rfl rfl ?_
        refine SeqK.nil ?_
        refine AW.seq ?_
        refine AW.seq ?_
        refine AW.reg ?_
        refine SeqK.q (q_fieldL _ rfl Fx.fl62_1 rfl rfl) rfl rfl rfl ?_
        refine SeqK.r (b_load (r := .a _) rfl Fx.ty3 rfl rfl rfl rfl rfl rfl) rfl ?_
        refine SeqK.q (q_eql rfl rfl rfl) rfl rfl rfl ?_
        refine SeqK.nil ?_
        refine AW.condD rfl (fun h31 => ?_) (fun h31 => ?_)
        ·
          obtain ⟨hp0, hv1, hv2⟩ := bokP_bnd hb h31
          obtain ⟨hd, _, hvo⟩ := hb h31
          refine AW.draw Fx.mo ?_
          refine LexK.q (q_fieldL _ rfl Fx.fl62_4 rfl rfl) rfl rfl rfl ?_
          refine LexK.r (b_load (r := .a _) rfl Fx.ty60 rfl rfl rfl rfl rfl rfl) rfl ?_
          refine LexK.q (q_index _ rfl Fx.sl60 rfl rfl (by omega) (idx_tm hp0)) rfl rfl rfl ?_
          refine LexK.q (q_load (.g [_, _]) rfl Fx.ty24 rfl rfl rfl) rfl rfl rfl ?_
          refine LexK.q (q_call _ rfl Fx.fn84 rfl (ih _ (List.getElem_mem hi) _ (List.getElem_mem hp0) hvo) rfl) rfl rfl rfl ?_
          refine LexK.q (q_fieldL _ rfl Fx.fl62_3 rfl rfl) rfl rfl rfl ?_
          refine LexK.r (b_load (r := .a _) rfl Fx.ty2 rfl rfl rfl rfl rfl rfl) rfl ?_
          refine LexK.q (q_quo _ rfl rfl rfl (by omega) (quoD (by omega) (by omega))) rfl rfl rfl ?_
          refine LexK.q (q_add _ rfl rfl rfl ((by rw [w64 (by omega) (by have := Nat.div_le_self (bndT t.ps[i].of[0]) t.ps[i].dv.toNat; omega)]; rfl : IntKind.i64.wrap _ = ((bndT t.ps[i].of[0] / t.ps[i].dv.toNat + 1 : Nat) : Int)))) rfl rfl rfl ?_
          refine LexK.q (q_asC rfl rfl) rfl rfl rfl ?_
          refine LexK.nil (by kernel_rfl) ?_
          refine AW.seq ?_
          refine AW.seq ?_
          have hbp := bndP_eq t.ps[i]
          try rw [if_pos h28] at hbp
          try rw [if_neg h28, if_neg h31] at hbp
          refine AW.reg ?_
          refine SeqK.q (q_fieldL _ rfl Fx.fl62_0 rfl rfl) rfl rfl rfl ?_
          refine SeqK.r (b_load (r := .a _) rfl Fx.ty2 rfl rfl rfl rfl rfl rfl) rfl ?_
          refine SeqK.q (q_call _ rfl Fx.fn58 rfl (within_any _ _ _) rfl) rfl rfl rfl ?_
          refine SeqK.q (q_not rfl rfl) rfl rfl rfl ?_
          refine SeqK.qB (q_mvC rfl rfl) rfl rfl rfl (fun g45 => ?_) (fun g45 => ?_)
          ·
            refine SeqK.off rfl rfl rfl rfl rfl rfl ?_
            refine SeqK.off rfl rfl rfl rfl rfl rfl ?_
            refine SeqK.off rfl rfl rfl rfl rfl rfl ?_
            refine SeqK.off rfl rfl rfl rfl rfl rfl ?_
            refine SeqK.offU rfl rfl rfl rfl rfl ?_
            refine SeqK.offU rfl rfl rfl rfl rfl ?_
            refine SeqK.offU rfl rfl rfl rfl rfl ?_
            refine SeqK.offU rfl rfl rfl rfl rfl ?_
            refine SeqK.offU rfl rfl rfl rfl rfl ?_
            refine SeqK.offU rfl rfl rfl rfl rfl ?_
            refine SeqK.off rfl rfl rfl rfl rfl rfl ?_
            refine SeqK.q (q_pkT rfl rfl rfl) rfl rfl rfl ?_
            refine SeqK.nil ?_
            refine AW.condT rfl ?_
            refine AW.seq ?_
            refine AW.reg ?_
            refine SeqK.q (q_asC rfl rfl) rfl rfl rfl ?_
            refine SeqK.nil ?_
            refine AW.ret ?_
            exact fin_x (x := .c _) (H) (.tmp rfl .nil) rfl (fun _ _ h => h) (⟨by rw [rb, if_neg (by rw [show smallB t = false by first | exact small_no hi (by simp at g45; omega) | exact small_mul hi (by omega) (by omega)]; simp)], rfl⟩)
          ·
            refine SeqK.on (q_fieldL _ rfl Fx.fl62_0 rfl rfl) rfl rfl rfl rfl rfl ?_
            refine SeqK.rOn (b_load (r := .a _) rfl Fx.ty2 rfl rfl rfl rfl rfl rfl) rfl rfl rfl ?_
            refine SeqK.on (q_neq rfl rfl rfl) rfl rfl rfl rfl rfl ?_
            refine SeqK.onD (q_mvC rfl rfl) rfl rfl rfl rfl rfl (fun g49 => ?_) (fun g49 => ?_)
            ·
              refine SeqK.on (q_mvC rfl rfl) rfl rfl rfl rfl rfl ?_
              refine SeqK.on (q_fieldL _ rfl Fx.fl62_0 rfl rfl) rfl rfl rfl rfl rfl ?_
              refine SeqK.rOn (b_load (r := .a _) rfl Fx.ty2 rfl rfl rfl rfl rfl rfl) rfl rfl rfl ?_
              refine SeqK.on (q_call _ rfl Fx.fn54 rfl (rabs_any _ (by simp at *; omega)) rfl) rfl rfl rfl rfl rfl ?_
              refine SeqK.on (q_quo _ rfl rfl rfl (by omega) (quoI (x := 2 ^ 60) (by omega))) rfl rfl rfl rfl rfl ?_
              refine SeqK.on (q_gtr rfl rfl rfl) rfl rfl rfl rfl rfl ?_
              refine SeqK.on (q_pkT rfl rfl rfl) rfl rfl rfl rfl rfl ?_
              refine SeqK.q (q_pkF rfl rfl rfl) rfl rfl rfl ?_
              refine SeqK.nil ?_
              refine AW.condD rfl (fun h57 => ?_) (fun h57 => ?_)
              ·
                refine AW.seq ?_
                refine AW.reg ?_
                refine SeqK.q (q_asC rfl rfl) rfl rfl rfl ?_
                refine SeqK.nil ?_
                refine AW.ret ?_
                exact fin_x (x := .c _) (H) (.tmp rfl .nil) rfl (fun _ _ h => h) (⟨by rw [rb, if_neg (by rw [show smallB t = false by first | exact small_no hi (by simp at g45; omega) | exact small_mul hi (by omega) (by omega)]; simp)], rfl⟩)
              ·
                refine AW.skip ?_
                refine AW.seq ?_
                have hle : t.ps[i].coef.natAbs * bndP t.ps[i] ≤ 2 ^ 60 := by first | exact mul_le_of (by omega) | (rw [show t.ps[i].coef.natAbs = 0 by omega]; omega)
                refine AW.reg ?_
                refine SeqK.q (q_mvC rfl rfl) rfl rfl rfl ?_
                refine SeqK.q (q_fieldL _ rfl Fx.fl62_0 rfl rfl) rfl rfl rfl ?_
                refine SeqK.r (b_load (r := .a _) rfl Fx.ty2 rfl rfl rfl rfl rfl rfl) rfl ?_
                refine SeqK.q (q_call _ rfl Fx.fn54 rfl (rabs_any _ (by simp at *; omega)) rfl) rfl rfl rfl ?_
                refine SeqK.q (q_mvC rfl rfl) rfl rfl rfl ?_
                refine SeqK.q (q_mul _ rfl rfl rfl (mulB (b := bndP t.ps[i]) (by omega) hle)) rfl rfl rfl ?_
                refine SeqK.q (q_add _ rfl rfl rfl ((by rw [bndPs_take hi, w64 (by omega) (by omega)]; push_cast; omega : IntKind.i64.wrap _ = ((t.c.natAbs + bndPs (t.ps.take (i + 1)) : Nat) : Int)))) rfl rfl rfl ?_
                refine SeqK.q (q_asC rfl rfl) rfl rfl rfl ?_
                refine SeqK.nil ?_
                refine AW.seq ?_
                refine AW.reg ?_
                refine SeqK.q (q_mvC rfl rfl) rfl rfl rfl ?_
                refine SeqK.q (q_gtr rfl rfl rfl) rfl rfl rfl ?_
                refine SeqK.nil ?_
                refine AW.condD rfl (fun h66 => ?_) (fun h66 => ?_)
                ·
                  refine AW.seq ?_
                  refine AW.reg ?_
                  refine SeqK.q (q_asC rfl rfl) rfl rfl rfl ?_
                  refine SeqK.nil ?_
                  refine AW.ret ?_
                  exact fin_x (x := .c _) (H) (.tmp rfl .nil) rfl (fun _ _ h => h) (⟨by rw [rb, if_neg (by rw [small_big (t := t) (i := i + 1) (by omega)]; simp)], rfl⟩)
                ·
                  refine AW.skip ?_
                  refine AW.reg ?_
                  refine SeqK.q (q_mvC rfl rfl) rfl rfl rfl ?_
                  refine SeqK.q (q_add _ rfl rfl rfl (w64 (by omega) (by omega))) rfl rfl rfl ?_
                  refine SeqK.q (q_asC rfl rfl) rfl rfl rfl ?_
                  refine SeqK.nil ?_
                  exact ⟨i + 1, _, Wk.keep 68 [(1, .lp 1 0), (2, .c (iC 0)), (3, iX .i64 ((t.c.natAbs + bndPs (t.ps.take (i + 1)) : Nat) : Int)), (4, iX .i64 (((i + 1) : Nat) : Int))] [(1, .box [.t (.v (.int .i64 t.c)), .t (.sl .un 5 (t.ps.map ptT))])] (H) rfl ⟨rfl, rfl, rfl, rfl, trivial⟩ ⟨rfl, trivial⟩ (fun _ _ h => h) rfl, by omega, ⟨hi, take_step hi hc (by simp at g45; omega), by omega⟩, rfl⟩
            ·
              refine SeqK.off rfl rfl rfl rfl rfl rfl ?_
              refine SeqK.off rfl rfl rfl rfl rfl rfl ?_
              refine SeqK.off rfl rfl rfl rfl rfl rfl ?_
              refine SeqK.off rfl rfl rfl rfl rfl rfl ?_
              refine SeqK.off rfl rfl rfl rfl rfl rfl ?_
              refine SeqK.off rfl rfl rfl rfl rfl rfl ?_
              refine SeqK.on (q_pkF rfl rfl rfl) rfl rfl rfl rfl rfl ?_
              refine SeqK.q (q_pkF rfl rfl rfl) rfl rfl rfl ?_
              refine SeqK.nil ?_
              refine AW.condF rfl ?_
              refine AW.skip ?_
              refine AW.seq ?_
              have hle : t.ps[i].coef.natAbs * bndP t.ps[i] ≤ 2 ^ 60 := by first | exact mul_le_of (by omega) | (rw [show t.ps[i].coef.natAbs = 0 by omega]; omega)
              refine AW.reg ?_
              refine SeqK.q (q_mvC rfl rfl) rfl rfl rfl ?_
              refine SeqK.q (q_fieldL _ rfl Fx.fl62_0 rfl rfl) rfl rfl rfl ?_
              refine SeqK.r (b_load (r := .a _) rfl Fx.ty2 rfl rfl rfl rfl rfl rfl) rfl ?_
              refine SeqK.q (q_call _ rfl Fx.fn54 rfl (rabs_any _ (by simp at *; omega)) rfl) rfl rfl rfl ?_
              refine SeqK.q (q_mvC rfl rfl) rfl rfl rfl ?_
              refine SeqK.q (q_mul _ rfl rfl rfl (mulB (b := bndP t.ps[i]) (by omega) hle)) rfl rfl rfl ?_
              refine SeqK.q (q_add _ rfl rfl rfl ((by rw [bndPs_take hi, w64 (by omega) (by omega)]; push_cast; omega : IntKind.i64.wrap _ = ((t.c.natAbs + bndPs (t.ps.take (i + 1)) : Nat) : Int)))) rfl rfl rfl ?_
              refine SeqK.q (q_asC rfl rfl) rfl rfl rfl ?_
              refine SeqK.nil ?_
              refine AW.seq ?_
              refine AW.reg ?_
              refine SeqK.q (q_mvC rfl rfl) rfl rfl rfl ?_
              refine SeqK.q (q_gtr rfl rfl rfl) rfl rfl rfl ?_
              refine SeqK.nil ?_
              refine AW.condD rfl (fun h66 => ?_) (fun h66 => ?_)
              ·
                refine AW.seq ?_
                refine AW.reg ?_
                refine SeqK.q (q_asC rfl rfl) rfl rfl rfl ?_
                refine SeqK.nil ?_
                refine AW.ret ?_
                exact fin_x (x := .c _) (H) (.tmp rfl .nil) rfl (fun _ _ h => h) (⟨by rw [rb, if_neg (by rw [small_big (t := t) (i := i + 1) (by omega)]; simp)], rfl⟩)
              ·
                refine AW.skip ?_
                refine AW.reg ?_
                refine SeqK.q (q_mvC rfl rfl) rfl rfl rfl ?_
                refine SeqK.q (q_add _ rfl rfl rfl (w64 (by omega) (by omega))) rfl rfl rfl ?_
                refine SeqK.q (q_asC rfl rfl) rfl rfl rfl ?_
                refine SeqK.nil ?_
                exact ⟨i + 1, _, Wk.keep 68 [(1, .lp 1 0), (2, .c (iC 0)), (3, iX .i64 ((t.c.natAbs + bndPs (t.ps.take (i + 1)) : Nat) : Int)), (4, iX .i64 (((i + 1) : Nat) : Int))] [(1, .box [.t (.v (.int .i64 t.c)), .t (.sl .un 5 (t.ps.map ptT))])] (H) rfl ⟨rfl, rfl, rfl, rfl, trivial⟩ ⟨rfl, trivial⟩ (fun _ _ h => h) rfl, by omega, ⟨hi, take_step hi hc (by simp at g45; omega), by omega⟩, rfl⟩
        ·
          refine AW.skip ?_
          refine AW.seq ?_
          refine AW.seq ?_
          have hbp := bndP_eq t.ps[i]
          try rw [if_pos h28] at hbp
          try rw [if_neg h28, if_neg h31] at hbp
          refine AW.reg ?_
          refine SeqK.q (q_fieldL _ rfl Fx.fl62_0 rfl rfl) rfl rfl rfl ?_
          refine SeqK.r (b_load (r := .a _) rfl Fx.ty2 rfl rfl rfl rfl rfl rfl) rfl ?_
          refine SeqK.q (q_call _ rfl Fx.fn58 rfl (within_any _ _ _) rfl) rfl rfl rfl ?_
          refine SeqK.q (q_not rfl rfl) rfl rfl rfl ?_
          refine SeqK.qB (q_mvC rfl rfl) rfl rfl rfl (fun g45 => ?_) (fun g45 => ?_)
          ·
            refine SeqK.off rfl rfl rfl rfl rfl rfl ?_
            refine SeqK.off rfl rfl rfl rfl rfl rfl ?_
            refine SeqK.off rfl rfl rfl rfl rfl rfl ?_
            refine SeqK.off rfl rfl rfl rfl rfl rfl ?_
            refine SeqK.offU rfl rfl rfl rfl rfl ?_
            refine SeqK.offU rfl rfl rfl rfl rfl ?_
            refine SeqK.offU rfl rfl rfl rfl rfl ?_
            refine SeqK.offU rfl rfl rfl rfl rfl ?_
            refine SeqK.offU rfl rfl rfl rfl rfl ?_
            refine SeqK.offU rfl rfl rfl rfl rfl ?_
            refine SeqK.off rfl rfl rfl rfl rfl rfl ?_
            refine SeqK.q (q_pkT rfl rfl rfl) rfl rfl rfl ?_
            refine SeqK.nil ?_
            refine AW.condT rfl ?_
            refine AW.seq ?_
            refine AW.reg ?_
            refine SeqK.q (q_asC rfl rfl) rfl rfl rfl ?_
            refine SeqK.nil ?_
            refine AW.ret ?_
            exact fin_x (x := .c _) (H) (.tmp rfl .nil) rfl (fun _ _ h => h) (⟨by rw [rb, if_neg (by rw [show smallB t = false by first | exact small_no hi (by simp at g45; omega) | exact small_mul hi (by omega) (by omega)]; simp)], rfl⟩)
          ·
            refine SeqK.on (q_fieldL _ rfl Fx.fl62_0 rfl rfl) rfl rfl rfl rfl rfl ?_
            refine SeqK.rOn (b_load (r := .a _) rfl Fx.ty2 rfl rfl rfl rfl rfl rfl) rfl rfl rfl ?_
            refine SeqK.on (q_neq rfl rfl rfl) rfl rfl rfl rfl rfl ?_
            refine SeqK.onD (q_mvC rfl rfl) rfl rfl rfl rfl rfl (fun g49 => ?_) (fun g49 => ?_)
            ·
              refine SeqK.on (q_mvC rfl rfl) rfl rfl rfl rfl rfl ?_
              refine SeqK.on (q_fieldL _ rfl Fx.fl62_0 rfl rfl) rfl rfl rfl rfl rfl ?_
              refine SeqK.rOn (b_load (r := .a _) rfl Fx.ty2 rfl rfl rfl rfl rfl rfl) rfl rfl rfl ?_
              refine SeqK.on (q_call _ rfl Fx.fn54 rfl (rabs_any _ (by simp at *; omega)) rfl) rfl rfl rfl rfl rfl ?_
              refine SeqK.on (q_quo _ rfl rfl rfl (by omega) (quoI (x := 2 ^ 60) (by omega))) rfl rfl rfl rfl rfl ?_
              refine SeqK.on (q_gtr rfl rfl rfl) rfl rfl rfl rfl rfl ?_
              refine SeqK.on (q_pkT rfl rfl rfl) rfl rfl rfl rfl rfl ?_
              refine SeqK.q (q_pkF rfl rfl rfl) rfl rfl rfl ?_
              refine SeqK.nil ?_
              refine AW.condD rfl (fun h57 => ?_) (fun h57 => ?_)
              ·
                refine AW.seq ?_
                refine AW.reg ?_
                refine SeqK.q (q_asC rfl rfl) rfl rfl rfl ?_
                refine SeqK.nil ?_
                refine AW.ret ?_
                exact fin_x (x := .c _) (H) (.tmp rfl .nil) rfl (fun _ _ h => h) (⟨by rw [rb, if_neg (by rw [show smallB t = false by first | exact small_no hi (by simp at g45; omega) | exact small_mul hi (by omega) (by omega)]; simp)], rfl⟩)
              ·
                refine AW.skip ?_
                refine AW.seq ?_
                have hle : t.ps[i].coef.natAbs * bndP t.ps[i] ≤ 2 ^ 60 := by first | exact mul_le_of (by omega) | (rw [show t.ps[i].coef.natAbs = 0 by omega]; omega)
                refine AW.reg ?_
                refine SeqK.q (q_mvC rfl rfl) rfl rfl rfl ?_
                refine SeqK.q (q_fieldL _ rfl Fx.fl62_0 rfl rfl) rfl rfl rfl ?_
                refine SeqK.r (b_load (r := .a _) rfl Fx.ty2 rfl rfl rfl rfl rfl rfl) rfl ?_
                refine SeqK.q (q_call _ rfl Fx.fn54 rfl (rabs_any _ (by simp at *; omega)) rfl) rfl rfl rfl ?_
                refine SeqK.q (q_mvC rfl rfl) rfl rfl rfl ?_
                refine SeqK.q (q_mul _ rfl rfl rfl (mulB (b := bndP t.ps[i]) (by omega) hle)) rfl rfl rfl ?_
                refine SeqK.q (q_add _ rfl rfl rfl ((by rw [bndPs_take hi, w64 (by omega) (by omega)]; push_cast; omega : IntKind.i64.wrap _ = ((t.c.natAbs + bndPs (t.ps.take (i + 1)) : Nat) : Int)))) rfl rfl rfl ?_
                refine SeqK.q (q_asC rfl rfl) rfl rfl rfl ?_
                refine SeqK.nil ?_
                refine AW.seq ?_
                refine AW.reg ?_
                refine SeqK.q (q_mvC rfl rfl) rfl rfl rfl ?_
                refine SeqK.q (q_gtr rfl rfl rfl) rfl rfl rfl ?_
                refine SeqK.nil ?_
                refine AW.condD rfl (fun h66 => ?_) (fun h66 => ?_)
                ·
                  refine AW.seq ?_
                  refine AW.reg ?_
                  refine SeqK.q (q_asC rfl rfl) rfl rfl rfl ?_
                  refine SeqK.nil ?_
                  refine AW.ret ?_
                  exact fin_x (x := .c _) (H) (.tmp rfl .nil) rfl (fun _ _ h => h) (⟨by rw [rb, if_neg (by rw [small_big (t := t) (i := i + 1) (by omega)]; simp)], rfl⟩)
                ·
                  refine AW.skip ?_
                  refine AW.reg ?_
                  refine SeqK.q (q_mvC rfl rfl) rfl rfl rfl ?_
                  refine SeqK.q (q_add _ rfl rfl rfl (w64 (by omega) (by omega))) rfl rfl rfl ?_
                  refine SeqK.q (q_asC rfl rfl) rfl rfl rfl ?_
                  refine SeqK.nil ?_
                  exact ⟨i + 1, _, Wk.keep 68 [(1, .lp 1 0), (2, .c (iC 0)), (3, iX .i64 ((t.c.natAbs + bndPs (t.ps.take (i + 1)) : Nat) : Int)), (4, iX .i64 (((i + 1) : Nat) : Int))] [(1, .box [.t (.v (.int .i64 t.c)), .t (.sl .un 5 (t.ps.map ptT))])] (H) rfl ⟨rfl, rfl, rfl, rfl, trivial⟩ ⟨rfl, trivial⟩ (fun _ _ h => h) rfl, by omega, ⟨hi, take_step hi hc (by simp at g45; omega), by omega⟩, rfl⟩
            ·
              refine SeqK.off rfl rfl rfl rfl rfl rfl ?_
              refine SeqK.off rfl rfl rfl rfl rfl rfl ?_
              refine SeqK.off rfl rfl rfl rfl rfl rfl ?_
              refine SeqK.off rfl rfl rfl rfl rfl rfl ?_
              refine SeqK.off rfl rfl rfl rfl rfl rfl ?_
              refine SeqK.off rfl rfl rfl rfl rfl rfl ?_
              refine SeqK.on (q_pkF rfl rfl rfl) rfl rfl rfl rfl rfl ?_
              refine SeqK.q (q_pkF rfl rfl rfl) rfl rfl rfl ?_
              refine SeqK.nil ?_
              refine AW.condF rfl ?_
              refine AW.skip ?_
              refine AW.seq ?_
              have hle : t.ps[i].coef.natAbs * bndP t.ps[i] ≤ 2 ^ 60 := by first | exact mul_le_of (by omega) | (rw [show t.ps[i].coef.natAbs = 0 by omega]; omega)
              refine AW.reg ?_
              refine SeqK.q (q_mvC rfl rfl) rfl rfl rfl ?_
              refine SeqK.q (q_fieldL _ rfl Fx.fl62_0 rfl rfl) rfl rfl rfl ?_
              refine SeqK.r (b_load (r := .a _) rfl Fx.ty2 rfl rfl rfl rfl rfl rfl) rfl ?_
              refine SeqK.q (q_call _ rfl Fx.fn54 rfl (rabs_any _ (by simp at *; omega)) rfl) rfl rfl rfl ?_
              refine SeqK.q (q_mvC rfl rfl) rfl rfl rfl ?_
              refine SeqK.q (q_mul _ rfl rfl rfl (mulB (b := bndP t.ps[i]) (by omega) hle)) rfl rfl rfl ?_
              refine SeqK.q (q_add _ rfl rfl rfl ((by rw [bndPs_take hi, w64 (by omega) (by omega)]; push_cast; omega : IntKind.i64.wrap _ = ((t.c.natAbs + bndPs (t.ps.take (i + 1)) : Nat) : Int)))) rfl rfl rfl ?_
              refine SeqK.q (q_asC rfl rfl) rfl rfl rfl ?_
              refine SeqK.nil ?_
              refine AW.seq ?_
              refine AW.reg ?_
              refine SeqK.q (q_mvC rfl rfl) rfl rfl rfl ?_
              refine SeqK.q (q_gtr rfl rfl rfl) rfl rfl rfl ?_
              refine SeqK.nil ?_
              refine AW.condD rfl (fun h66 => ?_) (fun h66 => ?_)
              ·
                refine AW.seq ?_
                refine AW.reg ?_
                refine SeqK.q (q_asC rfl rfl) rfl rfl rfl ?_
                refine SeqK.nil ?_
                refine AW.ret ?_
                exact fin_x (x := .c _) (H) (.tmp rfl .nil) rfl (fun _ _ h => h) (⟨by rw [rb, if_neg (by rw [small_big (t := t) (i := i + 1) (by omega)]; simp)], rfl⟩)
              ·
                refine AW.skip ?_
                refine AW.reg ?_
                refine SeqK.q (q_mvC rfl rfl) rfl rfl rfl ?_
                refine SeqK.q (q_add _ rfl rfl rfl (w64 (by omega) (by omega))) rfl rfl rfl ?_
                refine SeqK.q (q_asC rfl rfl) rfl rfl rfl ?_
                refine SeqK.nil ?_
                exact ⟨i + 1, _, Wk.keep 68 [(1, .lp 1 0), (2, .c (iC 0)), (3, iX .i64 ((t.c.natAbs + bndPs (t.ps.take (i + 1)) : Nat) : Int)), (4, iX .i64 (((i + 1) : Nat) : Int))] [(1, .box [.t (.v (.int .i64 t.c)), .t (.sl .un 5 (t.ps.map ptT))])] (H) rfl ⟨rfl, rfl, rfl, rfl, trivial⟩ ⟨rfl, trivial⟩ (fun _ _ h => h) rfl, by omega, ⟨hi, take_step hi hc (by simp at g45; omega), by omega⟩, rfl⟩
      ·
        refine AW.skip ?_
        refine AW.seq ?_
        refine AW.seq ?_
        refine AW.reg ?_
        refine SeqK.q (q_fieldL _ rfl Fx.fl62_1 rfl rfl) rfl rfl rfl ?_
        refine SeqK.r (b_load (r := .a _) rfl Fx.ty3 rfl rfl rfl rfl rfl rfl) rfl ?_
        refine SeqK.q (q_eql rfl rfl rfl) rfl rfl rfl ?_
        refine SeqK.nil ?_
        refine AW.condD rfl (fun h31 => ?_) (fun h31 => ?_)
        ·
          obtain ⟨hp0, hv1, hv2⟩ := bokP_bnd hb h31
          obtain ⟨hd, _, hvo⟩ := hb h31
          refine AW.draw Fx.mo ?_
          refine LexK.q (q_fieldL _ rfl Fx.fl62_4 rfl rfl) rfl rfl rfl ?_
          refine LexK.r (b_load (r := .a _) rfl Fx.ty60 rfl rfl rfl rfl rfl rfl) rfl ?_
          refine LexK.q (q_index _ rfl Fx.sl60 rfl rfl (by omega) (idx_tm hp0)) rfl rfl rfl ?_
          refine LexK.q (q_load (.g [_, _]) rfl Fx.ty24 rfl rfl rfl) rfl rfl rfl ?_
          refine LexK.q (q_call _ rfl Fx.fn84 rfl (ih _ (List.getElem_mem hi) _ (List.getElem_mem hp0) hvo) rfl) rfl rfl rfl ?_
          refine LexK.q (q_fieldL _ rfl Fx.fl62_3 rfl rfl) rfl rfl rfl ?_
          refine LexK.r (b_load (r := .a _) rfl Fx.ty2 rfl rfl rfl rfl rfl rfl) rfl ?_
          refine LexK.q (q_quo _ rfl rfl rfl (by omega) (quoD (by omega) (by omega))) rfl rfl rfl ?_
          refine LexK.q (q_add _ rfl rfl rfl ((by rw [w64 (by omega) (by have := Nat.div_le_self (bndT t.ps[i].of[0]) t.ps[i].dv.toNat; omega)]; rfl : IntKind.i64.wrap _ = ((bndT t.ps[i].of[0] / t.ps[i].dv.toNat + 1 : Nat) : Int)))) rfl rfl rfl ?_
          refine LexK.q (q_asC rfl rfl) rfl rfl rfl ?_
          refine LexK.nil (by kernel_rfl) ?_
          refine AW.seq ?_
          refine AW.seq ?_
          have hbp := bndP_eq t.ps[i]
          try rw [if_pos h28] at hbp
          try rw [if_neg h28, if_neg h31] at hbp
          refine AW.reg ?_
          refine SeqK.q (q_fieldL _ rfl Fx.fl62_0 rfl rfl) rfl rfl rfl ?_
          refine SeqK.r (b_load (r := .a _) rfl Fx.ty2 rfl rfl rfl rfl rfl rfl) rfl ?_
          refine SeqK.q (q_call _ rfl Fx.fn58 rfl (within_any _ _ _) rfl) rfl rfl rfl ?_
          refine SeqK.q (q_not rfl rfl) rfl rfl rfl ?_
          refine SeqK.qB (q_mvC rfl rfl) rfl rfl rfl (fun g45 => ?_) (fun g45 => ?_)
          ·
            refine SeqK.off rfl rfl rfl rfl rfl rfl ?_
            refine SeqK.off rfl rfl rfl rfl rfl rfl ?_
            refine SeqK.off rfl rfl rfl rfl rfl rfl ?_
            refine SeqK.off rfl rfl rfl rfl rfl rfl ?_
            refine SeqK.offU rfl rfl rfl rfl rfl ?_
            refine SeqK.offU rfl rfl rfl rfl rfl ?_
            refine SeqK.offU rfl rfl rfl rfl rfl ?_
            refine SeqK.offU rfl rfl rfl rfl rfl ?_
            refine SeqK.offU rfl rfl rfl rfl rfl ?_
            refine SeqK.offU rfl rfl rfl rfl rfl ?_
            refine SeqK.off rfl rfl rfl rfl rfl rfl ?_
            refine SeqK.q (q_pkT rfl rfl rfl) rfl rfl rfl ?_
            refine SeqK.nil ?_
            refine AW.condT rfl ?_
            refine AW.seq ?_
            refine AW.reg ?_
            refine SeqK.q (q_asC rfl rfl) rfl rfl rfl ?_
            refine SeqK.nil ?_
            refine AW.ret ?_
            exact fin_x (x := .c _) (H) (.tmp rfl .nil) rfl (fun _ _ h => h) (⟨by rw [rb, if_neg (by rw [show smallB t = false by first | exact small_no hi (by simp at g45; omega) | exact small_mul hi (by omega) (by omega)]; simp)], rfl⟩)
          ·
            refine SeqK.on (q_fieldL _ rfl Fx.fl62_0 rfl rfl) rfl rfl rfl rfl rfl ?_
            refine SeqK.rOn (b_load (r := .a _) rfl Fx.ty2 rfl rfl rfl rfl rfl rfl) rfl rfl rfl ?_
            refine SeqK.on (q_neq rfl rfl rfl) rfl rfl rfl rfl rfl ?_
            refine SeqK.onD (q_mvC rfl rfl) rfl rfl rfl rfl rfl (fun g49 => ?_) (fun g49 => ?_)
            ·
              refine SeqK.on (q_mvC rfl rfl) rfl rfl rfl rfl rfl ?_
              refine SeqK.on (q_fieldL _ rfl Fx.fl62_0 rfl rfl) rfl rfl rfl rfl rfl ?_
              refine SeqK.rOn (b_load (r := .a _) rfl Fx.ty2 rfl rfl rfl rfl rfl rfl) rfl rfl rfl ?_
              refine SeqK.on (q_call _ rfl Fx.fn54 rfl (rabs_any _ (by simp at *; omega)) rfl) rfl rfl rfl rfl rfl ?_
              refine SeqK.on (q_quo _ rfl rfl rfl (by omega) (quoI (x := 2 ^ 60) (by omega))) rfl rfl rfl rfl rfl ?_
              refine SeqK.on (q_gtr rfl rfl rfl) rfl rfl rfl rfl rfl ?_
              refine SeqK.on (q_pkT rfl rfl rfl) rfl rfl rfl rfl rfl ?_
              refine SeqK.q (q_pkF rfl rfl rfl) rfl rfl rfl ?_
              refine SeqK.nil ?_
              refine AW.condD rfl (fun h57 => ?_) (fun h57 => ?_)
              ·
                refine AW.seq ?_
                refine AW.reg ?_
                refine SeqK.q (q_asC rfl rfl) rfl rfl rfl ?_
                refine SeqK.nil ?_
                refine AW.ret ?_
                exact fin_x (x := .c _) (H) (.tmp rfl .nil) rfl (fun _ _ h => h) (⟨by rw [rb, if_neg (by rw [show smallB t = false by first | exact small_no hi (by simp at g45; omega) | exact small_mul hi (by omega) (by omega)]; simp)], rfl⟩)
              ·
                refine AW.skip ?_
                refine AW.seq ?_
                have hle : t.ps[i].coef.natAbs * bndP t.ps[i] ≤ 2 ^ 60 := by first | exact mul_le_of (by omega) | (rw [show t.ps[i].coef.natAbs = 0 by omega]; omega)
                refine AW.reg ?_
                refine SeqK.q (q_mvC rfl rfl) rfl rfl rfl ?_
                refine SeqK.q (q_fieldL _ rfl Fx.fl62_0 rfl rfl) rfl rfl rfl ?_
                refine SeqK.r (b_load (r := .a _) rfl Fx.ty2 rfl rfl rfl rfl rfl rfl) rfl ?_
                refine SeqK.q (q_call _ rfl Fx.fn54 rfl (rabs_any _ (by simp at *; omega)) rfl) rfl rfl rfl ?_
                refine SeqK.q (q_mvC rfl rfl) rfl rfl rfl ?_
                refine SeqK.q (q_mul _ rfl rfl rfl (mulB (b := bndP t.ps[i]) (by omega) hle)) rfl rfl rfl ?_
                refine SeqK.q (q_add _ rfl rfl rfl ((by rw [bndPs_take hi, w64 (by omega) (by omega)]; push_cast; omega : IntKind.i64.wrap _ = ((t.c.natAbs + bndPs (t.ps.take (i + 1)) : Nat) : Int)))) rfl rfl rfl ?_
                refine SeqK.q (q_asC rfl rfl) rfl rfl rfl ?_
                refine SeqK.nil ?_
                refine AW.seq ?_
                refine AW.reg ?_
                refine SeqK.q (q_mvC rfl rfl) rfl rfl rfl ?_
                refine SeqK.q (q_gtr rfl rfl rfl) rfl rfl rfl ?_
                refine SeqK.nil ?_
                refine AW.condD rfl (fun h66 => ?_) (fun h66 => ?_)
                ·
                  refine AW.seq ?_
                  refine AW.reg ?_
                  refine SeqK.q (q_asC rfl rfl) rfl rfl rfl ?_
                  refine SeqK.nil ?_
                  refine AW.ret ?_
                  exact fin_x (x := .c _) (H) (.tmp rfl .nil) rfl (fun _ _ h => h) (⟨by rw [rb, if_neg (by rw [small_big (t := t) (i := i + 1) (by omega)]; simp)], rfl⟩)
                ·
                  refine AW.skip ?_
                  refine AW.reg ?_
                  refine SeqK.q (q_mvC rfl rfl) rfl rfl rfl ?_
                  refine SeqK.q (q_add _ rfl rfl rfl (w64 (by omega) (by omega))) rfl rfl rfl ?_
                  refine SeqK.q (q_asC rfl rfl) rfl rfl rfl ?_
                  refine SeqK.nil ?_
                  exact ⟨i + 1, _, Wk.keep 68 [(1, .lp 1 0), (2, .c (iC 0)), (3, iX .i64 ((t.c.natAbs + bndPs (t.ps.take (i + 1)) : Nat) : Int)), (4, iX .i64 (((i + 1) : Nat) : Int))] [(1, .box [.t (.v (.int .i64 t.c)), .t (.sl .un 5 (t.ps.map ptT))])] (H) rfl ⟨rfl, rfl, rfl, rfl, trivial⟩ ⟨rfl, trivial⟩ (fun _ _ h => h) rfl, by omega, ⟨hi, take_step hi hc (by simp at g45; omega), by omega⟩, rfl⟩
            ·
              refine SeqK.off rfl rfl rfl rfl rfl rfl ?_
              refine SeqK.off rfl rfl rfl rfl rfl rfl ?_
              refine SeqK.off rfl rfl rfl rfl rfl rfl ?_
              refine SeqK.off rfl rfl rfl rfl rfl rfl ?_
              refine SeqK.off rfl rfl rfl rfl rfl rfl ?_
              refine SeqK.off rfl rfl rfl rfl rfl rfl ?_
              refine SeqK.on (q_pkF rfl rfl rfl) rfl rfl rfl rfl rfl ?_
              refine SeqK.q (q_pkF rfl rfl rfl) rfl rfl rfl ?_
              refine SeqK.nil ?_
              refine AW.condF rfl ?_
              refine AW.skip ?_
              refine AW.seq ?_
              have hle : t.ps[i].coef.natAbs * bndP t.ps[i] ≤ 2 ^ 60 := by first | exact mul_le_of (by omega) | (rw [show t.ps[i].coef.natAbs = 0 by omega]; omega)
              refine AW.reg ?_
              refine SeqK.q (q_mvC rfl rfl) rfl rfl rfl ?_
              refine SeqK.q (q_fieldL _ rfl Fx.fl62_0 rfl rfl) rfl rfl rfl ?_
              refine SeqK.r (b_load (r := .a _) rfl Fx.ty2 rfl rfl rfl rfl rfl rfl) rfl ?_
              refine SeqK.q (q_call _ rfl Fx.fn54 rfl (rabs_any _ (by simp at *; omega)) rfl) rfl rfl rfl ?_
              refine SeqK.q (q_mvC rfl rfl) rfl rfl rfl ?_
              refine SeqK.q (q_mul _ rfl rfl rfl (mulB (b := bndP t.ps[i]) (by omega) hle)) rfl rfl rfl ?_
              refine SeqK.q (q_add _ rfl rfl rfl ((by rw [bndPs_take hi, w64 (by omega) (by omega)]; push_cast; omega : IntKind.i64.wrap _ = ((t.c.natAbs + bndPs (t.ps.take (i + 1)) : Nat) : Int)))) rfl rfl rfl ?_
              refine SeqK.q (q_asC rfl rfl) rfl rfl rfl ?_
              refine SeqK.nil ?_
              refine AW.seq ?_
              refine AW.reg ?_
              refine SeqK.q (q_mvC rfl rfl) rfl rfl rfl ?_
              refine SeqK.q (q_gtr rfl rfl rfl) rfl rfl rfl ?_
              refine SeqK.nil ?_
              refine AW.condD rfl (fun h66 => ?_) (fun h66 => ?_)
              ·
                refine AW.seq ?_
                refine AW.reg ?_
                refine SeqK.q (q_asC rfl rfl) rfl rfl rfl ?_
                refine SeqK.nil ?_
                refine AW.ret ?_
                exact fin_x (x := .c _) (H) (.tmp rfl .nil) rfl (fun _ _ h => h) (⟨by rw [rb, if_neg (by rw [small_big (t := t) (i := i + 1) (by omega)]; simp)], rfl⟩)
              ·
                refine AW.skip ?_
                refine AW.reg ?_
                refine SeqK.q (q_mvC rfl rfl) rfl rfl rfl ?_
                refine SeqK.q (q_add _ rfl rfl rfl (w64 (by omega) (by omega))) rfl rfl rfl ?_
                refine SeqK.q (q_asC rfl rfl) rfl rfl rfl ?_
                refine SeqK.nil ?_
                exact ⟨i + 1, _, Wk.keep 68 [(1, .lp 1 0), (2, .c (iC 0)), (3, iX .i64 ((t.c.natAbs + bndPs (t.ps.take (i + 1)) : Nat) : Int)), (4, iX .i64 (((i + 1) : Nat) : Int))] [(1, .box [.t (.v (.int .i64 t.c)), .t (.sl .un 5 (t.ps.map ptT))])] (H) rfl ⟨rfl, rfl, rfl, rfl, trivial⟩ ⟨rfl, trivial⟩ (fun _ _ h => h) rfl, by omega, ⟨hi, take_step hi hc (by simp at g45; omega), by omega⟩, rfl⟩
        ·
          refine AW.skip ?_
          refine AW.seq ?_
          refine AW.seq ?_
          have hbp := bndP_eq t.ps[i]
          try rw [if_pos h28] at hbp
          try rw [if_neg h28, if_neg h31] at hbp
          refine AW.reg ?_
          refine SeqK.q (q_fieldL _ rfl Fx.fl62_0 rfl rfl) rfl rfl rfl ?_
          refine SeqK.r (b_load (r := .a _) rfl Fx.ty2 rfl rfl rfl rfl rfl rfl) rfl ?_
          refine SeqK.q (q_call _ rfl Fx.fn58 rfl (within_any _ _ _) rfl) rfl rfl rfl ?_
          refine SeqK.q (q_not rfl rfl) rfl rfl rfl ?_
          refine SeqK.qB (q_mvC rfl rfl) rfl rfl rfl (fun g45 => ?_) (fun g45 => ?_)
          ·
            refine SeqK.off rfl rfl rfl rfl rfl rfl ?_
            refine SeqK.off rfl rfl rfl rfl rfl rfl ?_
            refine SeqK.off rfl rfl rfl rfl rfl rfl ?_
            refine SeqK.off rfl rfl rfl rfl rfl rfl ?_
            refine SeqK.offU rfl rfl rfl rfl rfl ?_
            refine SeqK.offU rfl rfl rfl rfl rfl ?_
            refine SeqK.offU rfl rfl rfl rfl rfl ?_
            refine SeqK.offU rfl rfl rfl rfl rfl ?_
            refine SeqK.offU rfl rfl rfl rfl rfl ?_
            refine SeqK.offU rfl rfl rfl rfl rfl ?_
            refine SeqK.off rfl rfl rfl rfl rfl rfl ?_
            refine SeqK.q (q_pkT rfl rfl rfl) rfl rfl rfl ?_
            refine SeqK.nil ?_
            refine AW.condT rfl ?_
            refine AW.seq ?_
            refine AW.reg ?_
            refine SeqK.q (q_asC rfl rfl) rfl rfl rfl ?_
            refine SeqK.nil ?_
            refine AW.ret ?_
            exact fin_x (x := .c _) (H) (.tmp rfl .nil) rfl (fun _ _ h => h) (⟨by rw [rb, if_neg (by rw [show smallB t = false by first | exact small_no hi (by simp at g45; omega) | exact small_mul hi (by omega) (by omega)]; simp)], rfl⟩)
          ·
            refine SeqK.on (q_fieldL _ rfl Fx.fl62_0 rfl rfl) rfl rfl rfl rfl rfl ?_
            refine SeqK.rOn (b_load (r := .a _) rfl Fx.ty2 rfl rfl rfl rfl rfl rfl) rfl rfl rfl ?_
            refine SeqK.on (q_neq rfl rfl rfl) rfl rfl rfl rfl rfl ?_
            refine SeqK.onD (q_mvC rfl rfl) rfl rfl rfl rfl rfl (fun g49 => ?_) (fun g49 => ?_)
            ·
              refine SeqK.on (q_mvC rfl rfl) rfl rfl rfl rfl rfl ?_
              refine SeqK.on (q_fieldL _ rfl Fx.fl62_0 rfl rfl) rfl rfl rfl rfl rfl ?_
              refine SeqK.rOn (b_load (r := .a _) rfl Fx.ty2 rfl rfl rfl rfl rfl rfl) rfl rfl rfl ?_
              refine SeqK.on (q_call _ rfl Fx.fn54 rfl (rabs_any _ (by simp at *; omega)) rfl) rfl rfl rfl rfl rfl ?_
              refine SeqK.on (q_quo _ rfl rfl rfl (by omega) (quoI (x := 2 ^ 60) (by omega))) rfl rfl rfl rfl rfl ?_
              refine SeqK.on (q_gtr rfl rfl rfl) rfl rfl rfl rfl rfl ?_
              refine SeqK.on (q_pkT rfl rfl rfl) rfl rfl rfl rfl rfl ?_
              refine SeqK.q (q_pkF rfl rfl rfl) rfl rfl rfl ?_
              refine SeqK.nil ?_
              refine AW.condD rfl (fun h57 => ?_) (fun h57 => ?_)
              ·
                refine AW.seq ?_
                refine AW.reg ?_
                refine SeqK.q (q_asC rfl rfl) rfl rfl rfl ?_
                refine SeqK.nil ?_
                refine AW.ret ?_
                exact fin_x (x := .c _) (H) (.tmp rfl .nil) rfl (fun _ _ h => h) (⟨by rw [rb, if_neg (by rw [show smallB t = false by first | exact small_no hi (by simp at g45; omega) | exact small_mul hi (by omega) (by omega)]; simp)], rfl⟩)
              ·
                refine AW.skip ?_
                refine AW.seq ?_
                have hle : t.ps[i].coef.natAbs * bndP t.ps[i] ≤ 2 ^ 60 := by first | exact mul_le_of (by omega) | (rw [show t.ps[i].coef.natAbs = 0 by omega]; omega)
                refine AW.reg ?_
                refine SeqK.q (q_mvC rfl rfl) rfl rfl rfl ?_
                refine SeqK.q (q_fieldL _ rfl Fx.fl62_0 rfl rfl) rfl rfl rfl ?_
                refine SeqK.r (b_load (r := .a _) rfl Fx.ty2 rfl rfl rfl rfl rfl rfl) rfl ?_
                refine SeqK.q (q_call _ rfl Fx.fn54 rfl (rabs_any _ (by simp at *; omega)) rfl) rfl rfl rfl ?_
                refine SeqK.q (q_mvC rfl rfl) rfl rfl rfl ?_
                refine SeqK.q (q_mul _ rfl rfl rfl (mulB (b := bndP t.ps[i]) (by omega) hle)) rfl rfl rfl ?_
                refine SeqK.q (q_add _ rfl rfl rfl ((by rw [bndPs_take hi, w64 (by omega) (by omega)]; push_cast; omega : IntKind.i64.wrap _ = ((t.c.natAbs + bndPs (t.ps.take (i + 1)) : Nat) : Int)))) rfl rfl rfl ?_
                refine SeqK.q (q_asC rfl rfl) rfl rfl rfl ?_
                refine SeqK.nil ?_
                refine AW.seq ?_
                refine AW.reg ?_
                refine SeqK.q (q_mvC rfl rfl) rfl rfl rfl ?_
                refine SeqK.q (q_gtr rfl rfl rfl) rfl rfl rfl ?_
                refine SeqK.nil ?_
                refine AW.condD rfl (fun h66 => ?_) (fun h66 => ?_)
                ·
                  refine AW.seq ?_
                  refine AW.reg ?_
                  refine SeqK.q (q_asC rfl rfl) rfl rfl rfl ?_
                  refine SeqK.nil ?_
                  refine AW.ret ?_
                  exact fin_x (x := .c _) (H) (.tmp rfl .nil) rfl (fun _ _ h => h) (⟨by rw [rb, if_neg (by rw [small_big (t := t) (i := i + 1) (by omega)]; simp)], rfl⟩)
                ·
                  refine AW.skip ?_
                  refine AW.reg ?_
                  refine SeqK.q (q_mvC rfl rfl) rfl rfl rfl ?_
                  refine SeqK.q (q_add _ rfl rfl rfl (w64 (by omega) (by omega))) rfl rfl rfl ?_
                  refine SeqK.q (q_asC rfl rfl) rfl rfl rfl ?_
                  refine SeqK.nil ?_
                  exact ⟨i + 1, _, Wk.keep 68 [(1, .lp 1 0), (2, .c (iC 0)), (3, iX .i64 ((t.c.natAbs + bndPs (t.ps.take (i + 1)) : Nat) : Int)), (4, iX .i64 (((i + 1) : Nat) : Int))] [(1, .box [.t (.v (.int .i64 t.c)), .t (.sl .un 5 (t.ps.map ptT))])] (H) rfl ⟨rfl, rfl, rfl, rfl, trivial⟩ ⟨rfl, trivial⟩ (fun _ _ h => h) rfl, by omega, ⟨hi, take_step hi hc (by simp at g45; omega), by omega⟩, rfl⟩
            ·
              refine SeqK.off rfl rfl rfl rfl rfl rfl ?_
              refine SeqK.off rfl rfl rfl rfl rfl rfl ?_
              refine SeqK.off rfl rfl rfl rfl rfl rfl ?_
              refine SeqK.off rfl rfl rfl rfl rfl rfl ?_
              refine SeqK.off rfl rfl rfl rfl rfl rfl ?_
              refine SeqK.off rfl rfl rfl rfl rfl rfl ?_
              refine SeqK.on (q_pkF rfl rfl rfl) rfl rfl rfl rfl rfl ?_
              refine SeqK.q (q_pkF rfl rfl rfl) rfl rfl rfl ?_
              refine SeqK.nil ?_
              refine AW.condF rfl ?_
              refine AW.skip ?_
              refine AW.seq ?_
              have hle : t.ps[i].coef.natAbs * bndP t.ps[i] ≤ 2 ^ 60 := by first | exact mul_le_of (by omega) | (rw [show t.ps[i].coef.natAbs = 0 by omega]; omega)
              refine AW.reg ?_
              refine SeqK.q (q_mvC rfl rfl) rfl rfl rfl ?_
              refine SeqK.q (q_fieldL _ rfl Fx.fl62_0 rfl rfl) rfl rfl rfl ?_
              refine SeqK.r (b_load (r := .a _) rfl Fx.ty2 rfl rfl rfl rfl rfl rfl) rfl ?_
              refine SeqK.q (q_call _ rfl Fx.fn54 rfl (rabs_any _ (by simp at *; omega)) rfl) rfl rfl rfl ?_
              refine SeqK.q (q_mvC rfl rfl) rfl rfl rfl ?_
              refine SeqK.q (q_mul _ rfl rfl rfl (mulB (b := bndP t.ps[i]) (by omega) hle)) rfl rfl rfl ?_
              refine SeqK.q (q_add _ rfl rfl rfl ((by rw [bndPs_take hi, w64 (by omega) (by omega)]; push_cast; omega : IntKind.i64.wrap _ = ((t.c.natAbs + bndPs (t.ps.take (i + 1)) : Nat) : Int)))) rfl rfl rfl ?_
              refine SeqK.q (q_asC rfl rfl) rfl rfl rfl ?_
              refine SeqK.nil ?_
              refine AW.seq ?_
              refine AW.reg ?_
              refine SeqK.q (q_mvC rfl rfl) rfl rfl rfl ?_
              refine SeqK.q (q_gtr rfl rfl rfl) rfl rfl rfl ?_
              refine SeqK.nil ?_
              refine AW.condD rfl (fun h66 => ?_) (fun h66 => ?_)
              ·
                refine AW.seq ?_
                refine AW.reg ?_
                refine SeqK.q (q_asC rfl rfl) rfl rfl rfl ?_
                refine SeqK.nil ?_
                refine AW.ret ?_
                exact fin_x (x := .c _) (H) (.tmp rfl .nil) rfl (fun _ _ h => h) (⟨by rw [rb, if_neg (by rw [small_big (t := t) (i := i + 1) (by omega)]; simp)], rfl⟩)
              ·
                refine AW.skip ?_
                refine AW.reg ?_
                refine SeqK.q (q_mvC rfl rfl) rfl rfl rfl ?_
                refine SeqK.q (q_add _ rfl rfl rfl (w64 (by omega) (by omega))) rfl rfl rfl ?_
                refine SeqK.q (q_asC rfl rfl) rfl rfl rfl ?_
                refine SeqK.nil ?_
                exact ⟨i + 1, _, Wk.keep 68 [(1, .lp 1 0), (2, .c (iC 0)), (3, iX .i64 ((t.c.natAbs + bndPs (t.ps.take (i + 1)) : Nat) : Int)), (4, iX .i64 (((i + 1) : Nat) : Int))] [(1, .box [.t (.v (.int .i64 t.c)), .t (.sl .un 5 (t.ps.map ptT))])] (H) rfl ⟨rfl, rfl, rfl, rfl, trivial⟩ ⟨rfl, trivial⟩ (fun _ _ h => h) rfl, by omega, ⟨hi, take_step hi hc (by simp at g45; omega), by omega⟩, rfl⟩
    ·
      refine AW.exit ?_
      refine eth_e ?_
      refine eth_e ?_
      refine exit_here ?_
      refine AW.seq ?_
      refine AW.reg ?_
      refine SeqK.q (q_mvC rfl rfl) rfl rfl rfl ?_
      refine SeqK.q (q_asC rfl rfl) rfl rfl rfl ?_
      refine SeqK.nil ?_
      refine AW.ret ?_
      rw [List.length_map] at h18
      rw [List.take_of_length_le (by omega)] at hc
      exact fin_x (x := .c _) (H) (.tmp rfl .nil) rfl (fun _ _ h => h) (⟨by rw [rb, if_pos (smallB_iff.2 ⟨hc40, hc, by rw [List.take_of_length_le (by omega)] at hS; rw [bndT_eq]; exact hS⟩), bndT_eq, List.take_of_length_le (by omega)], rfl⟩)

end Go.Proofs.YtfbdokfcebpkaaaDoor.W
