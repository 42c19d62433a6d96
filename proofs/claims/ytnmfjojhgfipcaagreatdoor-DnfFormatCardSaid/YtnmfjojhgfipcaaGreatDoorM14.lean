/- Parts of the proof, one after the other: Shelf, B1, W1, W2. No condition. -/
import Derived.Test.YtnmfjojhgfipcaaGreatDoorM13
import Derived.Shelf.Strings.Builder1
import Derived.Shelf.Strings.Builder2
import Derived.Shelf.Strings.OnBuilder
import Derived.Shelf.Strings.BuilderF
import Derived.Shelf.Strings.BuilderK
import Derived.Shelf.Utf8.RuneCount
import Derived.Shelf.Strings.Builder2Cap
import Derived.Shelf.Strconv.Itoa0
import Derived.Shelf.Strconv.Itoa1
import Derived.Shelf.LaysM
import Derived.Shelf.Strconv.Itoa2
import Derived.Shelf.Strconv.Itoa3
import Derived.Shelf.Strconv.Itoa4
import Derived.Shelf.Strings.Search1
import Derived.Shelf.Strings.Search2
import Derived.Shelf.Strings.Search3
import Derived.Shelf.Strings.Count
import Derived.Shelf.Strings.Shaped
import Derived.Shelf.Sort.Plain
import Derived.Shelf.Strings.Split
import Derived.Shelf.Strings.Replace
import Derived.Shelf.Strings.SplitShaped
import Derived.Shelf.Unicode.Decode
import Derived.Shelf.Strings.RuneCount
import Derived.Shelf.Unicode.DecodeSlow
import Derived.Shelf.Unicode.DecodeAny
import Derived.Test.YtnmfjojhgfipcaaGreatDoorProg
/-
  DERIVED: THE SHELF's CONTRACTS AT THIS DUMP, IN PLAIN WORDS (tools/lay-plain.mjs out of 'TryzShelf.lean', which tools/lay-shelf.mjs wrote): THE SAME DECLARATIONS UNDER THE SAME NAMES: 'import', 'namespace', 'open', 'def', 'theorem' AND NOTHING ELSE: no command of the shelf's: FOR A HAND-IN. Each laying: the table of numbers ('.._ren') and one theorem, a field a fact of the dump's own or the kernel's comparison; each contract: ONE APPLICATION.
-/
namespace Go.Proofs
open Go.Shelf
def Tryz.lays156_ren : Go.Shelf.Ren := ⟨fun | 156 => 24 | 165 => 45 | 166 => 46 | 169 => 47 | 240 => 63 | 241 => 64 | 276 => 83 | 277 => 84 | n => n, fun | 31 => 73 | 9 => 9 | 3 => 3 | 4 => 4 | 0 => 0 | 20 => 20 | 72 => 108 | 76 => 112 | 70 => 105 | 37 => 106 | 75 => 111 | 127 => 135 | 164 => 154 | 5 => 5 | 80 => 114 | n => n, fun | n => n⟩
theorem Tryz.lays156 : Go.Proofs.Lays.n156 Tryz.prog Tryz.lays156_ren := {
  mixed := by kernel_rfl
  f156 := Tryz.func24.trans (congrArg some (by kernel_rfl))
  f165 := Tryz.func45.trans (congrArg some (by kernel_rfl))
  f166 := Tryz.func46.trans (congrArg some (by kernel_rfl))
  f169 := Tryz.func47.trans (congrArg some (by kernel_rfl))
  f240 := Tryz.func63.trans (congrArg some (by kernel_rfl))
  f241 := Tryz.func64.trans (congrArg some (by kernel_rfl))
  f276 := Tryz.func83.trans (congrArg some (by kernel_rfl))
  f277 := Tryz.func84.trans (congrArg some (by kernel_rfl))
  t0 := Tryz.underlying0
  a0 := Tryz.isAgg0
  z0 := Tryz.sizeOf0
  v0 := Tryz.zeroValue0
  t3 := Tryz.underlying3
  a3 := Tryz.isAgg3
  z3 := Tryz.sizeOf3
  v3 := Tryz.zeroValue3
  t4 := Tryz.underlying4
  a4 := Tryz.isAgg4
  z4 := Tryz.sizeOf4
  v4 := Tryz.zeroValue4
  t9 := Tryz.underlying9
  a9 := Tryz.isAgg9
  z9 := Tryz.sizeOf9
  v9 := Tryz.zeroValue9
  t20 := Tryz.underlying20
  a20 := Tryz.isAgg20
  z20 := Tryz.sizeOf20
  v20 := Tryz.zeroValue20
  t31 := Tryz.underlying73
  a31 := Tryz.isAgg73
  z31 := Tryz.sizeOf73
  v31 := Tryz.zeroValue73
  t37 := Tryz.underlying106
  a37 := Tryz.isAgg106
  z37 := Tryz.sizeOf106
  v37 := Tryz.zeroValue106
  t70 := Tryz.underlying105
  a70 := Tryz.isAgg105
  z70 := Tryz.sizeOf105
  v70 := Tryz.zeroValue105
  t72 := Tryz.underlying108
  a72 := Tryz.isAgg108
  z72 := Tryz.sizeOf108
  v72 := Tryz.zeroValue108
  t75 := Tryz.underlying111
  a75 := Tryz.isAgg111
  z75 := Tryz.sizeOf111
  v75 := Tryz.zeroValue111
  t76 := Tryz.underlying112
  a76 := Tryz.isAgg112
  z76 := Tryz.sizeOf112
  v76 := Tryz.zeroValue112
  t127 := Tryz.underlying135
  a127 := Tryz.isAgg135
  z127 := Tryz.sizeOf135
  v127 := Tryz.zeroValue135
  t164 := Tryz.underlying154
  a164 := Tryz.isAgg154
  z164 := Tryz.sizeOf154
  v164 := Tryz.zeroValue154 }
theorem Tryz.Builder_Extra_156 : Builder.Extra Tryz.prog Tryz.lays156_ren := {
  sizeBuilder := by kernel_rfl
  liesBuilder := by kernel_rfl
  t5 := Tryz.underlying5
  a5 := Tryz.isAgg5
  z5 := Tryz.sizeOf5
  v5 := Tryz.zeroValue5
  infoByte := by kernel_rfl
  cellsByte := by kernel_rfl
  sizeByte := by kernel_rfl
  neB5 := by decide }
open Go.RowKit in
/-- No element: the empty string; the world is as it was. (Whatever the slice's address and capacity: a nil slice too.) (LAID: no walk: one application.) -/
theorem Tryz.strings_Join_none (a : Option Addr) (c : Nat) (sep : ByteArray) (w : World) :
    Calls Tryz.prog 24 #[.slice a 0 c, .string sep] w fun e w' => e = .returned (.string ⟨#[]⟩) ∧ w' = w := Any.strings_Join_none Tryz.lays156 Tryz.Builder_Extra_156 a c sep w
open Go.RowKit in
/-- strings.Join: "Join concatenates the elements of its first argument to create a single string. The separator string sep is placed between elements in the resulting string.": HOWEVER MANY ELEMENTS. Below the heap's end the world is as it was. (LAID: no walk: one application.) -/
theorem Tryz.strings_Join (bk o c : Nat) (xs : List ByteArray) (sep : ByteArray) (w : World) (hcells : ∀ (j : Nat) x, xs[j]? = some x → w.cell? ⟨bk, o + j, none⟩ = some (.string x)) (hbk : bk < w.heap.size) (hN : xs.length ≤ 140737488355328) (hcap : xs.length ≤ c) (hlen : (Lib.join (xs.map (·.data.toList)) sep.data.toList).length ≤ 140737488355328) :
    Calls Tryz.prog 24 #[.slice (some ⟨bk, o, none⟩) xs.length c, .string sep] w fun e w' => e = .returned (.string ⟨(Lib.join (xs.map (·.data.toList)) sep.data.toList).toArray⟩) ∧ Below w.heap.size w w' := Any.strings_Join Tryz.lays156 Tryz.Builder_Extra_156 bk o c xs sep w hcells hbk hN hcap hlen
def Tryz.lays283_ren : Go.Shelf.Ren := ⟨fun | 283 => 57 | n => n, fun | 3 => 3 | 9 => 9 | 4 => 4 | n => n, fun | n => n⟩
theorem Tryz.lays283 : Go.Proofs.Lays.n283 Tryz.prog Tryz.lays283_ren := {
  mixed := by kernel_rfl
  f283 := Tryz.func57.trans (congrArg some (by kernel_rfl))
  t3 := Tryz.underlying3
  a3 := Tryz.isAgg3
  z3 := Tryz.sizeOf3
  v3 := Tryz.zeroValue3
  t4 := Tryz.underlying4
  a4 := Tryz.isAgg4
  z4 := Tryz.sizeOf4
  v4 := Tryz.zeroValue4
  t9 := Tryz.underlying9
  a9 := Tryz.isAgg9
  z9 := Tryz.sizeOf9
  v9 := Tryz.zeroValue9 }
open Go.Lib in
/-- internal/strconv.small: "small returns the string for an i with 0 <= i < nSmalls.": i's decimal numeral. The world is as it was. (LAID: no walk: one application.) -/
theorem Tryz.internal_strconv_small (i : Nat) (h : i < 100) (w : World) :
    Calls Tryz.prog 57 #[.int .i64 i] w fun e w' => e = .returned (.string ⟨(Lib.decDigits i).toArray⟩) ∧ w' = w := Any.internal_strconv_small Tryz.lays283 i h w
def Tryz.laysM284_ren : Go.Shelf.Ren := ⟨fun | 284 => 58 | 129 => 76 | 317 => 75 | 318 => 77 | n => n, fun | 53 => 98 | 3 => 3 | 212 => 145 | 0 => 0 | 4 => 4 | 46 => 149 | 5 => 5 | 9 => 9 | n => n, fun | 17 => 0 | n => n⟩
theorem Tryz.laysM284 : Go.Proofs.LaysM.n284 Tryz.prog Tryz.laysM284_ren := {
  mixed := by kernel_rfl
  f129 := Tryz.func76.trans (congrArg some (by kernel_rfl))
  f284 := Tryz.func58.trans (congrArg some (by kernel_rfl))
  f317 := Tryz.func75.trans (congrArg some (by kernel_rfl))
  f318 := Tryz.func77.trans (congrArg some (by kernel_rfl))
  t0 := Tryz.underlying0
  a0 := Tryz.isAgg0
  z0 := Tryz.sizeOf0
  v0 := Tryz.zeroValue0
  t3 := Tryz.underlying3
  a3 := Tryz.isAgg3
  z3 := Tryz.sizeOf3
  v3 := Tryz.zeroValue3
  t4 := Tryz.underlying4
  a4 := Tryz.isAgg4
  z4 := Tryz.sizeOf4
  v4 := Tryz.zeroValue4
  t5 := Tryz.underlying5
  a5 := Tryz.isAgg5
  z5 := Tryz.sizeOf5
  v5 := Tryz.zeroValue5
  t9 := Tryz.underlying9
  a9 := Tryz.isAgg9
  z9 := Tryz.sizeOf9
  v9 := Tryz.zeroValue9
  t46 := Tryz.underlying149
  a46 := Tryz.isAgg149
  z46 := Tryz.sizeOf149
  v46 := Tryz.zeroValue149
  t53 := Tryz.underlying98
  a53 := Tryz.isAgg98
  z53 := Tryz.sizeOf98
  v53 := Tryz.zeroValue98
  t212 := Tryz.underlying145
  a212 := Tryz.isAgg145
  z212 := Tryz.sizeOf145
  v212 := Tryz.zeroValue145
  g17 := by kernel_rfl
  i0 := by kernel_rfl
  i3 := by kernel_rfl
  i4 := by kernel_rfl
  i5 := by kernel_rfl
  i9 := by kernel_rfl
  i46 := by kernel_rfl
  i53 := by kernel_rfl
  i212 := by kernel_rfl
  m17 := by kernel_rfl }
open Go.Lib in
/-- internal/strconv.numDigits, at a d that is not 0: THE NUMBER OF d's DECIMAL DIGITS. The world is as it was. (LAID: no walk: one application.) -/
theorem Tryz.internal_strconv_numDigits (u : Nat) (h1 : 1 ≤ u) (h2 : u < 18446744073709551616) (w : World) (htab : Lib.TabIs Tryz.prog w "internal/strconv.uint64pow10" .u64 Lib.pow10Tab) :
    Calls Tryz.prog 58 #[.int .u64 u] w fun e w' => e = .returned (.int .i64 (Lib.nDigits u)) ∧ w' = w := Any.internal_strconv_numDigits Tryz.laysM284 u h1 h2 w htab
def Tryz.lays285_ren : Go.Shelf.Ren := ⟨fun | 285 => 59 | n => n, fun | 37 => 106 | 53 => 98 | 3 => 3 | 4 => 4 | 51 => 146 | 9 => 9 | 5 => 5 | 0 => 0 | n => n, fun | n => n⟩
theorem Tryz.lays285 : Go.Proofs.Lays.n285 Tryz.prog Tryz.lays285_ren := {
  mixed := by kernel_rfl
  f285 := Tryz.func59.trans (congrArg some (by kernel_rfl))
  t0 := Tryz.underlying0
  a0 := Tryz.isAgg0
  z0 := Tryz.sizeOf0
  v0 := Tryz.zeroValue0
  t3 := Tryz.underlying3
  a3 := Tryz.isAgg3
  z3 := Tryz.sizeOf3
  v3 := Tryz.zeroValue3
  t4 := Tryz.underlying4
  a4 := Tryz.isAgg4
  z4 := Tryz.sizeOf4
  v4 := Tryz.zeroValue4
  t5 := Tryz.underlying5
  a5 := Tryz.isAgg5
  z5 := Tryz.sizeOf5
  v5 := Tryz.zeroValue5
  t9 := Tryz.underlying9
  a9 := Tryz.isAgg9
  z9 := Tryz.sizeOf9
  v9 := Tryz.zeroValue9
  t37 := Tryz.underlying106
  a37 := Tryz.isAgg106
  z37 := Tryz.sizeOf106
  v37 := Tryz.zeroValue106
  t51 := Tryz.underlying146
  a51 := Tryz.isAgg146
  z51 := Tryz.sizeOf146
  v51 := Tryz.zeroValue146
  t53 := Tryz.underlying98
  a53 := Tryz.isAgg98
  z53 := Tryz.sizeOf98
  v53 := Tryz.zeroValue98 }
open Go.RowKit Go.Sort Go.Lib in
/-- internal/strconv.formatBase10: "formatBase10 formats the decimal representation of u into a. The caller is responsible for ensuring that a is big enough to hold u. If a is too big, leading zeros will be filled in as needed.": THE ROW HOLDS u's DIGITS ('FmtInv .. 0 ..': every place t holds 'dg u (len - 1 - t)'); all else is as it was but for the count of draws. (LAID: no walk: one application.) -/
theorem Tryz.internal_strconv_formatBase10 (blk off cap : Nat) (u : Nat) (d : Array UInt8) (w : World) (hH : Holds (fun (b : UInt8) => Value.int .u8 (b.toNat : Int)) w blk off d) (hu : u < 10 ^ d.size) (hu64 : u < 18446744073709551616) (hsz : d.size < 4611686018427387904) :
    Calls Tryz.prog 59 #[.slice (some ⟨blk, off, none⟩) d.size cap, .int .u64 u] w fun e w' =>
      e = .returned (.tuple #[]) ∧ ∃ (n v' : Nat) (dk : Array UInt8), w' = (putRow (fun (b : UInt8) => Value.int .u8 (b.toNat : Int)) w blk off dk).drewN n ∧ FmtInv d.size u 0 v' dk := Any.internal_strconv_formatBase10 Tryz.lays285 blk off cap u d w hH hu hu64 hsz
def Tryz.laysM171_ren : Go.Shelf.Ren := ⟨fun | 171 => 38 | 243 => 55 | 246 => 42 | 283 => 57 | 284 => 58 | 285 => 59 | 286 => 60 | 129 => 76 | 317 => 75 | 318 => 77 | 319 => 78 | 320 => 79 | 337 => 89 | 338 => 90 | n => n, fun | 3 => 3 | 9 => 9 | 2 => 2 | 4 => 4 | 171 => 128 | 0 => 0 | 53 => 98 | 37 => 106 | 5 => 5 | 173 => 131 | 212 => 145 | 51 => 146 | 20 => 20 | 213 => 147 | 46 => 149 | 232 => 174 | 233 => 175 | n => n, fun | 17 => 0 | 18 => 2 | 19 => 3 | n => n⟩
theorem Tryz.laysM171 : Go.Proofs.LaysM.n171 Tryz.prog Tryz.laysM171_ren := {
  mixed := by kernel_rfl
  f129 := Tryz.func76.trans (congrArg some (by kernel_rfl))
  f171 := Tryz.func38.trans (congrArg some (by kernel_rfl))
  f243 := Tryz.func55.trans (congrArg some (by kernel_rfl))
  f246 := Tryz.func42.trans (congrArg some (by kernel_rfl))
  f283 := Tryz.func57.trans (congrArg some (by kernel_rfl))
  f284 := Tryz.func58.trans (congrArg some (by kernel_rfl))
  f285 := Tryz.func59.trans (congrArg some (by kernel_rfl))
  f286 := Tryz.func60.trans (congrArg some (by kernel_rfl))
  f317 := Tryz.func75.trans (congrArg some (by kernel_rfl))
  f318 := Tryz.func77.trans (congrArg some (by kernel_rfl))
  f319 := Tryz.func78.trans (congrArg some (by kernel_rfl))
  f320 := Tryz.func79.trans (congrArg some (by kernel_rfl))
  f337 := Tryz.func89.trans (congrArg some (by kernel_rfl))
  f338 := Tryz.func90.trans (congrArg some (by kernel_rfl))
  t0 := Tryz.underlying0
  a0 := Tryz.isAgg0
  z0 := Tryz.sizeOf0
  v0 := Tryz.zeroValue0
  t2 := Tryz.underlying2
  a2 := Tryz.isAgg2
  z2 := Tryz.sizeOf2
  v2 := Tryz.zeroValue2
  t3 := Tryz.underlying3
  a3 := Tryz.isAgg3
  z3 := Tryz.sizeOf3
  v3 := Tryz.zeroValue3
  t4 := Tryz.underlying4
  a4 := Tryz.isAgg4
  z4 := Tryz.sizeOf4
  v4 := Tryz.zeroValue4
  t5 := Tryz.underlying5
  a5 := Tryz.isAgg5
  z5 := Tryz.sizeOf5
  v5 := Tryz.zeroValue5
  t9 := Tryz.underlying9
  a9 := Tryz.isAgg9
  z9 := Tryz.sizeOf9
  v9 := Tryz.zeroValue9
  t20 := Tryz.underlying20
  a20 := Tryz.isAgg20
  z20 := Tryz.sizeOf20
  v20 := Tryz.zeroValue20
  t37 := Tryz.underlying106
  a37 := Tryz.isAgg106
  z37 := Tryz.sizeOf106
  v37 := Tryz.zeroValue106
  t46 := Tryz.underlying149
  a46 := Tryz.isAgg149
  z46 := Tryz.sizeOf149
  v46 := Tryz.zeroValue149
  t51 := Tryz.underlying146
  a51 := Tryz.isAgg146
  z51 := Tryz.sizeOf146
  v51 := Tryz.zeroValue146
  t53 := Tryz.underlying98
  a53 := Tryz.isAgg98
  z53 := Tryz.sizeOf98
  v53 := Tryz.zeroValue98
  t171 := Tryz.underlying128
  a171 := Tryz.isAgg128
  z171 := Tryz.sizeOf128
  v171 := Tryz.zeroValue128
  t173 := Tryz.underlying131
  a173 := Tryz.isAgg131
  z173 := Tryz.sizeOf131
  v173 := Tryz.zeroValue131
  t212 := Tryz.underlying145
  a212 := Tryz.isAgg145
  z212 := Tryz.sizeOf145
  v212 := Tryz.zeroValue145
  t213 := Tryz.underlying147
  a213 := Tryz.isAgg147
  z213 := Tryz.sizeOf147
  t232 := Tryz.underlying174
  a232 := Tryz.isAgg174
  z232 := Tryz.sizeOf174
  v232 := Tryz.zeroValue174
  t233 := Tryz.underlying175
  a233 := Tryz.isAgg175
  z233 := Tryz.sizeOf175
  v233 := Tryz.zeroValue175
  g17 := by kernel_rfl
  g18 := by kernel_rfl
  g19 := by kernel_rfl
  i0 := by kernel_rfl
  i2 := by kernel_rfl
  i3 := by kernel_rfl
  i4 := by kernel_rfl
  i5 := by kernel_rfl
  i9 := by kernel_rfl
  i20 := by kernel_rfl
  i37 := by kernel_rfl
  i46 := by kernel_rfl
  i51 := by kernel_rfl
  i53 := by kernel_rfl
  i171 := by kernel_rfl
  i173 := by kernel_rfl
  i212 := by kernel_rfl
  i232 := by kernel_rfl
  i233 := by kernel_rfl
  m17 := by kernel_rfl
  m18 := by kernel_rfl
  m19 := by kernel_rfl }
open Go.RowKit Go.Sort Go.Lib in
/-- strconv.Itoa: "Itoa is equivalent to FormatInt(int64(i), 10).": i's DECIMAL NUMERAL ('Lib.itoa': a '-' where i is negative, then the digits), FOR EVERY int. The world behind the call: the world before it, new blocks behind the heap (the library's 'var a [24]byte'), draws. (LAID: no walk: one application.) -/
theorem Tryz.strconv_Itoa (n : Int) (h0 : -9223372036854775808 ≤ n) (h1 : n ≤ 9223372036854775807) (w : World) (htab : Lib.TabIs Tryz.prog w "internal/strconv.uint64pow10" .u64 Lib.pow10Tab) :
    Calls Tryz.prog 38 #[.int .i64 n] w fun e w' => e = .returned (.string ⟨(Lib.itoa n).toArray⟩) ∧ ∃ k os, w' = grow (w.drewN k) os := Any.strconv_Itoa Tryz.laysM171 n h0 h1 w htab
def Tryz.laysM173_ren : Go.Shelf.Ren := ⟨fun | 173 => 20 | 246 => 42 | 283 => 57 | 284 => 58 | 285 => 59 | 286 => 60 | 129 => 76 | 317 => 75 | 318 => 77 | 319 => 78 | 320 => 79 | 337 => 89 | 338 => 90 | n => n, fun | 2 => 2 | 3 => 3 | 9 => 9 | 4 => 4 | 171 => 128 | 0 => 0 | 53 => 98 | 37 => 106 | 5 => 5 | 173 => 131 | 212 => 145 | 51 => 146 | 20 => 20 | 213 => 147 | 46 => 149 | 232 => 174 | 233 => 175 | n => n, fun | 17 => 0 | 18 => 2 | 19 => 3 | n => n⟩
theorem Tryz.laysM173 : Go.Proofs.LaysM.n173 Tryz.prog Tryz.laysM173_ren := {
  mixed := by kernel_rfl
  f129 := Tryz.func76.trans (congrArg some (by kernel_rfl))
  f173 := Tryz.func20.trans (congrArg some (by kernel_rfl))
  f246 := Tryz.func42.trans (congrArg some (by kernel_rfl))
  f283 := Tryz.func57.trans (congrArg some (by kernel_rfl))
  f284 := Tryz.func58.trans (congrArg some (by kernel_rfl))
  f285 := Tryz.func59.trans (congrArg some (by kernel_rfl))
  f286 := Tryz.func60.trans (congrArg some (by kernel_rfl))
  f317 := Tryz.func75.trans (congrArg some (by kernel_rfl))
  f318 := Tryz.func77.trans (congrArg some (by kernel_rfl))
  f319 := Tryz.func78.trans (congrArg some (by kernel_rfl))
  f320 := Tryz.func79.trans (congrArg some (by kernel_rfl))
  f337 := Tryz.func89.trans (congrArg some (by kernel_rfl))
  f338 := Tryz.func90.trans (congrArg some (by kernel_rfl))
  t0 := Tryz.underlying0
  a0 := Tryz.isAgg0
  z0 := Tryz.sizeOf0
  v0 := Tryz.zeroValue0
  t2 := Tryz.underlying2
  a2 := Tryz.isAgg2
  z2 := Tryz.sizeOf2
  v2 := Tryz.zeroValue2
  t3 := Tryz.underlying3
  a3 := Tryz.isAgg3
  z3 := Tryz.sizeOf3
  v3 := Tryz.zeroValue3
  t4 := Tryz.underlying4
  a4 := Tryz.isAgg4
  z4 := Tryz.sizeOf4
  v4 := Tryz.zeroValue4
  t5 := Tryz.underlying5
  a5 := Tryz.isAgg5
  z5 := Tryz.sizeOf5
  v5 := Tryz.zeroValue5
  t9 := Tryz.underlying9
  a9 := Tryz.isAgg9
  z9 := Tryz.sizeOf9
  v9 := Tryz.zeroValue9
  t20 := Tryz.underlying20
  a20 := Tryz.isAgg20
  z20 := Tryz.sizeOf20
  v20 := Tryz.zeroValue20
  t37 := Tryz.underlying106
  a37 := Tryz.isAgg106
  z37 := Tryz.sizeOf106
  v37 := Tryz.zeroValue106
  t46 := Tryz.underlying149
  a46 := Tryz.isAgg149
  z46 := Tryz.sizeOf149
  v46 := Tryz.zeroValue149
  t51 := Tryz.underlying146
  a51 := Tryz.isAgg146
  z51 := Tryz.sizeOf146
  v51 := Tryz.zeroValue146
  t53 := Tryz.underlying98
  a53 := Tryz.isAgg98
  z53 := Tryz.sizeOf98
  v53 := Tryz.zeroValue98
  t171 := Tryz.underlying128
  a171 := Tryz.isAgg128
  z171 := Tryz.sizeOf128
  v171 := Tryz.zeroValue128
  t173 := Tryz.underlying131
  a173 := Tryz.isAgg131
  z173 := Tryz.sizeOf131
  v173 := Tryz.zeroValue131
  t212 := Tryz.underlying145
  a212 := Tryz.isAgg145
  z212 := Tryz.sizeOf145
  v212 := Tryz.zeroValue145
  t213 := Tryz.underlying147
  a213 := Tryz.isAgg147
  z213 := Tryz.sizeOf147
  t232 := Tryz.underlying174
  a232 := Tryz.isAgg174
  z232 := Tryz.sizeOf174
  v232 := Tryz.zeroValue174
  t233 := Tryz.underlying175
  a233 := Tryz.isAgg175
  z233 := Tryz.sizeOf175
  v233 := Tryz.zeroValue175
  g17 := by kernel_rfl
  g18 := by kernel_rfl
  g19 := by kernel_rfl
  i0 := by kernel_rfl
  i2 := by kernel_rfl
  i3 := by kernel_rfl
  i4 := by kernel_rfl
  i5 := by kernel_rfl
  i9 := by kernel_rfl
  i20 := by kernel_rfl
  i37 := by kernel_rfl
  i46 := by kernel_rfl
  i51 := by kernel_rfl
  i53 := by kernel_rfl
  i171 := by kernel_rfl
  i173 := by kernel_rfl
  i212 := by kernel_rfl
  i232 := by kernel_rfl
  i233 := by kernel_rfl
  m17 := by kernel_rfl
  m18 := by kernel_rfl
  m19 := by kernel_rfl }
open Go.RowKit Go.Sort Go.Lib in
/-- strconv.FormatInt: "FormatInt returns the string representation of i in the given base": AT BASE 10: i's decimal numeral, for every int64. (LAID: no walk: one application.) -/
theorem Tryz.strconv_FormatInt_10 (n : Int) (h0 : -9223372036854775808 ≤ n) (h1 : n ≤ 9223372036854775807) (w : World) (htab : Lib.TabIs Tryz.prog w "internal/strconv.uint64pow10" .u64 Lib.pow10Tab) :
    Calls Tryz.prog 20 #[.int .i64 n, .int .i64 10] w fun e w' => e = .returned (.string ⟨(Lib.itoa n).toArray⟩) ∧ ∃ k os, w' = grow (w.drewN k) os := Any.strconv_FormatInt_10 Tryz.laysM173 n h0 h1 w htab
def Tryz.lays155_ren : Go.Shelf.Ren := ⟨fun | 155 => 44 | 154 => 62 | 138 => 80 | 165 => 45 | 143 => 81 | 166 => 46 | 197 => 82 | 169 => 47 | 195 => 91 | 218 => 92 | 240 => 63 | 241 => 64 | 219 => 93 | 260 => 94 | 276 => 83 | 277 => 84 | 217 => 106 | 225 => 107 | 224 => 108 | 267 => 109 | 266 => 116 | 314 => 117 | n => n, fun | 9 => 9 | 3 => 3 | 4 => 4 | 72 => 108 | 0 => 0 | 76 => 112 | 105 => 152 | 21 => 21 | 5 => 5 | 70 => 105 | 20 => 20 | 37 => 106 | 75 => 111 | 127 => 135 | 164 => 154 | 46 => 149 | 119 => 176 | 139 => 179 | 138 => 178 | 146 => 186 | 51 => 146 | 80 => 114 | n => n, fun | 1 => 1 | 3 => 4 | 4 => 5 | n => n⟩
theorem Tryz.lays155 : Go.Proofs.Lays.n155 Tryz.prog Tryz.lays155_ren := {
  mixed := by kernel_rfl
  f138 := Tryz.func80.trans (congrArg some (by kernel_rfl))
  f143 := Tryz.func81.trans (congrArg some (by kernel_rfl))
  f154 := Tryz.func62.trans (congrArg some (by kernel_rfl))
  f155 := Tryz.func44.trans (congrArg some (by kernel_rfl))
  f165 := Tryz.func45.trans (congrArg some (by kernel_rfl))
  f166 := Tryz.func46.trans (congrArg some (by kernel_rfl))
  f169 := Tryz.func47.trans (congrArg some (by kernel_rfl))
  f195 := Tryz.func91.trans (congrArg some (by kernel_rfl))
  f197 := Tryz.func82.trans (congrArg some (by kernel_rfl))
  f217 := Tryz.func106.trans (congrArg some (by kernel_rfl))
  f218 := Tryz.func92.trans (congrArg some (by kernel_rfl))
  f219 := Tryz.func93.trans (congrArg some (by kernel_rfl))
  f224 := Tryz.func108.trans (congrArg some (by kernel_rfl))
  f225 := Tryz.func107.trans (congrArg some (by kernel_rfl))
  f240 := Tryz.func63.trans (congrArg some (by kernel_rfl))
  f241 := Tryz.func64.trans (congrArg some (by kernel_rfl))
  f260 := Tryz.func94.trans (congrArg some (by kernel_rfl))
  f266 := Tryz.func116.trans (congrArg some (by kernel_rfl))
  f267 := Tryz.func109.trans (congrArg some (by kernel_rfl))
  f276 := Tryz.func83.trans (congrArg some (by kernel_rfl))
  f277 := Tryz.func84.trans (congrArg some (by kernel_rfl))
  f314 := Tryz.func117.trans (congrArg some (by kernel_rfl))
  t0 := Tryz.underlying0
  a0 := Tryz.isAgg0
  z0 := Tryz.sizeOf0
  v0 := Tryz.zeroValue0
  t3 := Tryz.underlying3
  a3 := Tryz.isAgg3
  z3 := Tryz.sizeOf3
  v3 := Tryz.zeroValue3
  t4 := Tryz.underlying4
  a4 := Tryz.isAgg4
  z4 := Tryz.sizeOf4
  v4 := Tryz.zeroValue4
  t5 := Tryz.underlying5
  a5 := Tryz.isAgg5
  z5 := Tryz.sizeOf5
  v5 := Tryz.zeroValue5
  t9 := Tryz.underlying9
  a9 := Tryz.isAgg9
  z9 := Tryz.sizeOf9
  v9 := Tryz.zeroValue9
  t20 := Tryz.underlying20
  a20 := Tryz.isAgg20
  z20 := Tryz.sizeOf20
  v20 := Tryz.zeroValue20
  t21 := Tryz.underlying21
  a21 := Tryz.isAgg21
  z21 := Tryz.sizeOf21
  v21 := Tryz.zeroValue21
  t37 := Tryz.underlying106
  a37 := Tryz.isAgg106
  z37 := Tryz.sizeOf106
  v37 := Tryz.zeroValue106
  t46 := Tryz.underlying149
  a46 := Tryz.isAgg149
  z46 := Tryz.sizeOf149
  v46 := Tryz.zeroValue149
  t51 := Tryz.underlying146
  a51 := Tryz.isAgg146
  z51 := Tryz.sizeOf146
  v51 := Tryz.zeroValue146
  t70 := Tryz.underlying105
  a70 := Tryz.isAgg105
  z70 := Tryz.sizeOf105
  v70 := Tryz.zeroValue105
  t72 := Tryz.underlying108
  a72 := Tryz.isAgg108
  z72 := Tryz.sizeOf108
  v72 := Tryz.zeroValue108
  t75 := Tryz.underlying111
  a75 := Tryz.isAgg111
  z75 := Tryz.sizeOf111
  v75 := Tryz.zeroValue111
  t76 := Tryz.underlying112
  a76 := Tryz.isAgg112
  z76 := Tryz.sizeOf112
  v76 := Tryz.zeroValue112
  t105 := Tryz.underlying152
  a105 := Tryz.isAgg152
  z105 := Tryz.sizeOf152
  v105 := Tryz.zeroValue152
  t119 := Tryz.underlying176
  a119 := Tryz.isAgg176
  z119 := Tryz.sizeOf176
  t127 := Tryz.underlying135
  a127 := Tryz.isAgg135
  z127 := Tryz.sizeOf135
  v127 := Tryz.zeroValue135
  t138 := Tryz.underlying178
  a138 := Tryz.isAgg178
  z138 := Tryz.sizeOf178
  v138 := Tryz.zeroValue178
  t139 := Tryz.underlying179
  a139 := Tryz.isAgg179
  z139 := Tryz.sizeOf179
  v139 := Tryz.zeroValue179
  t146 := Tryz.underlying186
  a146 := Tryz.isAgg186
  z146 := Tryz.sizeOf186
  v146 := Tryz.zeroValue186
  t164 := Tryz.underlying154
  a164 := Tryz.isAgg154
  z164 := Tryz.sizeOf154
  v164 := Tryz.zeroValue154
  g1 := by kernel_rfl
  g3 := by kernel_rfl
  g4 := by kernel_rfl }
theorem Tryz.Builder_Extra_155 : Builder.Extra Tryz.prog Tryz.lays155_ren := {
  sizeBuilder := by kernel_rfl
  liesBuilder := by kernel_rfl
  t5 := Tryz.underlying5
  a5 := Tryz.isAgg5
  z5 := Tryz.sizeOf5
  v5 := Tryz.zeroValue5
  infoByte := by kernel_rfl
  cellsByte := by kernel_rfl
  sizeByte := by kernel_rfl
  neB5 := by decide }
open Go.RowKit Go.Lib in
/-- strings.ReplaceAll: "ReplaceAll returns a copy of the string s with all non-overlapping instances of old replaced by new.": AT AN old THAT IS NOT EMPTY: 'Lib.replaceAll s old new'. (LAID: no walk: one application.) -/
theorem Tryz.strings_ReplaceAll (s old new : ByteArray) (m : Int) (w : World) (hs : s.size < 4294967281) (hm : w.cell? ⟨1, 0, none⟩ = some (.int .i64 m)) (h1 : 1 ≤ old.size) (hlen : s.size + Lib.countB s old * new.size ≤ 140737488355328) :
    Calls Tryz.prog 44 #[.string s, .string old, .string new] w fun e w' =>
      e = .returned (.string ⟨(Lib.replaceAll s.data.toList old.data.toList new.data.toList).toArray⟩) ∧ Below w.heap.size w w' := Any.strings_ReplaceAll Tryz.lays155 Tryz.Builder_Extra_155 s old new m w hs hm h1 hlen
end Go.Proofs
/- Clauses, variables, rows as trees. -/
namespace Go.Proofs.YtnmfjojhgfipcaaGreatDoor.W
open Go.RowKit E
set_option linter.unusedVariables false
abbrev iC (n : Int) : C := .a (.t (.v (.int .i64 n)))
abbrev u64C (n : Nat) : C := .a (.t (.v (.int .u64 (n : Int))))
abbrev bC (b : Bool) : C := .a (.t (.v (.bool b)))
abbrev sC (s : ByteArray) : C := .a (.t (.v (.string s)))
abbrev i64T (n : Int) : List E.T := [.v (.int .i64 n)]
abbrev iL (z : Nz) (l : List Int) : C := .a (.t (.sl z 1 (l.map i64T)))
theorem w64 {n : Int} (h : -9223372036854775808 ≤ n) (h' : n ≤ 9223372036854775807) : IntKind.i64.wrap n = n := IntWalk.i64_in n ⟨h, h'⟩
theorem wu64 {n : Int} (h : 0 ≤ n) (h' : n < 18446744073709551616) : IntKind.u64.wrap n = n := by
  simp only [IntKind.wrap, IntKind.bits, IntKind.signed, Bool.false_and, Bool.false_eq_true, if_false]; omega
theorem wu64n {n : Int} (h : n < 0) (h' : -18446744073709551616 ≤ n) : IntKind.u64.wrap n = n + 18446744073709551616 := by
  simp only [IntKind.wrap, IntKind.bits, IntKind.signed, Bool.false_and, Bool.false_eq_true, if_false]; omega
abbrev R64 (n : Int) : Prop := -9223372036854775808 ≤ n ∧ n ≤ 9223372036854775807
theorem bCe {a b : Bool} (h : a = b) : X.c (bC a) = X.c (bC b) := by rw [h]
theorem iCe {a b : Int} (h : a = b) : X.c (iC a) = X.c (iC b) := by rw [h]
theorem iXe {a b : Nat} (h : a = b) : iX .i64 (a : Int) = iX .i64 (b : Int) := by rw [h]
theorem nd_t {p : Prop} [Decidable p] (h : (!decide p) = true) : ¬ p := by simpa using h
theorem nd_f {p : Prop} [Decidable p] (h : (!decide p) = false) : p := by simpa using h
theorem idx_map {α : Type} {f : α → List E.T} {l : List α} {i : Nat} (h : i < l.length) : (l.map f)[i]? = some (f l[i]) := by rw [List.getElem?_map, List.getElem?_eq_getElem h]; rfl
structure RV where (k n : Int) (s : ByteArray)
structure Vr where (ty lo hi mx : Int) (nu : Bool)
structure Cf where (v n : Int)
structure Lf where (c : Int) (cs : List Cf)
structure Ax where (f : Lf) (b t : Int)
structure Ct where (f : Lf) (e : Bool)
structure Ts where (v k : Int) (n : Bool) (s : ByteArray)
structure Cl where
  nl : List Int
  nn : List Int
  ax : List Ax
  is : List Ct
  ts : List Ts
  sm : List (Int × Int)
  df : List (Int × Int)
abbrev rvT (v : RV) : List E.T := [.v (.int .i64 v.k), .v (.int .i64 v.n), .v (.string v.s)]
abbrev vrT (v : Vr) : List E.T := [.v (.int .i64 v.ty), .v (.int .i64 v.lo), .v (.int .i64 v.hi), .v (.int .i64 v.mx), .v (.bool v.nu)]
abbrev cfT (k : Cf) : List E.T := [.v (.int .i64 k.v), .v (.int .i64 k.n)]
abbrev lfT (f : Lf) : List E.T := [.v (.int .i64 f.c), .sl .un 2 (f.cs.map cfT)]
abbrev axT (a : Ax) : List E.T := [.v (.int .i64 a.f.c), .sl .un 2 (a.f.cs.map cfT), .v (.int .i64 a.b), .v (.int .i64 a.t)]
abbrev ctT (a : Ct) : List E.T := [.v (.int .i64 a.f.c), .sl .un 2 (a.f.cs.map cfT), .v (.bool a.e)]
abbrev tsT (t : Ts) : List E.T := [.v (.int .i64 t.v), .v (.int .i64 t.k), .v (.bool t.n), .v (.string t.s)]
abbrev prT (p : Int × Int) : List E.T := [.v (.int .i64 p.1), .v (.int .i64 p.2)]
abbrev clT (c : Cl) : List E.T := [.sl .un 1 (c.nl.map i64T), .sl .un 1 (c.nn.map i64T), .sl .un 4 (c.ax.map axT), .sl .un 3 (c.is.map ctT), .sl .un 4 (c.ts.map tsT), .sl .un 2 (c.sm.map prT), .sl .un 2 (c.df.map prT)]
abbrev lfC (f : Lf) : C := .g [.t (.v (.int .i64 f.c)), .t (.sl .un 2 (f.cs.map cfT))]
abbrev tsC (t : Ts) : C := .g [.t (.v (.int .i64 t.v)), .t (.v (.int .i64 t.k)), .t (.v (.bool t.n)), .t (.v (.string t.s))]
abbrev clC (c : Cl) : C := .g [.t (.sl .un 1 (c.nl.map i64T)), .t (.sl .un 1 (c.nn.map i64T)), .t (.sl .un 4 (c.ax.map axT)), .t (.sl .un 3 (c.is.map ctT)), .t (.sl .un 4 (c.ts.map tsT)), .t (.sl .un 2 (c.sm.map prT)), .t (.sl .un 2 (c.df.map prT))]
abbrev vsC (z : Nz) (l : List Vr) : C := .a (.t (.sl z 5 (l.map vrT)))
abbrev rowC (z : Nz) (r : List RV) : C := .a (.t (.sl z 3 (r.map rvT)))
abbrev axsC (z : Nz) (r : List Ax) : C := .a (.t (.sl z 4 (r.map axT)))
abbrev prsC (z : Nz) (r : List (Int × Int)) : C := .a (.t (.sl z 2 (r.map prT)))
abbrev cfsC (z : Nz) (r : List Cf) : C := .a (.t (.sl z 2 (r.map cfT)))
/-! sizes -/

structure rgC (c : Cl) : Prop where
  nl : c.nl.length ≤ 17592186044000
  nn : c.nn.length ≤ 17592186044000
  ax : c.ax.length ≤ 17592186044000
  is : c.is.length ≤ 17592186044000
  ts : c.ts.length ≤ 17592186044000
  sm : c.sm.length ≤ 17592186044000
  df : c.df.length ≤ 17592186044000
  axf : ∀ a ∈ c.ax, a.f.cs.length ≤ 17592186044000
  isf : ∀ a ∈ c.is, a.f.cs.length ≤ 17592186044000
  tss : ∀ t ∈ c.ts, t.s.size ≤ 1000000000000000
end Go.Proofs.YtnmfjojhgfipcaaGreatDoor.W
namespace Go.Proofs.YtnmfjojhgfipcaaGreatDoor.W
open Go.RowKit E
set_option linter.unusedVariables false
set_option linter.unusedSimpArgs false
set_option linter.unusedSectionVars false
abbrev domP (x : Vr) : Prop := (x.ty = 1 ∧ -2147483648 ≤ x.lo ∧ x.hi ≤ 2147483647) ∨ (x.ty = 2 ∧ x.mx ≤ 16)
abbrev domB (l : List Vr) : Bool := decide (∀ j (h : j < l.length), domP l[j]) && decide (l.length ≤ 10)
theorem andT {a b : Bool} (h : a = true) : b = (a && b) := by rw [h]; rfl
theorem andF {a b : Bool} (h : a = false) : false = (a && b) := by rw [h]; rfl
abbrev prnP (s : ByteArray) : Prop := ∀ j (h : j < s.data.toList.length), 32 ≤ s.data.toList[j].toNat ∧ s.data.toList[j].toNat ≤ 126
set_option maxRecDepth 20000 in
theorem dom_any (l : List Vr) (z : Nz) (hL : l.length ≤ 17592186044000) : Pure Tryz.prog 5 [vsC z l] (.c (bC (domB l))) := by
  intro H
  refine Spec.enter Tryz.func5 rfl ?_
  refine AW.wk (Wk.keep 51 [(0, .c (vsC z l))] [] (H) rfl ⟨rfl, trivial⟩ trivial (fun _ _ h => h) rfl) ?_
  refine AW.seq ?_
  refine AW.reg ?_
  refine SeqK.q (q_asC rfl rfl) rfl rfl rfl ?_
  refine SeqK.nil ?_
  refine AW.seq ?_
  refine AW.seq ?_
  refine AW.reg ?_
  refine SeqK.q (q_asC rfl rfl) rfl rfl rfl ?_
  refine SeqK.nil ?_
  refine AW.block ?_
  refine AW.loop (fun (i : Nat) s => (i ≤ l.length ∧ ∀ j (h : j < l.length), j < i → domP l[j]) ∧ s = ⟨51, sp [(0, .c (vsC z l)), (2, .c (bC false)), (3, iX .i64 ((i : Nat) : Int))], lv [], H⟩) (fun i => l.length - i) 0 ⟨_, Wk.keep 51 [(0, .c (vsC z l)), (2, .c (bC false)), (3, iX .i64 ((((0 : Nat)) : Nat) : Int))] [] (H) rfl ⟨rfl, rfl, rfl, trivial⟩ trivial (fun _ _ h => h) rfl, ⟨Nat.zero_le _, up0⟩, rfl⟩ (fun i s hs => ?_)
  obtain ⟨⟨hi0, hU⟩, rfl⟩ := hs
  refine AW.seq ?_
  refine AW.seq ?_
  refine AW.reg ?_
  refine SeqK.q (q_mvC rfl rfl) rfl rfl rfl ?_
  refine SeqK.q (q_mvC rfl rfl) rfl rfl rfl ?_
  refine SeqK.q (q_len rfl Fx.un29 rfl) rfl rfl rfl ?_
  refine SeqK.q (q_lss rfl rfl rfl) rfl rfl rfl ?_
  refine SeqK.nil ?_
  refine AW.condD rfl (fun h8 => ?_) (fun h8 => ?_)
  ·
    have hi : i < l.length := by rw [List.length_map] at h8; omega
    refine AW.skip ?_
    refine AW.seq ?_
    refine AW.block ?_
    refine AW.seq ?_
    refine AW.reg ?_
    refine SeqK.q (q_mvC rfl rfl) rfl rfl rfl ?_
    refine SeqK.q (q_mvC rfl rfl) rfl rfl rfl ?_
    refine SeqK.q (q_index _ rfl Fx.sl29 rfl rfl (by omega) (idx_map (f := vrT) hi)) rfl rfl rfl ?_
    refine SeqK.q (q_load (.g [_, _, _, _, _]) rfl Fx.ty36 rfl rfl rfl) rfl rfl rfl ?_
    refine SeqK.r (b_alloc (r := [_, _, _, _, _]) rfl rfl Fx.ze36 rfl rfl rfl rfl) rfl ?_
    refine SeqK.r (b_store (r := [_, _, _, _, _]) rfl rfl Fx.ty36 rfl rfl rfl rfl rfl rfl) rfl ?_
    refine SeqK.nil ?_
    refine AW.seq ?_
    refine AW.reg ?_
    refine SeqK.q (q_fieldL _ rfl Fx.fl36_0 rfl rfl) rfl rfl rfl ?_
    refine SeqK.r (b_load (r := .a _) rfl Fx.ty3 rfl rfl rfl rfl rfl rfl) rfl ?_
    refine SeqK.q (q_eql rfl rfl rfl) rfl rfl rfl ?_
    refine SeqK.qD (q_mvC rfl rfl) rfl rfl rfl (fun g18 => ?_) (fun g18 => ?_)
    ·
      refine SeqK.on (q_fieldL _ rfl Fx.fl36_1 rfl rfl) rfl rfl rfl rfl rfl ?_
      refine SeqK.rOn (b_load (r := .a _) rfl Fx.ty2 rfl rfl rfl rfl rfl rfl) rfl rfl rfl ?_
      refine SeqK.on (q_lss rfl rfl rfl) rfl rfl rfl rfl rfl ?_
      refine SeqK.onD (q_mvC rfl rfl) rfl rfl rfl rfl rfl (fun g22 => ?_) (fun g22 => ?_)
      ·
        refine SeqK.off rfl rfl rfl rfl rfl rfl ?_
        refine SeqK.off rfl rfl rfl rfl rfl rfl ?_
        refine SeqK.off rfl rfl rfl rfl rfl rfl ?_
        refine SeqK.on (q_pkT rfl rfl rfl) rfl rfl rfl rfl rfl ?_
        refine SeqK.q (q_pkT rfl rfl rfl) rfl rfl rfl ?_
        refine SeqK.q (q_mvC rfl rfl) rfl rfl rfl ?_
        refine SeqK.off rfl rfl rfl rfl rfl rfl ?_
        refine SeqK.off rfl rfl rfl rfl rfl rfl ?_
        refine SeqK.off rfl rfl rfl rfl rfl rfl ?_
        refine SeqK.off rfl rfl rfl rfl rfl rfl ?_
        refine SeqK.offU rfl rfl rfl rfl rfl ?_
        refine SeqK.offU rfl rfl rfl rfl rfl ?_
        refine SeqK.offU rfl rfl rfl rfl rfl ?_
        refine SeqK.off rfl rfl rfl rfl rfl rfl ?_
        refine SeqK.q (q_pkT rfl rfl rfl) rfl rfl rfl ?_
        refine SeqK.q (q_mvC rfl rfl) rfl rfl rfl ?_
        refine SeqK.off rfl rfl rfl rfl rfl rfl ?_
        refine SeqK.off rfl rfl rfl rfl rfl rfl ?_
        refine SeqK.off rfl rfl rfl rfl rfl rfl ?_
        refine SeqK.off rfl rfl rfl rfl rfl rfl ?_
        refine SeqK.offU rfl rfl rfl rfl rfl ?_
        refine SeqK.offU rfl rfl rfl rfl rfl ?_
        refine SeqK.offU rfl rfl rfl rfl rfl ?_
        refine SeqK.off rfl rfl rfl rfl rfl rfl ?_
        refine SeqK.q (q_pkT rfl rfl rfl) rfl rfl rfl ?_
        refine SeqK.nil ?_
        refine AW.condT rfl ?_
        refine AW.seq ?_
        refine AW.reg ?_
        refine SeqK.q (q_asC rfl rfl) rfl rfl rfl ?_
        refine SeqK.nil ?_
        refine AW.ret ?_
        exact fin_x (x := .c _) (H) (.tmp rfl .nil) rfl (fun _ _ h => h) (⟨bCe (andF (decide_eq_false (upN hi (by rw [domP]; omega)))), rfl⟩)
      ·
        refine SeqK.on (q_fieldL _ rfl Fx.fl36_2 rfl rfl) rfl rfl rfl rfl rfl ?_
        refine SeqK.rOn (b_load (r := .a _) rfl Fx.ty2 rfl rfl rfl rfl rfl rfl) rfl rfl rfl ?_
        refine SeqK.on (q_gtr rfl rfl rfl) rfl rfl rfl rfl rfl ?_
        refine SeqK.on (q_pkF rfl rfl rfl) rfl rfl rfl rfl rfl ?_
        refine SeqK.q (q_pkT rfl rfl rfl) rfl rfl rfl ?_
        refine SeqK.qD (q_mvC rfl rfl) rfl rfl rfl (fun g28 => ?_) (fun g28 => ?_)
        ·
          refine SeqK.off rfl rfl rfl rfl rfl rfl ?_
          refine SeqK.off rfl rfl rfl rfl rfl rfl ?_
          refine SeqK.off rfl rfl rfl rfl rfl rfl ?_
          refine SeqK.off rfl rfl rfl rfl rfl rfl ?_
          refine SeqK.offU rfl rfl rfl rfl rfl ?_
          refine SeqK.offU rfl rfl rfl rfl rfl ?_
          refine SeqK.offU rfl rfl rfl rfl rfl ?_
          refine SeqK.off rfl rfl rfl rfl rfl rfl ?_
          refine SeqK.q (q_pkT rfl rfl rfl) rfl rfl rfl ?_
          refine SeqK.q (q_mvC rfl rfl) rfl rfl rfl ?_
          refine SeqK.off rfl rfl rfl rfl rfl rfl ?_
          refine SeqK.off rfl rfl rfl rfl rfl rfl ?_
          refine SeqK.off rfl rfl rfl rfl rfl rfl ?_
          refine SeqK.off rfl rfl rfl rfl rfl rfl ?_
          refine SeqK.offU rfl rfl rfl rfl rfl ?_
          refine SeqK.offU rfl rfl rfl rfl rfl ?_
          refine SeqK.offU rfl rfl rfl rfl rfl ?_
          refine SeqK.off rfl rfl rfl rfl rfl rfl ?_
          refine SeqK.q (q_pkT rfl rfl rfl) rfl rfl rfl ?_
          refine SeqK.nil ?_
          refine AW.condT rfl ?_
          refine AW.seq ?_
          refine AW.reg ?_
          refine SeqK.q (q_asC rfl rfl) rfl rfl rfl ?_
          refine SeqK.nil ?_
          refine AW.ret ?_
          exact fin_x (x := .c _) (H) (.tmp rfl .nil) rfl (fun _ _ h => h) (⟨bCe (andF (decide_eq_false (upN hi (by rw [domP]; omega)))), rfl⟩)
        ·
          refine SeqK.on (q_fieldL _ rfl Fx.fl36_0 rfl rfl) rfl rfl rfl rfl rfl ?_
          refine SeqK.rOn (b_load (r := .a _) rfl Fx.ty3 rfl rfl rfl rfl rfl rfl) rfl rfl rfl ?_
          refine SeqK.on (q_eql rfl rfl rfl) rfl rfl rfl rfl rfl ?_
          refine SeqK.onD (q_mvC rfl rfl) rfl rfl rfl rfl rfl (fun g32 => ?_) (fun g32 => ?_)
          ·
            refine SeqK.on (q_fieldL _ rfl Fx.fl36_3 rfl rfl) rfl rfl rfl rfl rfl ?_
            refine SeqK.rOn (b_load (r := .a _) rfl Fx.ty3 rfl rfl rfl rfl rfl rfl) rfl rfl rfl ?_
            refine SeqK.on (q_gtr rfl rfl rfl) rfl rfl rfl rfl rfl ?_
            refine SeqK.on (q_pkT rfl rfl rfl) rfl rfl rfl rfl rfl ?_
            refine SeqK.q (q_pkF rfl rfl rfl) rfl rfl rfl ?_
            refine SeqK.qD (q_mvC rfl rfl) rfl rfl rfl (fun g38 => ?_) (fun g38 => ?_)
            ·
              refine SeqK.off rfl rfl rfl rfl rfl rfl ?_
              refine SeqK.off rfl rfl rfl rfl rfl rfl ?_
              refine SeqK.off rfl rfl rfl rfl rfl rfl ?_
              refine SeqK.off rfl rfl rfl rfl rfl rfl ?_
              refine SeqK.offU rfl rfl rfl rfl rfl ?_
              refine SeqK.offU rfl rfl rfl rfl rfl ?_
              refine SeqK.offU rfl rfl rfl rfl rfl ?_
              refine SeqK.off rfl rfl rfl rfl rfl rfl ?_
              refine SeqK.q (q_pkT rfl rfl rfl) rfl rfl rfl ?_
              refine SeqK.nil ?_
              refine AW.condT rfl ?_
              refine AW.seq ?_
              refine AW.reg ?_
              refine SeqK.q (q_asC rfl rfl) rfl rfl rfl ?_
              refine SeqK.nil ?_
              refine AW.ret ?_
              exact fin_x (x := .c _) (H) (.tmp rfl .nil) rfl (fun _ _ h => h) (⟨bCe (andF (decide_eq_false (upN hi (by rw [domP]; omega)))), rfl⟩)
            ·
              refine SeqK.on (q_fieldL _ rfl Fx.fl36_0 rfl rfl) rfl rfl rfl rfl rfl ?_
              refine SeqK.rOn (b_load (r := .a _) rfl Fx.ty3 rfl rfl rfl rfl rfl rfl) rfl rfl rfl ?_
              refine SeqK.on (q_neq rfl rfl rfl) rfl rfl rfl rfl rfl ?_
              refine SeqK.onD (q_mvC rfl rfl) rfl rfl rfl rfl rfl (fun g42 => ?_) (fun g42 => ?_)
              ·
                refine SeqK.on (q_fieldL _ rfl Fx.fl36_0 rfl rfl) rfl rfl rfl rfl rfl ?_
                refine SeqK.rOn (b_load (r := .a _) rfl Fx.ty3 rfl rfl rfl rfl rfl rfl) rfl rfl rfl ?_
                refine SeqK.on (q_neq rfl rfl rfl) rfl rfl rfl rfl rfl ?_
                refine SeqK.on (q_pkT rfl rfl rfl) rfl rfl rfl rfl rfl ?_
                refine SeqK.q (q_pkF rfl rfl rfl) rfl rfl rfl ?_
                refine SeqK.nil ?_
                refine AW.condD rfl (fun h47 => ?_) (fun h47 => ?_)
                ·
                  refine AW.seq ?_
                  refine AW.reg ?_
                  refine SeqK.q (q_asC rfl rfl) rfl rfl rfl ?_
                  refine SeqK.nil ?_
                  refine AW.ret ?_
                  exact fin_x (x := .c _) (H) (.tmp rfl .nil) rfl (fun _ _ h => h) (⟨bCe (andF (decide_eq_false (upN hi (by rw [domP]; omega)))), rfl⟩)
                ·
                  refine AW.skip ?_
                  refine AW.reg ?_
                  refine SeqK.q (q_mvC rfl rfl) rfl rfl rfl ?_
                  refine SeqK.q (q_add _ rfl rfl rfl (w64 (by omega) (by omega))) rfl rfl rfl ?_
                  refine SeqK.q (q_asC rfl rfl) rfl rfl rfl ?_
                  refine SeqK.nil ?_
                  exact ⟨i + 1, _, Wk.keep 51 [(0, .c (vsC z l)), (2, .c (bC false)), (3, iX .i64 (((i + 1) : Nat) : Int))] [] (H) rfl ⟨rfl, rfl, rfl, trivial⟩ trivial (fun _ _ h => h) rfl, by omega, ⟨hi, upS hi hU (by rw [domP]; omega)⟩, rfl⟩
              ·
                refine SeqK.off rfl rfl rfl rfl rfl rfl ?_
                refine SeqK.off rfl rfl rfl rfl rfl rfl ?_
                refine SeqK.off rfl rfl rfl rfl rfl rfl ?_
                refine SeqK.on (q_pkF rfl rfl rfl) rfl rfl rfl rfl rfl ?_
                refine SeqK.q (q_pkF rfl rfl rfl) rfl rfl rfl ?_
                refine SeqK.nil ?_
                refine AW.condF rfl ?_
                refine AW.skip ?_
                refine AW.reg ?_
                refine SeqK.q (q_mvC rfl rfl) rfl rfl rfl ?_
                refine SeqK.q (q_add _ rfl rfl rfl (w64 (by omega) (by omega))) rfl rfl rfl ?_
                refine SeqK.q (q_asC rfl rfl) rfl rfl rfl ?_
                refine SeqK.nil ?_
                exact ⟨i + 1, _, Wk.keep 51 [(0, .c (vsC z l)), (2, .c (bC false)), (3, iX .i64 (((i + 1) : Nat) : Int))] [] (H) rfl ⟨rfl, rfl, rfl, trivial⟩ trivial (fun _ _ h => h) rfl, by omega, ⟨hi, upS hi hU (by rw [domP]; omega)⟩, rfl⟩
          ·
            refine SeqK.off rfl rfl rfl rfl rfl rfl ?_
            refine SeqK.off rfl rfl rfl rfl rfl rfl ?_
            refine SeqK.off rfl rfl rfl rfl rfl rfl ?_
            refine SeqK.on (q_pkF rfl rfl rfl) rfl rfl rfl rfl rfl ?_
            refine SeqK.q (q_pkF rfl rfl rfl) rfl rfl rfl ?_
            refine SeqK.q (q_mvC rfl rfl) rfl rfl rfl ?_
            refine SeqK.on (q_fieldL _ rfl Fx.fl36_0 rfl rfl) rfl rfl rfl rfl rfl ?_
            refine SeqK.rOn (b_load (r := .a _) rfl Fx.ty3 rfl rfl rfl rfl rfl rfl) rfl rfl rfl ?_
            refine SeqK.on (q_neq rfl rfl rfl) rfl rfl rfl rfl rfl ?_
            refine SeqK.onD (q_mvC rfl rfl) rfl rfl rfl rfl rfl (fun g42 => ?_) (fun g42 => ?_)
            ·
              refine SeqK.on (q_fieldL _ rfl Fx.fl36_0 rfl rfl) rfl rfl rfl rfl rfl ?_
              refine SeqK.rOn (b_load (r := .a _) rfl Fx.ty3 rfl rfl rfl rfl rfl rfl) rfl rfl rfl ?_
              refine SeqK.on (q_neq rfl rfl rfl) rfl rfl rfl rfl rfl ?_
              refine SeqK.on (q_pkT rfl rfl rfl) rfl rfl rfl rfl rfl ?_
              refine SeqK.q (q_pkF rfl rfl rfl) rfl rfl rfl ?_
              refine SeqK.nil ?_
              refine AW.condD rfl (fun h47 => ?_) (fun h47 => ?_)
              ·
                refine AW.seq ?_
                refine AW.reg ?_
                refine SeqK.q (q_asC rfl rfl) rfl rfl rfl ?_
                refine SeqK.nil ?_
                refine AW.ret ?_
                exact fin_x (x := .c _) (H) (.tmp rfl .nil) rfl (fun _ _ h => h) (⟨bCe (andF (decide_eq_false (upN hi (by rw [domP]; omega)))), rfl⟩)
              ·
                refine AW.skip ?_
                refine AW.reg ?_
                refine SeqK.q (q_mvC rfl rfl) rfl rfl rfl ?_
                refine SeqK.q (q_add _ rfl rfl rfl (w64 (by omega) (by omega))) rfl rfl rfl ?_
                refine SeqK.q (q_asC rfl rfl) rfl rfl rfl ?_
                refine SeqK.nil ?_
                exact ⟨i + 1, _, Wk.keep 51 [(0, .c (vsC z l)), (2, .c (bC false)), (3, iX .i64 (((i + 1) : Nat) : Int))] [] (H) rfl ⟨rfl, rfl, rfl, trivial⟩ trivial (fun _ _ h => h) rfl, by omega, ⟨hi, upS hi hU (by rw [domP]; omega)⟩, rfl⟩
            ·
              refine SeqK.off rfl rfl rfl rfl rfl rfl ?_
              refine SeqK.off rfl rfl rfl rfl rfl rfl ?_
              refine SeqK.off rfl rfl rfl rfl rfl rfl ?_
              refine SeqK.on (q_pkF rfl rfl rfl) rfl rfl rfl rfl rfl ?_
              refine SeqK.q (q_pkF rfl rfl rfl) rfl rfl rfl ?_
              refine SeqK.nil ?_
              refine AW.condF rfl ?_
              refine AW.skip ?_
              refine AW.reg ?_
              refine SeqK.q (q_mvC rfl rfl) rfl rfl rfl ?_
              refine SeqK.q (q_add _ rfl rfl rfl (w64 (by omega) (by omega))) rfl rfl rfl ?_
              refine SeqK.q (q_asC rfl rfl) rfl rfl rfl ?_
              refine SeqK.nil ?_
              exact ⟨i + 1, _, Wk.keep 51 [(0, .c (vsC z l)), (2, .c (bC false)), (3, iX .i64 (((i + 1) : Nat) : Int))] [] (H) rfl ⟨rfl, rfl, rfl, trivial⟩ trivial (fun _ _ h => h) rfl, by omega, ⟨hi, upS hi hU (by rw [domP]; omega)⟩, rfl⟩
    ·
      refine SeqK.off rfl rfl rfl rfl rfl rfl ?_
      refine SeqK.off rfl rfl rfl rfl rfl rfl ?_
      refine SeqK.off rfl rfl rfl rfl rfl rfl ?_
      refine SeqK.off rfl rfl rfl rfl rfl rfl ?_
      refine SeqK.offU rfl rfl rfl rfl rfl ?_
      refine SeqK.offU rfl rfl rfl rfl rfl ?_
      refine SeqK.offU rfl rfl rfl rfl rfl ?_
      refine SeqK.off rfl rfl rfl rfl rfl rfl ?_
      refine SeqK.q (q_pkF rfl rfl rfl) rfl rfl rfl ?_
      refine SeqK.q (q_mvC rfl rfl) rfl rfl rfl ?_
      refine SeqK.on (q_fieldL _ rfl Fx.fl36_0 rfl rfl) rfl rfl rfl rfl rfl ?_
      refine SeqK.rOn (b_load (r := .a _) rfl Fx.ty3 rfl rfl rfl rfl rfl rfl) rfl rfl rfl ?_
      refine SeqK.on (q_eql rfl rfl rfl) rfl rfl rfl rfl rfl ?_
      refine SeqK.onD (q_mvC rfl rfl) rfl rfl rfl rfl rfl (fun g32 => ?_) (fun g32 => ?_)
      ·
        refine SeqK.on (q_fieldL _ rfl Fx.fl36_3 rfl rfl) rfl rfl rfl rfl rfl ?_
        refine SeqK.rOn (b_load (r := .a _) rfl Fx.ty3 rfl rfl rfl rfl rfl rfl) rfl rfl rfl ?_
        refine SeqK.on (q_gtr rfl rfl rfl) rfl rfl rfl rfl rfl ?_
        refine SeqK.on (q_pkT rfl rfl rfl) rfl rfl rfl rfl rfl ?_
        refine SeqK.q (q_pkF rfl rfl rfl) rfl rfl rfl ?_
        refine SeqK.qD (q_mvC rfl rfl) rfl rfl rfl (fun g38 => ?_) (fun g38 => ?_)
        ·
          refine SeqK.off rfl rfl rfl rfl rfl rfl ?_
          refine SeqK.off rfl rfl rfl rfl rfl rfl ?_
          refine SeqK.off rfl rfl rfl rfl rfl rfl ?_
          refine SeqK.off rfl rfl rfl rfl rfl rfl ?_
          refine SeqK.offU rfl rfl rfl rfl rfl ?_
          refine SeqK.offU rfl rfl rfl rfl rfl ?_
          refine SeqK.offU rfl rfl rfl rfl rfl ?_
          refine SeqK.off rfl rfl rfl rfl rfl rfl ?_
          refine SeqK.q (q_pkT rfl rfl rfl) rfl rfl rfl ?_
          refine SeqK.nil ?_
          refine AW.condT rfl ?_
          refine AW.seq ?_
          refine AW.reg ?_
          refine SeqK.q (q_asC rfl rfl) rfl rfl rfl ?_
          refine SeqK.nil ?_
          refine AW.ret ?_
          exact fin_x (x := .c _) (H) (.tmp rfl .nil) rfl (fun _ _ h => h) (⟨bCe (andF (decide_eq_false (upN hi (by rw [domP]; omega)))), rfl⟩)
        ·
          refine SeqK.on (q_fieldL _ rfl Fx.fl36_0 rfl rfl) rfl rfl rfl rfl rfl ?_
          refine SeqK.rOn (b_load (r := .a _) rfl Fx.ty3 rfl rfl rfl rfl rfl rfl) rfl rfl rfl ?_
          refine SeqK.on (q_neq rfl rfl rfl) rfl rfl rfl rfl rfl ?_
          refine SeqK.onD (q_mvC rfl rfl) rfl rfl rfl rfl rfl (fun g42 => ?_) (fun g42 => ?_)
          ·
            refine SeqK.on (q_fieldL _ rfl Fx.fl36_0 rfl rfl) rfl rfl rfl rfl rfl ?_
            refine SeqK.rOn (b_load (r := .a _) rfl Fx.ty3 rfl rfl rfl rfl rfl rfl) rfl rfl rfl ?_
            refine SeqK.on (q_neq rfl rfl rfl) rfl rfl rfl rfl rfl ?_
            refine SeqK.on (q_pkT rfl rfl rfl) rfl rfl rfl rfl rfl ?_
            refine SeqK.q (q_pkF rfl rfl rfl) rfl rfl rfl ?_
            refine SeqK.nil ?_
            refine AW.condD rfl (fun h47 => ?_) (fun h47 => ?_)
            ·
              refine AW.seq ?_
              refine AW.reg ?_
              refine SeqK.q (q_asC rfl rfl) rfl rfl rfl ?_
              refine SeqK.nil ?_
              refine AW.ret ?_
              exact fin_x (x := .c _) (H) (.tmp rfl .nil) rfl (fun _ _ h => h) (⟨bCe (andF (decide_eq_false (upN hi (by rw [domP]; omega)))), rfl⟩)
            ·
              refine AW.skip ?_
              refine AW.reg ?_
              refine SeqK.q (q_mvC rfl rfl) rfl rfl rfl ?_
              refine SeqK.q (q_add _ rfl rfl rfl (w64 (by omega) (by omega))) rfl rfl rfl ?_
              refine SeqK.q (q_asC rfl rfl) rfl rfl rfl ?_
              refine SeqK.nil ?_
              exact ⟨i + 1, _, Wk.keep 51 [(0, .c (vsC z l)), (2, .c (bC false)), (3, iX .i64 (((i + 1) : Nat) : Int))] [] (H) rfl ⟨rfl, rfl, rfl, trivial⟩ trivial (fun _ _ h => h) rfl, by omega, ⟨hi, upS hi hU (by rw [domP]; omega)⟩, rfl⟩
          ·
            refine SeqK.off rfl rfl rfl rfl rfl rfl ?_
            refine SeqK.off rfl rfl rfl rfl rfl rfl ?_
            refine SeqK.off rfl rfl rfl rfl rfl rfl ?_
            refine SeqK.on (q_pkF rfl rfl rfl) rfl rfl rfl rfl rfl ?_
            refine SeqK.q (q_pkF rfl rfl rfl) rfl rfl rfl ?_
            refine SeqK.nil ?_
            refine AW.condF rfl ?_
            refine AW.skip ?_
            refine AW.reg ?_
            refine SeqK.q (q_mvC rfl rfl) rfl rfl rfl ?_
            refine SeqK.q (q_add _ rfl rfl rfl (w64 (by omega) (by omega))) rfl rfl rfl ?_
            refine SeqK.q (q_asC rfl rfl) rfl rfl rfl ?_
            refine SeqK.nil ?_
            exact ⟨i + 1, _, Wk.keep 51 [(0, .c (vsC z l)), (2, .c (bC false)), (3, iX .i64 (((i + 1) : Nat) : Int))] [] (H) rfl ⟨rfl, rfl, rfl, trivial⟩ trivial (fun _ _ h => h) rfl, by omega, ⟨hi, upS hi hU (by rw [domP]; omega)⟩, rfl⟩
      ·
        refine SeqK.off rfl rfl rfl rfl rfl rfl ?_
        refine SeqK.off rfl rfl rfl rfl rfl rfl ?_
        refine SeqK.off rfl rfl rfl rfl rfl rfl ?_
        refine SeqK.on (q_pkF rfl rfl rfl) rfl rfl rfl rfl rfl ?_
        refine SeqK.q (q_pkF rfl rfl rfl) rfl rfl rfl ?_
        refine SeqK.q (q_mvC rfl rfl) rfl rfl rfl ?_
        refine SeqK.on (q_fieldL _ rfl Fx.fl36_0 rfl rfl) rfl rfl rfl rfl rfl ?_
        refine SeqK.rOn (b_load (r := .a _) rfl Fx.ty3 rfl rfl rfl rfl rfl rfl) rfl rfl rfl ?_
        refine SeqK.on (q_neq rfl rfl rfl) rfl rfl rfl rfl rfl ?_
        refine SeqK.onD (q_mvC rfl rfl) rfl rfl rfl rfl rfl (fun g42 => ?_) (fun g42 => ?_)
        ·
          refine SeqK.on (q_fieldL _ rfl Fx.fl36_0 rfl rfl) rfl rfl rfl rfl rfl ?_
          refine SeqK.rOn (b_load (r := .a _) rfl Fx.ty3 rfl rfl rfl rfl rfl rfl) rfl rfl rfl ?_
          refine SeqK.on (q_neq rfl rfl rfl) rfl rfl rfl rfl rfl ?_
          refine SeqK.on (q_pkT rfl rfl rfl) rfl rfl rfl rfl rfl ?_
          refine SeqK.q (q_pkF rfl rfl rfl) rfl rfl rfl ?_
          refine SeqK.nil ?_
          refine AW.condD rfl (fun h47 => ?_) (fun h47 => ?_)
          ·
            refine AW.seq ?_
            refine AW.reg ?_
            refine SeqK.q (q_asC rfl rfl) rfl rfl rfl ?_
            refine SeqK.nil ?_
            refine AW.ret ?_
            exact fin_x (x := .c _) (H) (.tmp rfl .nil) rfl (fun _ _ h => h) (⟨bCe (andF (decide_eq_false (upN hi (by rw [domP]; omega)))), rfl⟩)
          ·
            refine AW.skip ?_
            refine AW.reg ?_
            refine SeqK.q (q_mvC rfl rfl) rfl rfl rfl ?_
            refine SeqK.q (q_add _ rfl rfl rfl (w64 (by omega) (by omega))) rfl rfl rfl ?_
            refine SeqK.q (q_asC rfl rfl) rfl rfl rfl ?_
            refine SeqK.nil ?_
            exact ⟨i + 1, _, Wk.keep 51 [(0, .c (vsC z l)), (2, .c (bC false)), (3, iX .i64 (((i + 1) : Nat) : Int))] [] (H) rfl ⟨rfl, rfl, rfl, trivial⟩ trivial (fun _ _ h => h) rfl, by omega, ⟨hi, upS hi hU (by rw [domP]; omega)⟩, rfl⟩
        ·
          refine SeqK.off rfl rfl rfl rfl rfl rfl ?_
          refine SeqK.off rfl rfl rfl rfl rfl rfl ?_
          refine SeqK.off rfl rfl rfl rfl rfl rfl ?_
          refine SeqK.on (q_pkF rfl rfl rfl) rfl rfl rfl rfl rfl ?_
          refine SeqK.q (q_pkF rfl rfl rfl) rfl rfl rfl ?_
          refine SeqK.nil ?_
          refine AW.condF rfl ?_
          refine AW.skip ?_
          refine AW.reg ?_
          refine SeqK.q (q_mvC rfl rfl) rfl rfl rfl ?_
          refine SeqK.q (q_add _ rfl rfl rfl (w64 (by omega) (by omega))) rfl rfl rfl ?_
          refine SeqK.q (q_asC rfl rfl) rfl rfl rfl ?_
          refine SeqK.nil ?_
          exact ⟨i + 1, _, Wk.keep 51 [(0, .c (vsC z l)), (2, .c (bC false)), (3, iX .i64 (((i + 1) : Nat) : Int))] [] (H) rfl ⟨rfl, rfl, rfl, trivial⟩ trivial (fun _ _ h => h) rfl, by omega, ⟨hi, upS hi hU (by rw [domP]; omega)⟩, rfl⟩
  ·
    refine AW.exit ?_
    refine eth_e ?_
    refine eth_e ?_
    refine exit_here ?_
    refine AW.seq ?_
    refine AW.reg ?_
    refine SeqK.q (q_mvC rfl rfl) rfl rfl rfl ?_
    refine SeqK.q (q_len rfl Fx.un29 rfl) rfl rfl rfl ?_
    refine SeqK.q (q_leq rfl rfl rfl) rfl rfl rfl ?_
    refine SeqK.q (q_asC rfl rfl) rfl rfl rfl ?_
    refine SeqK.nil ?_
    refine AW.ret ?_
    exact fin_x (x := .c _) (H) (.tmp rfl .nil) rfl (fun _ _ h => h) (⟨bCe (by rw [domB, ← andT (decide_eq_true (upE hU (by rw [List.length_map] at h8; omega))), List.length_map]; exact dI (by omega)), rfl⟩)

set_option maxRecDepth 20000 in
theorem has_any (l : List Int) (z : Nz) (n : Int) (hL : l.length ≤ 17592186044000) : Pure Tryz.prog 36 [iL z l, iC n] (.c (bC (decide (n ∈ l)))) := by
  intro H
  refine Spec.enter Tryz.func36 rfl ?_
  refine AW.wk (Wk.keep 18 [(0, .c (iL z l)), (1, .c (iC n))] [] (H) rfl ⟨rfl, rfl, trivial⟩ trivial (fun _ _ h => h) rfl) ?_
  refine AW.seq ?_
  refine AW.reg ?_
  refine SeqK.q (q_asC rfl rfl) rfl rfl rfl ?_
  refine SeqK.nil ?_
  refine AW.seq ?_
  refine AW.seq ?_
  refine AW.reg ?_
  refine SeqK.q (q_asC rfl rfl) rfl rfl rfl ?_
  refine SeqK.nil ?_
  refine AW.block ?_
  refine AW.loop (fun (i : Nat) s => (i ≤ l.length ∧ ∀ j (h : j < l.length), j < i → ¬ l[j] = n) ∧ s = ⟨18, sp [(0, .c (iL z l)), (1, .c (iC n)), (4, .c (bC false)), (5, iX .i64 ((i : Nat) : Int))], lv [], H⟩) (fun i => l.length - i) 0 ⟨_, Wk.keep 18 [(0, .c (iL z l)), (1, .c (iC n)), (4, .c (bC false)), (5, iX .i64 ((((0 : Nat)) : Nat) : Int))] [] (H) rfl ⟨rfl, rfl, rfl, rfl, trivial⟩ trivial (fun _ _ h => h) rfl, ⟨Nat.zero_le _, up0⟩, rfl⟩ (fun i s hs => ?_)
  obtain ⟨⟨hi0, hU⟩, rfl⟩ := hs
  refine AW.seq ?_
  refine AW.seq ?_
  refine AW.reg ?_
  refine SeqK.q (q_mvC rfl rfl) rfl rfl rfl ?_
  refine SeqK.q (q_mvC rfl rfl) rfl rfl rfl ?_
  refine SeqK.q (q_len rfl Fx.un22 rfl) rfl rfl rfl ?_
  refine SeqK.q (q_lss rfl rfl rfl) rfl rfl rfl ?_
  refine SeqK.nil ?_
  refine AW.condD rfl (fun h9 => ?_) (fun h9 => ?_)
  ·
    have hi : i < l.length := by rw [List.length_map] at h9; omega
    refine AW.skip ?_
    refine AW.seq ?_
    refine AW.block ?_
    refine AW.seq ?_
    refine AW.reg ?_
    refine SeqK.q (q_mvC rfl rfl) rfl rfl rfl ?_
    refine SeqK.q (q_mvC rfl rfl) rfl rfl rfl ?_
    refine SeqK.q (q_index _ rfl Fx.sl22 rfl rfl (by omega) (idx_map (f := i64T) hi)) rfl rfl rfl ?_
    refine SeqK.q (q_load (.a _) rfl Fx.ty3 rfl rfl rfl) rfl rfl rfl ?_
    refine SeqK.q (q_mvC rfl rfl) rfl rfl rfl ?_
    refine SeqK.q (q_eql rfl rfl rfl) rfl rfl rfl ?_
    refine SeqK.nil ?_
    refine AW.condD rfl (fun h17 => ?_) (fun h17 => ?_)
    ·
      refine AW.seq ?_
      refine AW.reg ?_
      refine SeqK.q (q_asC rfl rfl) rfl rfl rfl ?_
      refine SeqK.nil ?_
      refine AW.ret ?_
      exact fin_x (x := .c _) (H) (.tmp rfl .nil) rfl (fun _ _ h => h) (⟨bCe (dT (by rw [← h17]; exact List.getElem_mem hi)), rfl⟩)
    ·
      refine AW.skip ?_
      refine AW.reg ?_
      refine SeqK.q (q_mvC rfl rfl) rfl rfl rfl ?_
      refine SeqK.q (q_add _ rfl rfl rfl (w64 (by omega) (by omega))) rfl rfl rfl ?_
      refine SeqK.q (q_asC rfl rfl) rfl rfl rfl ?_
      refine SeqK.nil ?_
      exact ⟨i + 1, _, Wk.keep 18 [(0, .c (iL z l)), (1, .c (iC n)), (4, .c (bC false)), (5, iX .i64 (((i + 1) : Nat) : Int))] [] (H) rfl ⟨rfl, rfl, rfl, rfl, trivial⟩ trivial (fun _ _ h => h) rfl, by omega, ⟨hi, upS hi hU h17⟩, rfl⟩
  ·
    refine AW.exit ?_
    refine eth_e ?_
    refine eth_e ?_
    refine exit_here ?_
    refine AW.seq ?_
    refine AW.reg ?_
    refine SeqK.q (q_asC rfl rfl) rfl rfl rfl ?_
    refine SeqK.nil ?_
    refine AW.ret ?_
    exact fin_x (x := .c _) (H) (.tmp rfl .nil) rfl (fun _ _ h => h) (⟨bCe (dF fun hm => by obtain ⟨j, hj, e⟩ := List.getElem_of_mem hm; exact upE hU (by rw [List.length_map] at h9; omega) j hj e), rfl⟩)

set_option maxRecDepth 20000 in
theorem within_any (n a b : Int) : Pure Tryz.prog 15 [iC n, iC a, iC b] (.c (bC (decide (a ≤ n ∧ n ≤ b)))) := by
  intro H
  refine Spec.enter Tryz.func15 rfl ?_
  refine AW.wk (Wk.keep 15 [(0, .c (iC n)), (1, .c (iC a)), (2, .c (iC b))] [] (H) rfl ⟨rfl, rfl, rfl, trivial⟩ trivial (fun _ _ h => h) rfl) ?_
  refine AW.seq ?_
  refine AW.reg ?_
  refine SeqK.q (q_asC rfl rfl) rfl rfl rfl ?_
  refine SeqK.nil ?_
  refine AW.seq ?_
  refine AW.reg ?_
  refine SeqK.q (q_mvC rfl rfl) rfl rfl rfl ?_
  refine SeqK.q (q_mvC rfl rfl) rfl rfl rfl ?_
  refine SeqK.q (q_geq rfl rfl rfl) rfl rfl rfl ?_
  refine SeqK.qD (q_mvC rfl rfl) rfl rfl rfl (fun g10 => ?_) (fun g10 => ?_)
  ·
    refine SeqK.on (q_mvC rfl rfl) rfl rfl rfl rfl rfl ?_
    refine SeqK.on (q_mvC rfl rfl) rfl rfl rfl rfl rfl ?_
    refine SeqK.on (q_leq rfl rfl rfl) rfl rfl rfl rfl rfl ?_
    refine SeqK.q (q_pkT rfl rfl rfl) rfl rfl rfl ?_
    refine SeqK.q (q_asC rfl rfl) rfl rfl rfl ?_
    refine SeqK.nil ?_
    refine AW.ret ?_
    exact fin_x (x := .c _) (H) (.tmp rfl .nil) rfl (fun _ _ h => h) (⟨bCe (dI (by omega)), rfl⟩)
  ·
    refine SeqK.off rfl rfl rfl rfl rfl rfl ?_
    refine SeqK.off rfl rfl rfl rfl rfl rfl ?_
    refine SeqK.off rfl rfl rfl rfl rfl rfl ?_
    refine SeqK.q (q_pkF rfl rfl rfl) rfl rfl rfl ?_
    refine SeqK.q (q_asC rfl rfl) rfl rfl rfl ?_
    refine SeqK.nil ?_
    refine AW.ret ?_
    exact fin_x (x := .c _) (H) (.tmp rfl .nil) rfl (fun _ _ h => h) (⟨bCe (dF (by omega)), rfl⟩)

set_option maxRecDepth 20000 in
theorem rabs_any (n : Int) (h : -9223372036854775808 < n ∧ n ≤ 9223372036854775807) : Pure Tryz.prog 37 [iC n] (.c (iC (n.natAbs : Int))) := by
  intro H
  refine Spec.enter Tryz.func37 rfl ?_
  refine AW.wk (Wk.keep 8 [(0, .c (iC n))] [] (H) rfl ⟨rfl, trivial⟩ trivial (fun _ _ h => h) rfl) ?_
  refine AW.seq ?_
  refine AW.reg ?_
  refine SeqK.q (q_asC rfl rfl) rfl rfl rfl ?_
  refine SeqK.nil ?_
  refine AW.seq ?_
  refine AW.seq ?_
  refine AW.reg ?_
  refine SeqK.q (q_mvC rfl rfl) rfl rfl rfl ?_
  refine SeqK.q (q_lss rfl rfl rfl) rfl rfl rfl ?_
  refine SeqK.nil ?_
  refine AW.condD rfl (fun h4 => ?_) (fun h4 => ?_)
  ·
    refine AW.seq ?_
    refine AW.reg ?_
    refine SeqK.q (q_mvC rfl rfl) rfl rfl rfl ?_
    refine SeqK.q (q_neg _ rfl rfl ((by rw [w64 (by omega) (by omega)]; omega : IntKind.i64.wrap _ = (n.natAbs : Int)))) rfl rfl rfl ?_
    refine SeqK.q (q_asC rfl rfl) rfl rfl rfl ?_
    refine SeqK.nil ?_
    refine AW.ret ?_
    exact fin_x (x := .c _) (H) (.tmp rfl .nil) rfl (fun _ _ h => h) (⟨rfl, rfl⟩)
  ·
    refine AW.skip ?_
    refine AW.seq ?_
    refine AW.reg ?_
    refine SeqK.q (q_mvC rfl rfl) rfl rfl rfl ?_
    refine SeqK.q (q_asC rfl rfl) rfl rfl rfl ?_
    refine SeqK.nil ?_
    refine AW.ret ?_
    exact fin_x (x := .c _) (H) (.tmp rfl .nil) rfl (fun _ _ h => h) (⟨iCe (by omega), rfl⟩)

abbrev ascQ (l : List Int) (n : Int) (j : Nat) (h : j < l.length) : Prop := 0 ≤ l[j] ∧ l[j] < n ∧ ∀ (h0 : 0 < j), l[j - 1] < l[j]
abbrev ascP (l : List Int) (n : Int) : Prop := ∀ j (h : j < l.length), ascQ l n j h

set_option maxRecDepth 20000 in
theorem asc_any (l : List Int) (z : Nz) (n : Int) (hL : l.length ≤ 17592186044000) : Pure Tryz.prog 12 [iL z l, iC n] (.c (bC (decide (ascP l n)))) := by
  intro H
  refine Spec.enter Tryz.func12 rfl ?_
  refine AW.wk (Wk.keep 41 [(0, .c (iL z l)), (1, .c (iC n))] [] (H) rfl ⟨rfl, rfl, trivial⟩ trivial (fun _ _ h => h) rfl) ?_
  refine AW.seq ?_
  refine AW.reg ?_
  refine SeqK.q (q_asC rfl rfl) rfl rfl rfl ?_
  refine SeqK.nil ?_
  refine AW.seq ?_
  refine AW.seq ?_
  refine AW.reg ?_
  refine SeqK.q (q_asC rfl rfl) rfl rfl rfl ?_
  refine SeqK.nil ?_
  refine AW.block ?_
  refine AW.loop (fun (i : Nat) s => (i ≤ l.length ∧ ∀ j (h : j < l.length), j < i → ascQ l n j h) ∧ s = ⟨41, sp [(0, .c (iL z l)), (1, .c (iC n)), (4, .c (bC false)), (5, iX .i64 ((i : Nat) : Int))], lv [], H⟩) (fun i => l.length - i) 0 ⟨_, Wk.keep 41 [(0, .c (iL z l)), (1, .c (iC n)), (4, .c (bC false)), (5, iX .i64 ((((0 : Nat)) : Nat) : Int))] [] (H) rfl ⟨rfl, rfl, rfl, rfl, trivial⟩ trivial (fun _ _ h => h) rfl, ⟨Nat.zero_le _, up0⟩, rfl⟩ (fun i s hs => ?_)
  obtain ⟨⟨hi0, hU⟩, rfl⟩ := hs
  refine AW.seq ?_
  refine AW.seq ?_
  refine AW.reg ?_
  refine SeqK.q (q_mvC rfl rfl) rfl rfl rfl ?_
  refine SeqK.q (q_mvC rfl rfl) rfl rfl rfl ?_
  refine SeqK.q (q_len rfl Fx.un22 rfl) rfl rfl rfl ?_
  refine SeqK.q (q_lss rfl rfl rfl) rfl rfl rfl ?_
  refine SeqK.nil ?_
  refine AW.condD rfl (fun h9 => ?_) (fun h9 => ?_)
  ·
    have hi : i < l.length := by rw [List.length_map] at h9; omega
    refine AW.skip ?_
    refine AW.seq ?_
    refine AW.block ?_
    refine AW.seq ?_
    refine AW.draw Fx.mo ?_
    refine LexK.q (q_mvC rfl rfl) rfl rfl rfl ?_
    refine LexK.q (q_mvC rfl rfl) rfl rfl rfl ?_
    refine LexK.q (q_index _ rfl Fx.sl22 rfl rfl (by omega) (idx_map (f := i64T) hi)) rfl rfl rfl ?_
    refine LexK.q (q_load (.a _) rfl Fx.ty3 rfl rfl rfl) rfl rfl rfl ?_
    refine LexK.q (q_lss rfl rfl rfl) rfl rfl rfl ?_
    refine LexK.qD (q_mvC rfl rfl) rfl rfl rfl (fun g17 => ?_) (fun g17 => ?_)
    ·
      refine LexK.off rfl rfl rfl rfl rfl rfl ?_
      refine LexK.off rfl rfl rfl rfl rfl rfl ?_
      refine LexK.off rfl rfl rfl rfl rfl rfl ?_
      refine LexK.off rfl rfl rfl rfl rfl rfl ?_
      refine LexK.off rfl rfl rfl rfl rfl rfl ?_
      refine LexK.off rfl rfl rfl rfl rfl rfl ?_
      refine LexK.q (q_pkT rfl rfl rfl) rfl rfl rfl ?_
      refine LexK.q (q_mvC rfl rfl) rfl rfl rfl ?_
      refine LexK.off rfl rfl rfl rfl rfl rfl ?_
      refine LexK.off rfl rfl rfl rfl rfl rfl ?_
      refine LexK.off rfl rfl rfl rfl rfl rfl ?_
      refine LexK.offU rfl rfl rfl rfl rfl ?_
      refine LexK.offU rfl rfl rfl rfl rfl ?_
      refine LexK.offU rfl rfl rfl rfl rfl ?_
      refine LexK.offU rfl rfl rfl rfl rfl ?_
      refine LexK.offU rfl rfl rfl rfl rfl ?_
      refine LexK.offU rfl rfl rfl rfl rfl ?_
      refine LexK.offU rfl rfl rfl rfl rfl ?_
      refine LexK.offU rfl rfl rfl rfl rfl ?_
      refine LexK.offU rfl rfl rfl rfl rfl ?_
      refine LexK.offU rfl rfl rfl rfl rfl ?_
      refine LexK.off rfl rfl rfl rfl rfl rfl ?_
      refine LexK.q (q_pkT rfl rfl rfl) rfl rfl rfl ?_
      refine LexK.nil (by kernel_rfl) ?_
      refine AW.condT rfl ?_
      refine AW.seq ?_
      refine AW.reg ?_
      refine SeqK.q (q_asC rfl rfl) rfl rfl rfl ?_
      refine SeqK.nil ?_
      refine AW.ret ?_
      exact fin_x (x := .c _) (H) (.tmp rfl .nil) rfl (fun _ _ h => h) (⟨bCe (dF (upN hi fun ⟨k1, k2, k3⟩ => by first | omega | (have := k3 (by omega); omega))), rfl⟩)
    ·
      refine LexK.on (q_mvC rfl rfl) rfl rfl rfl rfl rfl ?_
      refine LexK.on (q_mvC rfl rfl) rfl rfl rfl rfl rfl ?_
      refine LexK.on (q_index _ rfl Fx.sl22 rfl rfl (by omega) (idx_map (f := i64T) hi)) rfl rfl rfl rfl rfl ?_
      refine LexK.on (q_load (.a _) rfl Fx.ty3 rfl rfl rfl) rfl rfl rfl rfl rfl ?_
      refine LexK.on (q_mvC rfl rfl) rfl rfl rfl rfl rfl ?_
      refine LexK.on (q_geq rfl rfl rfl) rfl rfl rfl rfl rfl ?_
      refine LexK.q (q_pkF rfl rfl rfl) rfl rfl rfl ?_
      refine LexK.qD (q_mvC rfl rfl) rfl rfl rfl (fun g25 => ?_) (fun g25 => ?_)
      ·
        refine LexK.off rfl rfl rfl rfl rfl rfl ?_
        refine LexK.off rfl rfl rfl rfl rfl rfl ?_
        refine LexK.off rfl rfl rfl rfl rfl rfl ?_
        refine LexK.offU rfl rfl rfl rfl rfl ?_
        refine LexK.offU rfl rfl rfl rfl rfl ?_
        refine LexK.offU rfl rfl rfl rfl rfl ?_
        refine LexK.offU rfl rfl rfl rfl rfl ?_
        refine LexK.offU rfl rfl rfl rfl rfl ?_
        refine LexK.offU rfl rfl rfl rfl rfl ?_
        refine LexK.offU rfl rfl rfl rfl rfl ?_
        refine LexK.offU rfl rfl rfl rfl rfl ?_
        refine LexK.offU rfl rfl rfl rfl rfl ?_
        refine LexK.offU rfl rfl rfl rfl rfl ?_
        refine LexK.off rfl rfl rfl rfl rfl rfl ?_
        refine LexK.q (q_pkT rfl rfl rfl) rfl rfl rfl ?_
        refine LexK.nil (by kernel_rfl) ?_
        refine AW.condT rfl ?_
        refine AW.seq ?_
        refine AW.reg ?_
        refine SeqK.q (q_asC rfl rfl) rfl rfl rfl ?_
        refine SeqK.nil ?_
        refine AW.ret ?_
        exact fin_x (x := .c _) (H) (.tmp rfl .nil) rfl (fun _ _ h => h) (⟨bCe (dF (upN hi fun ⟨k1, k2, k3⟩ => by first | omega | (have := k3 (by omega); omega))), rfl⟩)
      ·
        refine LexK.on (q_mvC rfl rfl) rfl rfl rfl rfl rfl ?_
        refine LexK.on (q_gtr rfl rfl rfl) rfl rfl rfl rfl rfl ?_
        refine LexK.onD (q_mvC rfl rfl) rfl rfl rfl rfl rfl (fun g28 => ?_) (fun g28 => ?_)
        ·
          refine LexK.on (q_mvC rfl rfl) rfl rfl rfl rfl rfl ?_
          refine LexK.on (q_mvC rfl rfl) rfl rfl rfl rfl rfl ?_
          refine LexK.on (q_sub _ rfl rfl rfl ((by rw [w64 (by omega) (by omega)]; omega : IntKind.i64.wrap _ = ((i - 1 : Nat) : Int)))) rfl rfl rfl rfl rfl ?_
          refine LexK.on (q_index _ rfl Fx.sl22 rfl rfl (by omega) (idx_map (f := i64T) (show i - 1 < l.length by omega))) rfl rfl rfl rfl rfl ?_
          refine LexK.on (q_load (.a _) rfl Fx.ty3 rfl rfl rfl) rfl rfl rfl rfl rfl ?_
          refine LexK.on (q_mvC rfl rfl) rfl rfl rfl rfl rfl ?_
          refine LexK.on (q_mvC rfl rfl) rfl rfl rfl rfl rfl ?_
          refine LexK.on (q_index _ rfl Fx.sl22 rfl rfl (by omega) (idx_map (f := i64T) hi)) rfl rfl rfl rfl rfl ?_
          refine LexK.on (q_load (.a _) rfl Fx.ty3 rfl rfl rfl) rfl rfl rfl rfl rfl ?_
          refine LexK.on (q_geq rfl rfl rfl) rfl rfl rfl rfl rfl ?_
          refine LexK.on (q_pkT rfl rfl rfl) rfl rfl rfl rfl rfl ?_
          refine LexK.q (q_pkF rfl rfl rfl) rfl rfl rfl ?_
          refine LexK.nil (by kernel_rfl) ?_
          refine AW.condD rfl (fun h40 => ?_) (fun h40 => ?_)
          ·
            refine AW.seq ?_
            refine AW.reg ?_
            refine SeqK.q (q_asC rfl rfl) rfl rfl rfl ?_
            refine SeqK.nil ?_
            refine AW.ret ?_
            exact fin_x (x := .c _) (H) (.tmp rfl .nil) rfl (fun _ _ h => h) (⟨bCe (dF (upN hi fun ⟨k1, k2, k3⟩ => by first | omega | (have := k3 (by omega); omega))), rfl⟩)
          ·
            refine AW.skip ?_
            refine AW.reg ?_
            refine SeqK.q (q_mvC rfl rfl) rfl rfl rfl ?_
            refine SeqK.q (q_add _ rfl rfl rfl (w64 (by omega) (by omega))) rfl rfl rfl ?_
            refine SeqK.q (q_asC rfl rfl) rfl rfl rfl ?_
            refine SeqK.nil ?_
            exact ⟨i + 1, _, Wk.keep 41 [(0, .c (iL z l)), (1, .c (iC n)), (4, .c (bC false)), (5, iX .i64 (((i + 1) : Nat) : Int))] [] (H) rfl ⟨rfl, rfl, rfl, rfl, trivial⟩ trivial (fun _ _ h => h) rfl, by omega, ⟨hi, upS hi hU ⟨by omega, by omega, fun h0 => by omega⟩⟩, rfl⟩
        ·
          refine LexK.off rfl rfl rfl rfl rfl rfl ?_
          refine LexK.off rfl rfl rfl rfl rfl rfl ?_
          refine LexK.off rfl rfl rfl rfl rfl rfl ?_
          refine LexK.off rfl rfl rfl rfl rfl rfl ?_
          refine LexK.off rfl rfl rfl rfl rfl rfl ?_
          refine LexK.off rfl rfl rfl rfl rfl rfl ?_
          refine LexK.off rfl rfl rfl rfl rfl rfl ?_
          refine LexK.off rfl rfl rfl rfl rfl rfl ?_
          refine LexK.off rfl rfl rfl rfl rfl rfl ?_
          refine LexK.off rfl rfl rfl rfl rfl rfl ?_
          refine LexK.on (q_pkF rfl rfl rfl) rfl rfl rfl rfl rfl ?_
          refine LexK.q (q_pkF rfl rfl rfl) rfl rfl rfl ?_
          refine LexK.nil (by kernel_rfl) ?_
          refine AW.condF rfl ?_
          refine AW.skip ?_
          refine AW.reg ?_
          refine SeqK.q (q_mvC rfl rfl) rfl rfl rfl ?_
          refine SeqK.q (q_add _ rfl rfl rfl (w64 (by omega) (by omega))) rfl rfl rfl ?_
          refine SeqK.q (q_asC rfl rfl) rfl rfl rfl ?_
          refine SeqK.nil ?_
          exact ⟨i + 1, _, Wk.keep 41 [(0, .c (iL z l)), (1, .c (iC n)), (4, .c (bC false)), (5, iX .i64 (((i + 1) : Nat) : Int))] [] (H) rfl ⟨rfl, rfl, rfl, rfl, trivial⟩ trivial (fun _ _ h => h) rfl, by omega, ⟨hi, upS hi hU ⟨by omega, by omega, fun h0 => by omega⟩⟩, rfl⟩
  ·
    refine AW.exit ?_
    refine eth_e ?_
    refine eth_e ?_
    refine exit_here ?_
    refine AW.seq ?_
    refine AW.reg ?_
    refine SeqK.q (q_asC rfl rfl) rfl rfl rfl ?_
    refine SeqK.nil ?_
    refine AW.ret ?_
    exact fin_x (x := .c _) (H) (.tmp rfl .nil) rfl (fun _ _ h => h) (⟨bCe (dT (upE hU (by rw [List.length_map] at h9; omega))), rfl⟩)

end Go.Proofs.YtnmfjojhgfipcaaGreatDoor.W
namespace Go.Proofs.YtnmfjojhgfipcaaGreatDoor.W
open Go.RowKit E
set_option linter.unusedVariables false
set_option linter.unusedSimpArgs false
set_option linter.unusedSectionVars false
abbrev v0 : Vr := ⟨0, 0, 0, 0, false⟩
abbrev vty (l : List Vr) (v : Int) : Int := (l.getD v.toNat v0).ty
theorem vty_at {l : List Vr} {v : Int} (h : v.toNat < l.length) : vty l v = l[v.toNat].ty := by
  unfold vty; rw [List.getD_eq_getElem?_getD, List.getElem?_eq_getElem h]; rfl
abbrev txtP (v : Int) (nn : List Int) (l : List Vr) : Prop := (0 ≤ v ∧ v < l.length) ∧ vty l v = 2 ∧ v ∈ nn
abbrev tstP (t : Ts) : Prop := prnP t.s ∧ (0 ≤ t.k ∧ t.k ≤ 3) ∧ t.s.size ≤ 16
theorem ba_len (s : ByteArray) : s.data.toList.length = s.size := by rw [Array.length_toList]; rfl
theorem idx_ba {s : ByteArray} {i : Nat} (h : i < s.data.toList.length) : s.data.toList[((i : Nat) : Int).toNat]? = some s.data.toList[i] := by
  rw [Int.toNat_natCast]; exact List.getElem?_eq_getElem h

set_option maxRecDepth 20000 in
theorem text_any (v : Int) (c : Cl) (l : List Vr) (z : Nz) (hn : c.nn.length ≤ 17592186044000) : Pure Tryz.prog 13 [iC v, clC c, vsC z l] (.c (bC (decide (txtP v c.nn l)))) := by
  intro H
  refine Spec.enter Tryz.func13 rfl ?_
  refine AW.wk (Wk.keep 29 [(0, .c (iC v)), (1, .c (clC c)), (2, .c (vsC z l))] [] (H) rfl ⟨rfl, rfl, rfl, trivial⟩ trivial (fun _ _ h => h) rfl) ?_
  refine AW.seq ?_
  refine AW.reg ?_
  refine SeqK.r (b_box (r := [_, _, _, _, _, _, _]) rfl rfl rfl rfl rfl rfl) rfl ?_
  refine SeqK.q (q_asC rfl rfl) rfl rfl rfl ?_
  refine SeqK.nil ?_
  refine AW.seq ?_
  refine AW.reg ?_
  refine SeqK.q (q_mvC rfl rfl) rfl rfl rfl ?_
  refine SeqK.q (q_geq rfl rfl rfl) rfl rfl rfl ?_
  refine SeqK.qD (q_mvC rfl rfl) rfl rfl rfl (fun g9 => ?_) (fun g9 => ?_)
  ·
    refine SeqK.on (q_mvC rfl rfl) rfl rfl rfl rfl rfl ?_
    refine SeqK.on (q_mvC rfl rfl) rfl rfl rfl rfl rfl ?_
    refine SeqK.on (q_len rfl Fx.un29 rfl) rfl rfl rfl rfl rfl ?_
    refine SeqK.on (q_lss rfl rfl rfl) rfl rfl rfl rfl rfl ?_
    refine SeqK.q (q_pkT rfl rfl rfl) rfl rfl rfl ?_
    refine SeqK.qD (q_mvC rfl rfl) rfl rfl rfl (fun g15 => ?_) (fun g15 => ?_)
    ·
      have hv : v.toNat < l.length := by rw [List.length_map] at *; omega
      have hty := vty_at hv
      refine SeqK.on (q_mvC rfl rfl) rfl rfl rfl rfl rfl ?_
      refine SeqK.on (q_mvC rfl rfl) rfl rfl rfl rfl rfl ?_
      refine SeqK.on (q_index _ rfl Fx.sl29 rfl rfl (by omega) (idx_map (f := vrT) hv)) rfl rfl rfl rfl rfl ?_
      refine SeqK.on (q_fieldP _ rfl Fx.fl36_0 rfl rfl) rfl rfl rfl rfl rfl ?_
      refine SeqK.on (q_load (.a _) rfl Fx.ty3 rfl rfl rfl) rfl rfl rfl rfl rfl ?_
      refine SeqK.on (q_eql rfl rfl rfl) rfl rfl rfl rfl rfl ?_
      refine SeqK.q (q_pkT rfl rfl rfl) rfl rfl rfl ?_
      refine SeqK.qD (q_mvC rfl rfl) rfl rfl rfl (fun g23 => ?_) (fun g23 => ?_)
      ·
        refine SeqK.on (q_fieldL _ rfl Fx.fl28_1 rfl rfl) rfl rfl rfl rfl rfl ?_
        refine SeqK.rOn (b_load (r := .a _) rfl Fx.ty22 rfl rfl rfl rfl rfl rfl) rfl rfl rfl ?_
        refine SeqK.on (q_mvC rfl rfl) rfl rfl rfl rfl rfl ?_
        refine SeqK.on (q_call _ rfl Fx.fn36 rfl (has_any _ _ _ hn) rfl) rfl rfl rfl rfl rfl ?_
        refine SeqK.q (q_pkT rfl rfl rfl) rfl rfl rfl ?_
        refine SeqK.q (q_asC rfl rfl) rfl rfl rfl ?_
        refine SeqK.nil ?_
        refine AW.ret ?_
        exact fin_x (x := .c _) (H) (.tmp rfl .nil) rfl (fun _ _ h => h) (⟨bCe (by first | exact dF (by rintro ⟨⟨a, b⟩, c, d⟩; first | omega | (rw [List.length_map] at *; omega) | (rw [hty] at c; omega)) | exact dI ⟨fun h => ⟨⟨by omega, by rw [List.length_map] at *; omega⟩, by rw [hty]; assumption, h⟩, fun h => h.2.2⟩), rfl⟩)
      ·
        refine SeqK.off rfl rfl rfl rfl rfl rfl ?_
        refine SeqK.off rfl rfl rfl rfl rfl rfl ?_
        refine SeqK.off rfl rfl rfl rfl rfl rfl ?_
        refine SeqK.off rfl rfl rfl rfl rfl rfl ?_
        refine SeqK.q (q_pkF rfl rfl rfl) rfl rfl rfl ?_
        refine SeqK.q (q_asC rfl rfl) rfl rfl rfl ?_
        refine SeqK.nil ?_
        refine AW.ret ?_
        exact fin_x (x := .c _) (H) (.tmp rfl .nil) rfl (fun _ _ h => h) (⟨bCe (by first | exact dF (by rintro ⟨⟨a, b⟩, c, d⟩; first | omega | (rw [List.length_map] at *; omega) | (rw [hty] at c; omega)) | exact dI ⟨fun h => ⟨⟨by omega, by rw [List.length_map] at *; omega⟩, by rw [hty]; assumption, h⟩, fun h => h.2.2⟩), rfl⟩)
    ·
      refine SeqK.off rfl rfl rfl rfl rfl rfl ?_
      refine SeqK.off rfl rfl rfl rfl rfl rfl ?_
      refine SeqK.off rfl rfl rfl rfl rfl rfl ?_
      refine SeqK.off rfl rfl rfl rfl rfl rfl ?_
      refine SeqK.off rfl rfl rfl rfl rfl rfl ?_
      refine SeqK.off rfl rfl rfl rfl rfl rfl ?_
      refine SeqK.q (q_pkF rfl rfl rfl) rfl rfl rfl ?_
      refine SeqK.q (q_mvC rfl rfl) rfl rfl rfl ?_
      refine SeqK.off rfl rfl rfl rfl rfl rfl ?_
      refine SeqK.off rfl rfl rfl rfl rfl rfl ?_
      refine SeqK.off rfl rfl rfl rfl rfl rfl ?_
      refine SeqK.off rfl rfl rfl rfl rfl rfl ?_
      refine SeqK.q (q_pkF rfl rfl rfl) rfl rfl rfl ?_
      refine SeqK.q (q_asC rfl rfl) rfl rfl rfl ?_
      refine SeqK.nil ?_
      refine AW.ret ?_
      exact fin_x (x := .c _) (H) (.tmp rfl .nil) rfl (fun _ _ h => h) (⟨bCe (by first | exact dF (by rintro ⟨⟨a, b⟩, c, d⟩; first | omega | (rw [List.length_map] at *; omega) | (rw [hty] at c; omega)) | exact dI ⟨fun h => ⟨⟨by omega, by rw [List.length_map] at *; omega⟩, by rw [hty]; assumption, h⟩, fun h => h.2.2⟩), rfl⟩)
  ·
    refine SeqK.off rfl rfl rfl rfl rfl rfl ?_
    refine SeqK.off rfl rfl rfl rfl rfl rfl ?_
    refine SeqK.off rfl rfl rfl rfl rfl rfl ?_
    refine SeqK.off rfl rfl rfl rfl rfl rfl ?_
    refine SeqK.q (q_pkF rfl rfl rfl) rfl rfl rfl ?_
    refine SeqK.q (q_mvC rfl rfl) rfl rfl rfl ?_
    refine SeqK.off rfl rfl rfl rfl rfl rfl ?_
    refine SeqK.off rfl rfl rfl rfl rfl rfl ?_
    refine SeqK.off rfl rfl rfl rfl rfl rfl ?_
    refine SeqK.off rfl rfl rfl rfl rfl rfl ?_
    refine SeqK.off rfl rfl rfl rfl rfl rfl ?_
    refine SeqK.off rfl rfl rfl rfl rfl rfl ?_
    refine SeqK.q (q_pkF rfl rfl rfl) rfl rfl rfl ?_
    refine SeqK.q (q_mvC rfl rfl) rfl rfl rfl ?_
    refine SeqK.off rfl rfl rfl rfl rfl rfl ?_
    refine SeqK.off rfl rfl rfl rfl rfl rfl ?_
    refine SeqK.off rfl rfl rfl rfl rfl rfl ?_
    refine SeqK.off rfl rfl rfl rfl rfl rfl ?_
    refine SeqK.q (q_pkF rfl rfl rfl) rfl rfl rfl ?_
    refine SeqK.q (q_asC rfl rfl) rfl rfl rfl ?_
    refine SeqK.nil ?_
    refine AW.ret ?_
    exact fin_x (x := .c _) (H) (.tmp rfl .nil) rfl (fun _ _ h => h) (⟨bCe (by first | exact dF (by rintro ⟨⟨a, b⟩, c, d⟩; first | omega | (rw [List.length_map] at *; omega) | (rw [hty] at c; omega)) | exact dI ⟨fun h => ⟨⟨by omega, by rw [List.length_map] at *; omega⟩, by rw [hty]; assumption, h⟩, fun h => h.2.2⟩), rfl⟩)

abbrev prQ (p : List (Int × Int)) (nn : List Int) (l : List Vr) (j : Nat) (h : j < p.length) : Prop := txtP p[j].1 nn l ∧ txtP p[j].2 nn l ∧ p[j].1 < p[j].2
abbrev prP (p : List (Int × Int)) (nn : List Int) (l : List Vr) : Prop := ∀ j (h : j < p.length), prQ p nn l j h

set_option maxRecDepth 20000 in
theorem pairs_any (p : List (Int × Int)) (zp : Nz) (c : Cl) (l : List Vr) (z : Nz) (hn : c.nn.length ≤ 17592186044000) (hp : p.length ≤ 17592186044000) : Pure Tryz.prog 17 [prsC zp p, clC c, vsC z l] (.c (bC (decide (prP p c.nn l)))) := by
  intro H
  refine Spec.enter Tryz.func17 rfl ?_
  refine AW.wk (Wk.keep 47 [(0, .c (prsC zp p)), (1, .c (clC c)), (2, .c (vsC z l))] [] (H) rfl ⟨rfl, rfl, rfl, trivial⟩ trivial (fun _ _ h => h) rfl) ?_
  refine AW.seq ?_
  refine AW.reg ?_
  refine SeqK.r (b_box (r := [_, _, _, _, _, _, _]) rfl rfl rfl rfl rfl rfl) rfl ?_
  refine SeqK.q (q_asC rfl rfl) rfl rfl rfl ?_
  refine SeqK.nil ?_
  refine AW.seq ?_
  refine AW.seq ?_
  refine AW.reg ?_
  refine SeqK.q (q_asC rfl rfl) rfl rfl rfl ?_
  refine SeqK.nil ?_
  refine AW.block ?_
  refine AW.loop (fun (i : Nat) s => (i ≤ p.length ∧ ∀ j (h : j < p.length), j < i → prQ p c.nn l j h) ∧ s = ⟨47, sp [(0, .c (prsC zp p)), (2, .c (vsC z l)), (4, .lp 4 0), (6, .c (bC false)), (7, iX .i64 ((i : Nat) : Int))], lv [(4, .box [.t (.sl .un 1 (c.nl.map i64T)), .t (.sl .un 1 (c.nn.map i64T)), .t (.sl .un 4 (c.ax.map axT)), .t (.sl .un 3 (c.is.map ctT)), .t (.sl .un 4 (c.ts.map tsT)), .t (.sl .un 2 (c.sm.map prT)), .t (.sl .un 2 (c.df.map prT))])], H⟩) (fun i => p.length - i) 0 ⟨_, Wk.keep 47 [(0, .c (prsC zp p)), (2, .c (vsC z l)), (4, .lp 4 0), (6, .c (bC false)), (7, iX .i64 ((((0 : Nat)) : Nat) : Int))] [(4, .box [.t (.sl .un 1 (c.nl.map i64T)), .t (.sl .un 1 (c.nn.map i64T)), .t (.sl .un 4 (c.ax.map axT)), .t (.sl .un 3 (c.is.map ctT)), .t (.sl .un 4 (c.ts.map tsT)), .t (.sl .un 2 (c.sm.map prT)), .t (.sl .un 2 (c.df.map prT))])] (H) rfl ⟨rfl, rfl, rfl, rfl, rfl, trivial⟩ ⟨rfl, trivial⟩ (fun _ _ h => h) rfl, ⟨Nat.zero_le _, up0⟩, rfl⟩ (fun i s hs => ?_)
  obtain ⟨⟨hi0, hU⟩, rfl⟩ := hs
  refine AW.seq ?_
  refine AW.seq ?_
  refine AW.reg ?_
  refine SeqK.q (q_mvC rfl rfl) rfl rfl rfl ?_
  refine SeqK.q (q_mvC rfl rfl) rfl rfl rfl ?_
  refine SeqK.q (q_len rfl Fx.un26 rfl) rfl rfl rfl ?_
  refine SeqK.q (q_lss rfl rfl rfl) rfl rfl rfl ?_
  refine SeqK.nil ?_
  refine AW.condD rfl (fun h11 => ?_) (fun h11 => ?_)
  ·
    have hi : i < p.length := by rw [List.length_map] at h11; omega
    refine AW.skip ?_
    refine AW.seq ?_
    refine AW.block ?_
    refine AW.seq ?_
    refine AW.draw Fx.mo ?_
    refine LexK.q (q_mvC rfl rfl) rfl rfl rfl ?_
    refine LexK.q (q_mvC rfl rfl) rfl rfl rfl ?_
    refine LexK.q (q_index _ rfl Fx.sl26 rfl rfl (by omega) (idx_map (f := prT) hi)) rfl rfl rfl ?_
    refine LexK.q (q_indexP _ rfl Fx.ar80 rfl rfl (by omega) (by omega) rfl) rfl rfl rfl ?_
    refine LexK.q (q_load (.a _) rfl Fx.ty3 rfl rfl rfl) rfl rfl rfl ?_
    refine LexK.r (b_load (r := .g [_, _, _, _, _, _, _]) rfl Fx.ty28 rfl rfl rfl rfl rfl rfl) rfl ?_
    refine LexK.q (q_mvC rfl rfl) rfl rfl rfl ?_
    refine LexK.q (q_call _ rfl Fx.fn13 rfl (text_any _ _ _ _ hn) rfl) rfl rfl rfl ?_
    refine LexK.q (q_not rfl rfl) rfl rfl rfl ?_
    refine LexK.qB (q_mvC rfl rfl) rfl rfl rfl (fun g23 => ?_) (fun g23 => ?_)
    ·
      refine LexK.off rfl rfl rfl rfl rfl rfl ?_
      refine LexK.off rfl rfl rfl rfl rfl rfl ?_
      refine LexK.off rfl rfl rfl rfl rfl rfl ?_
      refine LexK.off rfl rfl rfl rfl rfl rfl ?_
      refine LexK.off rfl rfl rfl rfl rfl rfl ?_
      refine LexK.off rfl rfl rfl rfl rfl rfl ?_
      refine LexK.off rfl rfl rfl rfl rfl rfl ?_
      refine LexK.off rfl rfl rfl rfl rfl rfl ?_
      refine LexK.off rfl rfl rfl rfl rfl rfl ?_
      refine LexK.q (q_pkT rfl rfl rfl) rfl rfl rfl ?_
      refine LexK.q (q_mvC rfl rfl) rfl rfl rfl ?_
      refine LexK.off rfl rfl rfl rfl rfl rfl ?_
      refine LexK.off rfl rfl rfl rfl rfl rfl ?_
      refine LexK.off rfl rfl rfl rfl rfl rfl ?_
      refine LexK.off rfl rfl rfl rfl rfl rfl ?_
      refine LexK.off rfl rfl rfl rfl rfl rfl ?_
      refine LexK.off rfl rfl rfl rfl rfl rfl ?_
      refine LexK.off rfl rfl rfl rfl rfl rfl ?_
      refine LexK.off rfl rfl rfl rfl rfl rfl ?_
      refine LexK.off rfl rfl rfl rfl rfl rfl ?_
      refine LexK.off rfl rfl rfl rfl rfl rfl ?_
      refine LexK.off rfl rfl rfl rfl rfl rfl ?_
      refine LexK.q (q_pkT rfl rfl rfl) rfl rfl rfl ?_
      refine LexK.nil (by kernel_rfl) ?_
      refine AW.condT rfl ?_
      refine AW.seq ?_
      refine AW.reg ?_
      refine SeqK.q (q_asC rfl rfl) rfl rfl rfl ?_
      refine SeqK.nil ?_
      refine AW.ret ?_
      exact fin_x (x := .c _) (H) (.tmp rfl .nil) rfl (fun _ _ h => h) (⟨bCe (dF (upN hi fun ⟨k1, k2, k3⟩ => by first | omega | (have := nd_t g23; exact this k1) | (have := nd_t g34; exact this k2) | simp_all)), rfl⟩)
    ·
      refine LexK.on (q_mvC rfl rfl) rfl rfl rfl rfl rfl ?_
      refine LexK.on (q_mvC rfl rfl) rfl rfl rfl rfl rfl ?_
      refine LexK.on (q_index _ rfl Fx.sl26 rfl rfl (by omega) (idx_map (f := prT) hi)) rfl rfl rfl rfl rfl ?_
      refine LexK.on (q_indexP _ rfl Fx.ar80 rfl rfl (by omega) (by omega) rfl) rfl rfl rfl rfl rfl ?_
      refine LexK.on (q_load (.a _) rfl Fx.ty3 rfl rfl rfl) rfl rfl rfl rfl rfl ?_
      refine LexK.rOn (b_load (r := .g [_, _, _, _, _, _, _]) rfl Fx.ty28 rfl rfl rfl rfl rfl rfl) rfl rfl rfl ?_
      refine LexK.on (q_mvC rfl rfl) rfl rfl rfl rfl rfl ?_
      refine LexK.on (q_call _ rfl Fx.fn13 rfl (text_any _ _ _ _ hn) rfl) rfl rfl rfl rfl rfl ?_
      refine LexK.on (q_not rfl rfl) rfl rfl rfl rfl rfl ?_
      refine LexK.q (q_pkF rfl rfl rfl) rfl rfl rfl ?_
      refine LexK.qB (q_mvC rfl rfl) rfl rfl rfl (fun g34 => ?_) (fun g34 => ?_)
      ·
        refine LexK.off rfl rfl rfl rfl rfl rfl ?_
        refine LexK.off rfl rfl rfl rfl rfl rfl ?_
        refine LexK.off rfl rfl rfl rfl rfl rfl ?_
        refine LexK.off rfl rfl rfl rfl rfl rfl ?_
        refine LexK.off rfl rfl rfl rfl rfl rfl ?_
        refine LexK.off rfl rfl rfl rfl rfl rfl ?_
        refine LexK.off rfl rfl rfl rfl rfl rfl ?_
        refine LexK.off rfl rfl rfl rfl rfl rfl ?_
        refine LexK.off rfl rfl rfl rfl rfl rfl ?_
        refine LexK.off rfl rfl rfl rfl rfl rfl ?_
        refine LexK.off rfl rfl rfl rfl rfl rfl ?_
        refine LexK.q (q_pkT rfl rfl rfl) rfl rfl rfl ?_
        refine LexK.nil (by kernel_rfl) ?_
        refine AW.condT rfl ?_
        refine AW.seq ?_
        refine AW.reg ?_
        refine SeqK.q (q_asC rfl rfl) rfl rfl rfl ?_
        refine SeqK.nil ?_
        refine AW.ret ?_
        exact fin_x (x := .c _) (H) (.tmp rfl .nil) rfl (fun _ _ h => h) (⟨bCe (dF (upN hi fun ⟨k1, k2, k3⟩ => by first | omega | (have := nd_t g23; exact this k1) | (have := nd_t g34; exact this k2) | simp_all)), rfl⟩)
      ·
        refine LexK.on (q_mvC rfl rfl) rfl rfl rfl rfl rfl ?_
        refine LexK.on (q_mvC rfl rfl) rfl rfl rfl rfl rfl ?_
        refine LexK.on (q_index _ rfl Fx.sl26 rfl rfl (by omega) (idx_map (f := prT) hi)) rfl rfl rfl rfl rfl ?_
        refine LexK.on (q_indexP _ rfl Fx.ar80 rfl rfl (by omega) (by omega) rfl) rfl rfl rfl rfl rfl ?_
        refine LexK.on (q_load (.a _) rfl Fx.ty3 rfl rfl rfl) rfl rfl rfl rfl rfl ?_
        refine LexK.on (q_mvC rfl rfl) rfl rfl rfl rfl rfl ?_
        refine LexK.on (q_mvC rfl rfl) rfl rfl rfl rfl rfl ?_
        refine LexK.on (q_index _ rfl Fx.sl26 rfl rfl (by omega) (idx_map (f := prT) hi)) rfl rfl rfl rfl rfl ?_
        refine LexK.on (q_indexP _ rfl Fx.ar80 rfl rfl (by omega) (by omega) rfl) rfl rfl rfl rfl rfl ?_
        refine LexK.on (q_load (.a _) rfl Fx.ty3 rfl rfl rfl) rfl rfl rfl rfl rfl ?_
        refine LexK.on (q_geq rfl rfl rfl) rfl rfl rfl rfl rfl ?_
        refine LexK.q (q_pkF rfl rfl rfl) rfl rfl rfl ?_
        refine LexK.nil (by kernel_rfl) ?_
        refine AW.condD rfl (fun h46 => ?_) (fun h46 => ?_)
        ·
          refine AW.seq ?_
          refine AW.reg ?_
          refine SeqK.q (q_asC rfl rfl) rfl rfl rfl ?_
          refine SeqK.nil ?_
          refine AW.ret ?_
          exact fin_x (x := .c _) (H) (.tmp rfl .nil) rfl (fun _ _ h => h) (⟨bCe (dF (upN hi fun ⟨k1, k2, k3⟩ => by first | omega | (have := nd_t g23; exact this k1) | (have := nd_t g34; exact this k2) | simp_all)), rfl⟩)
        ·
          refine AW.skip ?_
          refine AW.reg ?_
          refine SeqK.q (q_mvC rfl rfl) rfl rfl rfl ?_
          refine SeqK.q (q_add _ rfl rfl rfl (w64 (by omega) (by omega))) rfl rfl rfl ?_
          refine SeqK.q (q_asC rfl rfl) rfl rfl rfl ?_
          refine SeqK.nil ?_
          exact ⟨i + 1, _, Wk.keep 47 [(0, .c (prsC zp p)), (2, .c (vsC z l)), (4, .lp 4 0), (6, .c (bC false)), (7, iX .i64 (((i + 1) : Nat) : Int))] [(4, .box [.t (.sl .un 1 (c.nl.map i64T)), .t (.sl .un 1 (c.nn.map i64T)), .t (.sl .un 4 (c.ax.map axT)), .t (.sl .un 3 (c.is.map ctT)), .t (.sl .un 4 (c.ts.map tsT)), .t (.sl .un 2 (c.sm.map prT)), .t (.sl .un 2 (c.df.map prT))])] (H) rfl ⟨rfl, rfl, rfl, rfl, rfl, trivial⟩ ⟨rfl, trivial⟩ (fun _ _ h => h) rfl, by omega, ⟨hi, upS hi hU ⟨by simpa using g23, by simpa using g34, by omega⟩⟩, rfl⟩
  ·
    refine AW.exit ?_
    refine eth_e ?_
    refine eth_e ?_
    refine exit_here ?_
    refine AW.seq ?_
    refine AW.reg ?_
    refine SeqK.q (q_asC rfl rfl) rfl rfl rfl ?_
    refine SeqK.nil ?_
    refine AW.ret ?_
    exact fin_x (x := .c _) (H) (.tmp rfl .nil) rfl (fun _ _ h => h) (⟨bCe (dT (upE hU (by rw [List.length_map] at h11; omega))), rfl⟩)

set_option maxRecDepth 20000 in
theorem tested_any (t : Ts) (hs : t.s.size ≤ 1000000000000000) : Pure Tryz.prog 16 [tsC t] (.c (bC (decide (tstP t)))) := by
  intro H
  refine Spec.enter Tryz.func16 rfl ?_
  refine AW.wk (Wk.keep 37 [(0, .c (tsC t))] [] (H) rfl ⟨rfl, trivial⟩ trivial (fun _ _ h => h) rfl) ?_
  refine AW.seq ?_
  refine AW.reg ?_
  refine SeqK.r (b_box (r := [_, _, _, _]) rfl rfl rfl rfl rfl rfl) rfl ?_
  refine SeqK.q (q_asC rfl rfl) rfl rfl rfl ?_
  refine SeqK.nil ?_
  refine AW.seq ?_
  refine AW.seq ?_
  have hl := ba_len t.s
  refine AW.reg ?_
  refine SeqK.q (q_asC rfl rfl) rfl rfl rfl ?_
  refine SeqK.nil ?_
  refine AW.block ?_
  refine AW.loop (fun (i : Nat) s => (i ≤ t.s.size ∧ ∀ j (h : j < t.s.data.toList.length), j < i → 32 ≤ t.s.data.toList[j].toNat ∧ t.s.data.toList[j].toNat ≤ 126) ∧ s = ⟨37, sp [(1, .lp 1 0), (2, .c (bC false)), (3, iX .i64 ((i : Nat) : Int))], lv [(1, .box [.t (.v (.int .i64 t.v)), .t (.v (.int .i64 t.k)), .t (.v (.bool t.n)), .t (.v (.string t.s))])], H⟩) (fun i => t.s.size - i) 0 ⟨_, Wk.keep 37 [(1, .lp 1 0), (2, .c (bC false)), (3, iX .i64 ((((0 : Nat)) : Nat) : Int))] [(1, .box [.t (.v (.int .i64 t.v)), .t (.v (.int .i64 t.k)), .t (.v (.bool t.n)), .t (.v (.string t.s))])] (H) rfl ⟨rfl, rfl, rfl, trivial⟩ ⟨rfl, trivial⟩ (fun _ _ h => h) rfl, ⟨Nat.zero_le _, up0⟩, rfl⟩ (fun i s hs => ?_)
  obtain ⟨⟨hi0, hU⟩, rfl⟩ := hs
  refine AW.seq ?_
  refine AW.seq ?_
  refine AW.reg ?_
  refine SeqK.q (q_mvC rfl rfl) rfl rfl rfl ?_
  refine SeqK.q (q_fieldL _ rfl Fx.fl44_3 rfl rfl) rfl rfl rfl ?_
  refine SeqK.r (b_load (r := .a _) rfl Fx.ty9 rfl rfl rfl rfl rfl rfl) rfl ?_
  refine SeqK.q (q_lenS rfl Fx.un9 rfl) rfl rfl rfl ?_
  refine SeqK.q (q_lss rfl rfl rfl) rfl rfl rfl ?_
  refine SeqK.nil ?_
  refine AW.condD rfl (fun h8 => ?_) (fun h8 => ?_)
  ·
    have hi : i < t.s.data.toList.length := by omega
    refine AW.skip ?_
    refine AW.seq ?_
    refine AW.block ?_
    refine AW.seq ?_
    refine AW.reg ?_
    refine SeqK.q (q_fieldL _ rfl Fx.fl44_3 rfl rfl) rfl rfl rfl ?_
    refine SeqK.r (b_load (r := .a _) rfl Fx.ty9 rfl rfl rfl rfl rfl rfl) rfl ?_
    refine SeqK.q (q_mvC rfl rfl) rfl rfl rfl ?_
    refine SeqK.q (q_indexS _ rfl Fx.un9 rfl rfl (by omega) (idx_ba hi)) rfl rfl rfl ?_
    refine SeqK.q (q_lss rfl rfl rfl) rfl rfl rfl ?_
    refine SeqK.qD (q_mvC rfl rfl) rfl rfl rfl (fun g16 => ?_) (fun g16 => ?_)
    ·
      refine SeqK.off rfl rfl rfl rfl rfl rfl ?_
      refine SeqK.off rfl rfl rfl rfl rfl rfl ?_
      refine SeqK.off rfl rfl rfl rfl rfl rfl ?_
      refine SeqK.off rfl rfl rfl rfl rfl rfl ?_
      refine SeqK.off rfl rfl rfl rfl rfl rfl ?_
      refine SeqK.q (q_pkT rfl rfl rfl) rfl rfl rfl ?_
      refine SeqK.nil ?_
      refine AW.condT rfl ?_
      refine AW.seq ?_
      refine AW.reg ?_
      refine SeqK.q (q_asC rfl rfl) rfl rfl rfl ?_
      refine SeqK.nil ?_
      refine AW.ret ?_
      exact fin_x (x := .c _) (H) (.tmp rfl .nil) rfl (fun _ _ h => h) (⟨bCe (dF fun hq => upN (Q := fun j h => 32 ≤ t.s.data.toList[j].toNat ∧ t.s.data.toList[j].toNat ≤ 126) hi (by omega) hq.1), rfl⟩)
    ·
      refine SeqK.on (q_fieldL _ rfl Fx.fl44_3 rfl rfl) rfl rfl rfl rfl rfl ?_
      refine SeqK.rOn (b_load (r := .a _) rfl Fx.ty9 rfl rfl rfl rfl rfl rfl) rfl rfl rfl ?_
      refine SeqK.on (q_mvC rfl rfl) rfl rfl rfl rfl rfl ?_
      refine SeqK.on (q_indexS _ rfl Fx.un9 rfl rfl (by omega) (idx_ba hi)) rfl rfl rfl rfl rfl ?_
      refine SeqK.on (q_gtr rfl rfl rfl) rfl rfl rfl rfl rfl ?_
      refine SeqK.q (q_pkF rfl rfl rfl) rfl rfl rfl ?_
      refine SeqK.nil ?_
      refine AW.condD rfl (fun h22 => ?_) (fun h22 => ?_)
      ·
        refine AW.seq ?_
        refine AW.reg ?_
        refine SeqK.q (q_asC rfl rfl) rfl rfl rfl ?_
        refine SeqK.nil ?_
        refine AW.ret ?_
        exact fin_x (x := .c _) (H) (.tmp rfl .nil) rfl (fun _ _ h => h) (⟨bCe (dF fun hq => upN (Q := fun j h => 32 ≤ t.s.data.toList[j].toNat ∧ t.s.data.toList[j].toNat ≤ 126) hi (by omega) hq.1), rfl⟩)
      ·
        refine AW.skip ?_
        refine AW.reg ?_
        refine SeqK.q (q_mvC rfl rfl) rfl rfl rfl ?_
        refine SeqK.q (q_add _ rfl rfl rfl (w64 (by omega) (by omega))) rfl rfl rfl ?_
        refine SeqK.q (q_asC rfl rfl) rfl rfl rfl ?_
        refine SeqK.nil ?_
        exact ⟨i + 1, _, Wk.keep 37 [(1, .lp 1 0), (2, .c (bC false)), (3, iX .i64 (((i + 1) : Nat) : Int))] [(1, .box [.t (.v (.int .i64 t.v)), .t (.v (.int .i64 t.k)), .t (.v (.bool t.n)), .t (.v (.string t.s))])] (H) rfl ⟨rfl, rfl, rfl, trivial⟩ ⟨rfl, trivial⟩ (fun _ _ h => h) rfl, by omega, ⟨by omega, upS hi hU (by omega)⟩, rfl⟩
  ·
    refine AW.exit ?_
    refine eth_e ?_
    refine eth_e ?_
    refine exit_here ?_
    refine AW.seq ?_
    refine AW.reg ?_
    refine SeqK.q (q_fieldL _ rfl Fx.fl44_1 rfl rfl) rfl rfl rfl ?_
    refine SeqK.r (b_load (r := .a _) rfl Fx.ty3 rfl rfl rfl rfl rfl rfl) rfl ?_
    refine SeqK.q (q_geq rfl rfl rfl) rfl rfl rfl ?_
    refine SeqK.qD (q_mvC rfl rfl) rfl rfl rfl (fun g26 => ?_) (fun g26 => ?_)
    ·
      refine SeqK.on (q_fieldL _ rfl Fx.fl44_1 rfl rfl) rfl rfl rfl rfl rfl ?_
      refine SeqK.rOn (b_load (r := .a _) rfl Fx.ty3 rfl rfl rfl rfl rfl rfl) rfl rfl rfl ?_
      refine SeqK.on (q_leq rfl rfl rfl) rfl rfl rfl rfl rfl ?_
      refine SeqK.q (q_pkT rfl rfl rfl) rfl rfl rfl ?_
      refine SeqK.qD (q_mvC rfl rfl) rfl rfl rfl (fun g31 => ?_) (fun g31 => ?_)
      ·
        refine SeqK.on (q_fieldL _ rfl Fx.fl44_3 rfl rfl) rfl rfl rfl rfl rfl ?_
        refine SeqK.rOn (b_load (r := .a _) rfl Fx.ty9 rfl rfl rfl rfl rfl rfl) rfl rfl rfl ?_
        refine SeqK.on (q_lenS rfl Fx.un9 rfl) rfl rfl rfl rfl rfl ?_
        refine SeqK.on (q_leq rfl rfl rfl) rfl rfl rfl rfl rfl ?_
        refine SeqK.q (q_pkT rfl rfl rfl) rfl rfl rfl ?_
        refine SeqK.q (q_asC rfl rfl) rfl rfl rfl ?_
        refine SeqK.nil ?_
        refine AW.ret ?_
        exact fin_x (x := .c _) (H) (.tmp rfl .nil) rfl (fun _ _ h => h) (⟨bCe (by have hU := upE hU (by omega); first | exact dF (by rintro ⟨a, b, c⟩; omega) | exact dI ⟨fun h => ⟨hU, by omega, by omega⟩, fun h => by have := h.2; omega⟩), rfl⟩)
      ·
        refine SeqK.off rfl rfl rfl rfl rfl rfl ?_
        refine SeqK.off rfl rfl rfl rfl rfl rfl ?_
        refine SeqK.off rfl rfl rfl rfl rfl rfl ?_
        refine SeqK.off rfl rfl rfl rfl rfl rfl ?_
        refine SeqK.q (q_pkF rfl rfl rfl) rfl rfl rfl ?_
        refine SeqK.q (q_asC rfl rfl) rfl rfl rfl ?_
        refine SeqK.nil ?_
        refine AW.ret ?_
        exact fin_x (x := .c _) (H) (.tmp rfl .nil) rfl (fun _ _ h => h) (⟨bCe (by have hU := upE hU (by omega); first | exact dF (by rintro ⟨a, b, c⟩; omega) | exact dI ⟨fun h => ⟨hU, by omega, by omega⟩, fun h => by have := h.2; omega⟩), rfl⟩)
    ·
      refine SeqK.off rfl rfl rfl rfl rfl rfl ?_
      refine SeqK.off rfl rfl rfl rfl rfl rfl ?_
      refine SeqK.off rfl rfl rfl rfl rfl rfl ?_
      refine SeqK.q (q_pkF rfl rfl rfl) rfl rfl rfl ?_
      refine SeqK.q (q_mvC rfl rfl) rfl rfl rfl ?_
      refine SeqK.off rfl rfl rfl rfl rfl rfl ?_
      refine SeqK.off rfl rfl rfl rfl rfl rfl ?_
      refine SeqK.off rfl rfl rfl rfl rfl rfl ?_
      refine SeqK.off rfl rfl rfl rfl rfl rfl ?_
      refine SeqK.q (q_pkF rfl rfl rfl) rfl rfl rfl ?_
      refine SeqK.q (q_asC rfl rfl) rfl rfl rfl ?_
      refine SeqK.nil ?_
      refine AW.ret ?_
      exact fin_x (x := .c _) (H) (.tmp rfl .nil) rfl (fun _ _ h => h) (⟨bCe (by have hU := upE hU (by omega); first | exact dF (by rintro ⟨a, b, c⟩; omega) | exact dI ⟨fun h => ⟨hU, by omega, by omega⟩, fun h => by have := h.2; omega⟩), rfl⟩)

end Go.Proofs.YtnmfjojhgfipcaaGreatDoor.W
