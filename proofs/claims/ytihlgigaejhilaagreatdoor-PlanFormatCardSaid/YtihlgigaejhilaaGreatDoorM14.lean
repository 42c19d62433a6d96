/- Parts of the proof, one after the other: Shelf, B1, W1, W2, W3, W4, W5. No condition. -/
import Derived.Test.YtihlgigaejhilaaGreatDoorM13
import Derived.Shelf.Strings.Builder1
import Derived.Shelf.Strings.Builder2
import Derived.Shelf.Strings.OnBuilder
import Derived.Shelf.Small.Bits
import Derived.Shelf.Small.Wraps
import Derived.Shelf.Strings.BuilderF
import Derived.Shelf.Strings.BuilderK
import Derived.Shelf.Utf8.RuneCount
import Derived.Shelf.Strings.Builder2Cap
import Derived.Shelf.Strconv.Itoa0
import Derived.Shelf.Strconv.Itoa1
import Derived.Shelf.LaysM
import Derived.Shelf.Strconv.Itoa2
import Derived.Shelf.Strconv.Itoa3
import Derived.Shelf.Strconv.Itoa4
import Derived.Shelf.Strings.Search1
import Derived.Shelf.Strings.Search2
import Derived.Shelf.Strings.Search3
import Derived.Shelf.Strings.Count
import Derived.Shelf.Strings.Shaped
import Derived.Shelf.Sort.Plain
import Derived.Shelf.Strings.Split
import Derived.Shelf.Strings.Replace
import Derived.Shelf.Strings.SplitShaped
import Derived.Shelf.Unicode.Decode
import Derived.Shelf.Strings.RuneCount
import Derived.Shelf.Unicode.DecodeSlow
import Derived.Shelf.Unicode.DecodeAny
import Derived.Shelf.Slices.Turned
import Derived.Shelf.Slices.SearchI
import Derived.Shelf.Slices.In.SortNone
import Derived.Test.YtihlgigaejhilaaGreatDoorProg
set_option linter.unusedSectionVars false
set_option linter.unusedSimpArgs false
set_option linter.unusedVariables false
/-
  DERIVED: THE SHELF's CONTRACTS AT THIS DUMP, IN PLAIN WORDS (tools/lay-plain.mjs out of 'TryzShelf.lean', which tools/lay-shelf.mjs wrote): THE SAME DECLARATIONS UNDER THE SAME NAMES: 'import', 'namespace', 'open', 'def', 'theorem' AND NOTHING ELSE: no command of the shelf's: FOR A HAND-IN. Each laying: the table of numbers ('.._ren') and one theorem, a field a fact of the dump's own or the kernel's comparison; each contract: ONE APPLICATION.
-/
namespace Go.Proofs
open Go.Shelf
def Tryz.lays156_ren : Go.Shelf.Ren := ⟨fun | 156 => 47 | 165 => 76 | 166 => 77 | 169 => 78 | 240 => 111 | 241 => 112 | 276 => 136 | 277 => 137 | n => n, fun | 31 => 25 | 9 => 9 | 3 => 3 | 4 => 4 | 0 => 0 | 20 => 20 | 72 => 135 | 76 => 139 | 70 => 132 | 37 => 133 | 75 => 138 | 127 => 170 | 164 => 187 | 5 => 5 | 80 => 141 | n => n, fun | n => n⟩
theorem Tryz.lays156 : Go.Proofs.Lays.n156 Tryz.prog Tryz.lays156_ren := {
  mixed := by kernel_rfl
  f156 := Tryz.func47.trans (congrArg some (by kernel_rfl))
  f165 := Tryz.func76.trans (congrArg some (by kernel_rfl))
  f166 := Tryz.func77.trans (congrArg some (by kernel_rfl))
  f169 := Tryz.func78.trans (congrArg some (by kernel_rfl))
  f240 := Tryz.func111.trans (congrArg some (by kernel_rfl))
  f241 := Tryz.func112.trans (congrArg some (by kernel_rfl))
  f276 := Tryz.func136.trans (congrArg some (by kernel_rfl))
  f277 := Tryz.func137.trans (congrArg some (by kernel_rfl))
  t0 := Tryz.underlying0
  a0 := Tryz.isAgg0
  z0 := Tryz.sizeOf0
  v0 := Tryz.zeroValue0
  t3 := Tryz.underlying3
  a3 := Tryz.isAgg3
  z3 := Tryz.sizeOf3
  v3 := Tryz.zeroValue3
  t4 := Tryz.underlying4
  a4 := Tryz.isAgg4
  z4 := Tryz.sizeOf4
  v4 := Tryz.zeroValue4
  t9 := Tryz.underlying9
  a9 := Tryz.isAgg9
  z9 := Tryz.sizeOf9
  v9 := Tryz.zeroValue9
  t20 := Tryz.underlying20
  a20 := Tryz.isAgg20
  z20 := Tryz.sizeOf20
  v20 := Tryz.zeroValue20
  t31 := Tryz.underlying25
  a31 := Tryz.isAgg25
  z31 := Tryz.sizeOf25
  v31 := Tryz.zeroValue25
  t37 := Tryz.underlying133
  a37 := Tryz.isAgg133
  z37 := Tryz.sizeOf133
  v37 := Tryz.zeroValue133
  t70 := Tryz.underlying132
  a70 := Tryz.isAgg132
  z70 := Tryz.sizeOf132
  v70 := Tryz.zeroValue132
  t72 := Tryz.underlying135
  a72 := Tryz.isAgg135
  z72 := Tryz.sizeOf135
  v72 := Tryz.zeroValue135
  t75 := Tryz.underlying138
  a75 := Tryz.isAgg138
  z75 := Tryz.sizeOf138
  v75 := Tryz.zeroValue138
  t76 := Tryz.underlying139
  a76 := Tryz.isAgg139
  z76 := Tryz.sizeOf139
  v76 := Tryz.zeroValue139
  t127 := Tryz.underlying170
  a127 := Tryz.isAgg170
  z127 := Tryz.sizeOf170
  v127 := Tryz.zeroValue170
  t164 := Tryz.underlying187
  a164 := Tryz.isAgg187
  z164 := Tryz.sizeOf187
  v164 := Tryz.zeroValue187 }
theorem Tryz.Builder_Extra_156 : Builder.Extra Tryz.prog Tryz.lays156_ren := {
  sizeBuilder := by kernel_rfl
  liesBuilder := by kernel_rfl
  t5 := Tryz.underlying5
  a5 := Tryz.isAgg5
  z5 := Tryz.sizeOf5
  v5 := Tryz.zeroValue5
  infoByte := by kernel_rfl
  cellsByte := by kernel_rfl
  sizeByte := by kernel_rfl
  neB5 := by decide }
open Go.RowKit in
/-- No element: the empty string; the world is as it was. (Whatever the slice's address and capacity: a nil slice too.) (LAID: no walk: one application.) -/
theorem Tryz.strings_Join_none (a : Option Addr) (c : Nat) (sep : ByteArray) (w : World) :
    Calls Tryz.prog 47 #[.slice a 0 c, .string sep] w fun e w' => e = .returned (.string ⟨#[]⟩) ∧ w' = w := Any.strings_Join_none Tryz.lays156 Tryz.Builder_Extra_156 a c sep w
open Go.RowKit in
/-- strings.Join: "Join concatenates the elements of its first argument to create a single string. The separator string sep is placed between elements in the resulting string.": HOWEVER MANY ELEMENTS. Below the heap's end the world is as it was. (LAID: no walk: one application.) -/
theorem Tryz.strings_Join (bk o c : Nat) (xs : List ByteArray) (sep : ByteArray) (w : World) (hcells : ∀ (j : Nat) x, xs[j]? = some x → w.cell? ⟨bk, o + j, none⟩ = some (.string x)) (hbk : bk < w.heap.size) (hN : xs.length ≤ 140737488355328) (hcap : xs.length ≤ c) (hlen : (Lib.join (xs.map (·.data.toList)) sep.data.toList).length ≤ 140737488355328) :
    Calls Tryz.prog 47 #[.slice (some ⟨bk, o, none⟩) xs.length c, .string sep] w fun e w' => e = .returned (.string ⟨(Lib.join (xs.map (·.data.toList)) sep.data.toList).toArray⟩) ∧ Below w.heap.size w w' := Any.strings_Join Tryz.lays156 Tryz.Builder_Extra_156 bk o c xs sep w hcells hbk hN hcap hlen
def Tryz.laysM173_ren : Go.Shelf.Ren := ⟨fun | 173 => 157 | 246 => 160 | 283 => 164 | 284 => 165 | 285 => 166 | 286 => 167 | 129 => 108 | 317 => 175 | 318 => 176 | 319 => 177 | 320 => 178 | 337 => 181 | 338 => 182 | n => n, fun | 2 => 2 | 3 => 3 | 9 => 9 | 4 => 4 | 171 => 204 | 0 => 0 | 53 => 169 | 37 => 133 | 5 => 5 | 173 => 206 | 212 => 211 | 51 => 167 | 20 => 20 | 213 => 212 | 46 => 130 | 232 => 219 | 233 => 220 | n => n, fun | 17 => 1 | 18 => 4 | 19 => 5 | n => n⟩
theorem Tryz.laysM173 : Go.Proofs.LaysM.n173 Tryz.prog Tryz.laysM173_ren := {
  mixed := by kernel_rfl
  f129 := Tryz.func108.trans (congrArg some (by kernel_rfl))
  f173 := Tryz.func157.trans (congrArg some (by kernel_rfl))
  f246 := Tryz.func160.trans (congrArg some (by kernel_rfl))
  f283 := Tryz.func164.trans (congrArg some (by kernel_rfl))
  f284 := Tryz.func165.trans (congrArg some (by kernel_rfl))
  f285 := Tryz.func166.trans (congrArg some (by kernel_rfl))
  f286 := Tryz.func167.trans (congrArg some (by kernel_rfl))
  f317 := Tryz.func175.trans (congrArg some (by kernel_rfl))
  f318 := Tryz.func176.trans (congrArg some (by kernel_rfl))
  f319 := Tryz.func177.trans (congrArg some (by kernel_rfl))
  f320 := Tryz.func178.trans (congrArg some (by kernel_rfl))
  f337 := Tryz.func181.trans (congrArg some (by kernel_rfl))
  f338 := Tryz.func182.trans (congrArg some (by kernel_rfl))
  t0 := Tryz.underlying0
  a0 := Tryz.isAgg0
  z0 := Tryz.sizeOf0
  v0 := Tryz.zeroValue0
  t2 := Tryz.underlying2
  a2 := Tryz.isAgg2
  z2 := Tryz.sizeOf2
  v2 := Tryz.zeroValue2
  t3 := Tryz.underlying3
  a3 := Tryz.isAgg3
  z3 := Tryz.sizeOf3
  v3 := Tryz.zeroValue3
  t4 := Tryz.underlying4
  a4 := Tryz.isAgg4
  z4 := Tryz.sizeOf4
  v4 := Tryz.zeroValue4
  t5 := Tryz.underlying5
  a5 := Tryz.isAgg5
  z5 := Tryz.sizeOf5
  v5 := Tryz.zeroValue5
  t9 := Tryz.underlying9
  a9 := Tryz.isAgg9
  z9 := Tryz.sizeOf9
  v9 := Tryz.zeroValue9
  t20 := Tryz.underlying20
  a20 := Tryz.isAgg20
  z20 := Tryz.sizeOf20
  v20 := Tryz.zeroValue20
  t37 := Tryz.underlying133
  a37 := Tryz.isAgg133
  z37 := Tryz.sizeOf133
  v37 := Tryz.zeroValue133
  t46 := Tryz.underlying130
  a46 := Tryz.isAgg130
  z46 := Tryz.sizeOf130
  v46 := Tryz.zeroValue130
  t51 := Tryz.underlying167
  a51 := Tryz.isAgg167
  z51 := Tryz.sizeOf167
  v51 := Tryz.zeroValue167
  t53 := Tryz.underlying169
  a53 := Tryz.isAgg169
  z53 := Tryz.sizeOf169
  v53 := Tryz.zeroValue169
  t171 := Tryz.underlying204
  a171 := Tryz.isAgg204
  z171 := Tryz.sizeOf204
  v171 := Tryz.zeroValue204
  t173 := Tryz.underlying206
  a173 := Tryz.isAgg206
  z173 := Tryz.sizeOf206
  v173 := Tryz.zeroValue206
  t212 := Tryz.underlying211
  a212 := Tryz.isAgg211
  z212 := Tryz.sizeOf211
  v212 := Tryz.zeroValue211
  t213 := Tryz.underlying212
  a213 := Tryz.isAgg212
  z213 := Tryz.sizeOf212
  t232 := Tryz.underlying219
  a232 := Tryz.isAgg219
  z232 := Tryz.sizeOf219
  v232 := Tryz.zeroValue219
  t233 := Tryz.underlying220
  a233 := Tryz.isAgg220
  z233 := Tryz.sizeOf220
  v233 := Tryz.zeroValue220
  g17 := by kernel_rfl
  g18 := by kernel_rfl
  g19 := by kernel_rfl
  i0 := by kernel_rfl
  i2 := by kernel_rfl
  i3 := by kernel_rfl
  i4 := by kernel_rfl
  i5 := by kernel_rfl
  i9 := by kernel_rfl
  i20 := by kernel_rfl
  i37 := by kernel_rfl
  i46 := by kernel_rfl
  i51 := by kernel_rfl
  i53 := by kernel_rfl
  i171 := by kernel_rfl
  i173 := by kernel_rfl
  i212 := by kernel_rfl
  i232 := by kernel_rfl
  i233 := by kernel_rfl
  m17 := by kernel_rfl
  m18 := by kernel_rfl
  m19 := by kernel_rfl }
open Go.RowKit Go.Sort Go.Lib in
/-- strconv.FormatInt: "FormatInt returns the string representation of i in the given base": AT BASE 10: i's decimal numeral, for every int64. (LAID: no walk: one application.) -/
theorem Tryz.strconv_FormatInt_10 (n : Int) (h0 : -9223372036854775808 ≤ n) (h1 : n ≤ 9223372036854775807) (w : World) (htab : Lib.TabIs Tryz.prog w "internal/strconv.uint64pow10" .u64 Lib.pow10Tab) :
    Calls Tryz.prog 157 #[.int .i64 n, .int .i64 10] w fun e w' => e = .returned (.string ⟨(Lib.itoa n).toArray⟩) ∧ ∃ k os, w' = grow (w.drewN k) os := Any.strconv_FormatInt_10 Tryz.laysM173 n h0 h1 w htab
def Tryz.lays144_ren : Go.Shelf.Ren := ⟨fun | 144 => 154 | 143 => 159 | 219 => 163 | 217 => 171 | 225 => 172 | 224 => 173 | 267 => 174 | 266 => 179 | 314 => 180 | n => n, fun | 9 => 9 | 4 => 4 | 3 => 3 | 5 => 5 | 46 => 130 | 146 => 217 | 51 => 167 | n => n, fun | 1 => 0 | n => n⟩
theorem Tryz.lays144 : Go.Proofs.Lays.n144 Tryz.prog Tryz.lays144_ren := {
  mixed := by kernel_rfl
  f143 := Tryz.func159.trans (congrArg some (by kernel_rfl))
  f144 := Tryz.func154.trans (congrArg some (by kernel_rfl))
  f217 := Tryz.func171.trans (congrArg some (by kernel_rfl))
  f219 := Tryz.func163.trans (congrArg some (by kernel_rfl))
  f224 := Tryz.func173.trans (congrArg some (by kernel_rfl))
  f225 := Tryz.func172.trans (congrArg some (by kernel_rfl))
  f266 := Tryz.func179.trans (congrArg some (by kernel_rfl))
  f267 := Tryz.func174.trans (congrArg some (by kernel_rfl))
  f314 := Tryz.func180.trans (congrArg some (by kernel_rfl))
  t3 := Tryz.underlying3
  a3 := Tryz.isAgg3
  z3 := Tryz.sizeOf3
  v3 := Tryz.zeroValue3
  t4 := Tryz.underlying4
  a4 := Tryz.isAgg4
  z4 := Tryz.sizeOf4
  v4 := Tryz.zeroValue4
  t5 := Tryz.underlying5
  a5 := Tryz.isAgg5
  z5 := Tryz.sizeOf5
  v5 := Tryz.zeroValue5
  t9 := Tryz.underlying9
  a9 := Tryz.isAgg9
  z9 := Tryz.sizeOf9
  v9 := Tryz.zeroValue9
  t46 := Tryz.underlying130
  a46 := Tryz.isAgg130
  z46 := Tryz.sizeOf130
  v46 := Tryz.zeroValue130
  t51 := Tryz.underlying167
  a51 := Tryz.isAgg167
  z51 := Tryz.sizeOf167
  v51 := Tryz.zeroValue167
  t146 := Tryz.underlying217
  a146 := Tryz.isAgg217
  z146 := Tryz.sizeOf217
  v146 := Tryz.zeroValue217
  g1 := by kernel_rfl }
open Go.RowKit Go.Lib in
/-- strings.Contains: "Contains reports whether substr is within s.": IT RETURNS 'Lib.contains s substr'; the world is as it was. (LAID: no walk: one application.) -/
theorem Tryz.strings_Contains (s sub : ByteArray) (m : Int) (w : World) (hs : s.size < 4294967281) (hm : w.cell? ⟨0, 0, none⟩ = some (.int .i64 m)) :
    Calls Tryz.prog 154 #[.string s, .string sub] w fun e w' => e = .returned (.bool (Lib.contains s.data.toList sub.data.toList)) ∧ w' = w := Any.strings_Contains Tryz.lays144 s sub m w hs hm
def Tryz.lays189_ren : Go.Shelf.Ren := ⟨fun | 189 => 40 | 125 => 72 | 257 => 71 | 128 => 107 | 129 => 108 | 294 => 98 | 295 => 99 | 296 => 100 | 297 => 101 | 298 => 102 | 299 => 103 | 216 => 104 | 300 => 105 | 301 => 106 | 328 => 126 | 329 => 127 | 330 => 128 | 331 => 129 | 332 => 130 | 215 => 131 | 343 => 141 | n => n, fun | 28 => 24 | 3 => 3 | 46 => 130 | 0 => 0 | 51 => 167 | 53 => 169 | 4 => 4 | 183 => 160 | 182 => 159 | 131 => 146 | 5 => 5 | 9 => 9 | 218 => 180 | 222 => 184 | 228 => 191 | 229 => 192 | n => n, fun | n => n⟩
theorem Tryz.lays189 : Go.Proofs.Lays.n189 Tryz.prog Tryz.lays189_ren := {
  mixed := by kernel_rfl
  f125 := Tryz.func72.trans (congrArg some (by kernel_rfl))
  f128 := Tryz.func107.trans (congrArg some (by kernel_rfl))
  f129 := Tryz.func108.trans (congrArg some (by kernel_rfl))
  f189 := Tryz.func40.trans (congrArg some (by kernel_rfl))
  f215 := Tryz.func131.trans (congrArg some (by kernel_rfl))
  f216 := Tryz.func104.trans (congrArg some (by kernel_rfl))
  f257 := Tryz.func71.trans (congrArg some (by kernel_rfl))
  f294 := Tryz.func98.trans (congrArg some (by kernel_rfl))
  f295 := Tryz.func99.trans (congrArg some (by kernel_rfl))
  f296 := Tryz.func100.trans (congrArg some (by kernel_rfl))
  f297 := Tryz.func101.trans (congrArg some (by kernel_rfl))
  f298 := Tryz.func102.trans (congrArg some (by kernel_rfl))
  f299 := Tryz.func103.trans (congrArg some (by kernel_rfl))
  f300 := Tryz.func105.trans (congrArg some (by kernel_rfl))
  f301 := Tryz.func106.trans (congrArg some (by kernel_rfl))
  f328 := Tryz.func126.trans (congrArg some (by kernel_rfl))
  f329 := Tryz.func127.trans (congrArg some (by kernel_rfl))
  f330 := Tryz.func128.trans (congrArg some (by kernel_rfl))
  f331 := Tryz.func129.trans (congrArg some (by kernel_rfl))
  f332 := Tryz.func130.trans (congrArg some (by kernel_rfl))
  f343 := Tryz.func141.trans (congrArg some (by kernel_rfl))
  t0 := Tryz.underlying0
  a0 := Tryz.isAgg0
  z0 := Tryz.sizeOf0
  v0 := Tryz.zeroValue0
  t3 := Tryz.underlying3
  a3 := Tryz.isAgg3
  z3 := Tryz.sizeOf3
  v3 := Tryz.zeroValue3
  t4 := Tryz.underlying4
  a4 := Tryz.isAgg4
  z4 := Tryz.sizeOf4
  v4 := Tryz.zeroValue4
  t5 := Tryz.underlying5
  a5 := Tryz.isAgg5
  z5 := Tryz.sizeOf5
  v5 := Tryz.zeroValue5
  t9 := Tryz.underlying9
  a9 := Tryz.isAgg9
  z9 := Tryz.sizeOf9
  v9 := Tryz.zeroValue9
  t28 := Tryz.underlying24
  a28 := Tryz.isAgg24
  z28 := Tryz.sizeOf24
  v28 := Tryz.zeroValue24
  t46 := Tryz.underlying130
  a46 := Tryz.isAgg130
  z46 := Tryz.sizeOf130
  v46 := Tryz.zeroValue130
  t51 := Tryz.underlying167
  a51 := Tryz.isAgg167
  z51 := Tryz.sizeOf167
  v51 := Tryz.zeroValue167
  t53 := Tryz.underlying169
  a53 := Tryz.isAgg169
  z53 := Tryz.sizeOf169
  v53 := Tryz.zeroValue169
  t131 := Tryz.underlying146
  a131 := Tryz.isAgg146
  z131 := Tryz.sizeOf146
  v131 := Tryz.zeroValue146
  t182 := Tryz.underlying159
  a182 := Tryz.isAgg159
  z182 := Tryz.sizeOf159
  v182 := Tryz.zeroValue159
  t183 := Tryz.underlying160
  a183 := Tryz.isAgg160
  z183 := Tryz.sizeOf160
  v183 := Tryz.zeroValue160
  t218 := Tryz.underlying180
  a218 := Tryz.isAgg180
  z218 := Tryz.sizeOf180
  v218 := Tryz.zeroValue180
  t222 := Tryz.underlying184
  a222 := Tryz.isAgg184
  z222 := Tryz.sizeOf184
  v222 := Tryz.zeroValue184
  t228 := Tryz.underlying191
  a228 := Tryz.isAgg191
  z228 := Tryz.sizeOf191
  v228 := Tryz.zeroValue191
  t229 := Tryz.underlying192
  a229 := Tryz.isAgg192
  z229 := Tryz.sizeOf192
  v229 := Tryz.zeroValue192 }
open Go.Sort Go.RowKit in
theorem Tryz.slices_Sort_int (blk off cap : Nat) (zs : List Int) (w : World) (hH : Holds (Value.int .i64) w blk off zs.toArray) (hblk : blk < w.heap.size) (hsz : zs.length < 4611686018427387904) :
    Calls Tryz.prog 40 #[.slice (some ⟨blk, off, none⟩) zs.length cap] w fun e w' =>
      e = .returned (.tuple #[]) ∧ ∃ n os, w' = grow (putRow (Value.int .i64) (Sort.ahead w n) blk off (zs.mergeSort fun x y => decide (x ≤ y)).toArray) os := Any.slices_Sort_int Tryz.lays189 blk off cap zs w hH hblk hsz
def Tryz.lays155_ren : Go.Shelf.Ren := ⟨fun | 155 => 150 | 154 => 158 | 138 => 161 | 165 => 76 | 143 => 159 | 166 => 77 | 197 => 162 | 169 => 78 | 195 => 168 | 218 => 169 | 240 => 111 | 241 => 112 | 219 => 163 | 260 => 170 | 276 => 136 | 277 => 137 | 217 => 171 | 225 => 172 | 224 => 173 | 267 => 174 | 266 => 179 | 314 => 180 | n => n, fun | 9 => 9 | 3 => 3 | 4 => 4 | 72 => 135 | 0 => 0 | 76 => 139 | 105 => 202 | 21 => 21 | 5 => 5 | 70 => 132 | 20 => 20 | 37 => 133 | 75 => 138 | 127 => 170 | 164 => 187 | 46 => 130 | 119 => 213 | 139 => 216 | 138 => 215 | 146 => 217 | 51 => 167 | 80 => 141 | n => n, fun | 1 => 0 | 3 => 2 | 4 => 3 | n => n⟩
theorem Tryz.lays155 : Go.Proofs.Lays.n155 Tryz.prog Tryz.lays155_ren := {
  mixed := by kernel_rfl
  f138 := Tryz.func161.trans (congrArg some (by kernel_rfl))
  f143 := Tryz.func159.trans (congrArg some (by kernel_rfl))
  f154 := Tryz.func158.trans (congrArg some (by kernel_rfl))
  f155 := Tryz.func150.trans (congrArg some (by kernel_rfl))
  f165 := Tryz.func76.trans (congrArg some (by kernel_rfl))
  f166 := Tryz.func77.trans (congrArg some (by kernel_rfl))
  f169 := Tryz.func78.trans (congrArg some (by kernel_rfl))
  f195 := Tryz.func168.trans (congrArg some (by kernel_rfl))
  f197 := Tryz.func162.trans (congrArg some (by kernel_rfl))
  f217 := Tryz.func171.trans (congrArg some (by kernel_rfl))
  f218 := Tryz.func169.trans (congrArg some (by kernel_rfl))
  f219 := Tryz.func163.trans (congrArg some (by kernel_rfl))
  f224 := Tryz.func173.trans (congrArg some (by kernel_rfl))
  f225 := Tryz.func172.trans (congrArg some (by kernel_rfl))
  f240 := Tryz.func111.trans (congrArg some (by kernel_rfl))
  f241 := Tryz.func112.trans (congrArg some (by kernel_rfl))
  f260 := Tryz.func170.trans (congrArg some (by kernel_rfl))
  f266 := Tryz.func179.trans (congrArg some (by kernel_rfl))
  f267 := Tryz.func174.trans (congrArg some (by kernel_rfl))
  f276 := Tryz.func136.trans (congrArg some (by kernel_rfl))
  f277 := Tryz.func137.trans (congrArg some (by kernel_rfl))
  f314 := Tryz.func180.trans (congrArg some (by kernel_rfl))
  t0 := Tryz.underlying0
  a0 := Tryz.isAgg0
  z0 := Tryz.sizeOf0
  v0 := Tryz.zeroValue0
  t3 := Tryz.underlying3
  a3 := Tryz.isAgg3
  z3 := Tryz.sizeOf3
  v3 := Tryz.zeroValue3
  t4 := Tryz.underlying4
  a4 := Tryz.isAgg4
  z4 := Tryz.sizeOf4
  v4 := Tryz.zeroValue4
  t5 := Tryz.underlying5
  a5 := Tryz.isAgg5
  z5 := Tryz.sizeOf5
  v5 := Tryz.zeroValue5
  t9 := Tryz.underlying9
  a9 := Tryz.isAgg9
  z9 := Tryz.sizeOf9
  v9 := Tryz.zeroValue9
  t20 := Tryz.underlying20
  a20 := Tryz.isAgg20
  z20 := Tryz.sizeOf20
  v20 := Tryz.zeroValue20
  t21 := Tryz.underlying21
  a21 := Tryz.isAgg21
  z21 := Tryz.sizeOf21
  v21 := Tryz.zeroValue21
  t37 := Tryz.underlying133
  a37 := Tryz.isAgg133
  z37 := Tryz.sizeOf133
  v37 := Tryz.zeroValue133
  t46 := Tryz.underlying130
  a46 := Tryz.isAgg130
  z46 := Tryz.sizeOf130
  v46 := Tryz.zeroValue130
  t51 := Tryz.underlying167
  a51 := Tryz.isAgg167
  z51 := Tryz.sizeOf167
  v51 := Tryz.zeroValue167
  t70 := Tryz.underlying132
  a70 := Tryz.isAgg132
  z70 := Tryz.sizeOf132
  v70 := Tryz.zeroValue132
  t72 := Tryz.underlying135
  a72 := Tryz.isAgg135
  z72 := Tryz.sizeOf135
  v72 := Tryz.zeroValue135
  t75 := Tryz.underlying138
  a75 := Tryz.isAgg138
  z75 := Tryz.sizeOf138
  v75 := Tryz.zeroValue138
  t76 := Tryz.underlying139
  a76 := Tryz.isAgg139
  z76 := Tryz.sizeOf139
  v76 := Tryz.zeroValue139
  t105 := Tryz.underlying202
  a105 := Tryz.isAgg202
  z105 := Tryz.sizeOf202
  v105 := Tryz.zeroValue202
  t119 := Tryz.underlying213
  a119 := Tryz.isAgg213
  z119 := Tryz.sizeOf213
  t127 := Tryz.underlying170
  a127 := Tryz.isAgg170
  z127 := Tryz.sizeOf170
  v127 := Tryz.zeroValue170
  t138 := Tryz.underlying215
  a138 := Tryz.isAgg215
  z138 := Tryz.sizeOf215
  v138 := Tryz.zeroValue215
  t139 := Tryz.underlying216
  a139 := Tryz.isAgg216
  z139 := Tryz.sizeOf216
  v139 := Tryz.zeroValue216
  t146 := Tryz.underlying217
  a146 := Tryz.isAgg217
  z146 := Tryz.sizeOf217
  v146 := Tryz.zeroValue217
  t164 := Tryz.underlying187
  a164 := Tryz.isAgg187
  z164 := Tryz.sizeOf187
  v164 := Tryz.zeroValue187
  g1 := by kernel_rfl
  g3 := by kernel_rfl
  g4 := by kernel_rfl }
theorem Tryz.Builder_Extra_155 : Builder.Extra Tryz.prog Tryz.lays155_ren := {
  sizeBuilder := by kernel_rfl
  liesBuilder := by kernel_rfl
  t5 := Tryz.underlying5
  a5 := Tryz.isAgg5
  z5 := Tryz.sizeOf5
  v5 := Tryz.zeroValue5
  infoByte := by kernel_rfl
  cellsByte := by kernel_rfl
  sizeByte := by kernel_rfl
  neB5 := by decide }
open Go.RowKit Go.Lib in
/-- strings.ReplaceAll: "ReplaceAll returns a copy of the string s with all non-overlapping instances of old replaced by new.": AT AN old THAT IS NOT EMPTY: 'Lib.replaceAll s old new'. (LAID: no walk: one application.) -/
theorem Tryz.strings_ReplaceAll (s old new : ByteArray) (m : Int) (w : World) (hs : s.size < 4294967281) (hm : w.cell? ⟨0, 0, none⟩ = some (.int .i64 m)) (h1 : 1 ≤ old.size) (hlen : s.size + Lib.countB s old * new.size ≤ 140737488355328) :
    Calls Tryz.prog 150 #[.string s, .string old, .string new] w fun e w' =>
      e = .returned (.string ⟨(Lib.replaceAll s.data.toList old.data.toList new.data.toList).toArray⟩) ∧ Below w.heap.size w w' := Any.strings_ReplaceAll Tryz.lays155 Tryz.Builder_Extra_155 s old new m w hs hm h1 hlen
open Go.RowKit Go.Sort in
/-- .. and plain. (LAID: no walk: one application.) -/
theorem Tryz.slices_Sort_int_none (p : Option Addr) (cap : Nat) (w : World) :
    Calls Tryz.prog 40 #[.slice p 0 cap] w fun e w' => e = .returned (.tuple #[]) ∧ w' = w := Any.slices_Sort_int_none Tryz.lays189 p cap w
end Go.Proofs
/- Expressions, tables, plans as trees. -/
namespace Go.Proofs.YtihlgigaejhilaaGreatDoor.E
open Go.RowKit
section
variable {P : Program} {all : Array Oper} {o : Oper} {K : S → Prop} {rest : List Oper} {n d : Nat} {t : Nat → X} {L : Nat → Option AO} {H : Heap} {cd : Code} {Q : Exit → S → Prop} {s : S}
theorem sM {y : Operand} {z : C} (k : SeqK P all K rest ⟨n, upd t d (.c z), L, H⟩) (ho : o.op = .move y := by exact rfl) (hy : S.eval ⟨n, t, L, H⟩ y = .c z := by exact rfl) (hg : o.guard = none := by exact rfl) (hdst : o.dst = some d := by exact rfl) (hd : Nat.blt d n = true := by exact rfl) : SeqK P all K (o :: rest) ⟨n, t, L, H⟩ := SeqK.q (q_mvC ho hy) hg hdst hd k
theorem sA {y : Operand} {z : C} (k : SeqK P all K rest ⟨n, upd t d (.c z), L, H⟩) (ho : o.op = .assign y := by exact rfl) (hy : S.eval ⟨n, t, L, H⟩ y = .c z := by exact rfl) (hg : o.guard = none := by exact rfl) (hdst : o.dst = some d := by exact rfl) (hd : Nat.blt d n = true := by exact rfl) : SeqK P all K (o :: rest) ⟨n, t, L, H⟩ := SeqK.q (q_asC ho hy) hg hdst hd k
theorem sR {id : Nat} {l : List Oper} (h : SeqK P l.toArray ((Eth (AW P cd Q) Q) .normal) l s) : AW P (.seq (.region id l.toArray false) cd) Q s := AW.seq (AW.reg h)
end
section
variable {P : Program} {Q : X → Heap → Prop} {all : Array Oper} {K : S → Prop} {o : Oper} {n d : Nat} {t : Nat → X} {L : Nat → Option AO} {H : Heap}
theorem sB {y : Operand} {z : C} (k : K ⟨n, upd t d (.c z), L, H⟩) (ho : o.op = .assign y := by exact rfl) (hy : S.eval ⟨n, t, L, H⟩ y = .c z := by exact rfl) (hg : o.guard = none := by exact rfl) (hdst : o.dst = some d := by exact rfl) (hd : Nat.blt d n = true := by exact rfl) : SeqK P all K [o] ⟨n, t, L, H⟩ := sA (SeqK.nil k) ho hy hg hdst hd
theorem f1 {s : S} {fn : Func} {z : C} (h : Res P s fn.results.toList [z] := by exact .tmp rfl .nil) (q : Q (.c z) s.H) : Fin P fn Q .ret s := fin_x (x := .c _) s.H h rfl (fun _ _ h => h) q
end
end Go.Proofs.YtihlgigaejhilaaGreatDoor.E
namespace Go.Proofs.YtihlgigaejhilaaGreatDoor.E
open Go.RowKit
section
variable {v0 : Program} {v1 : Array Oper} {v2 : Oper} {v3 : S → Prop} {v4 : List Oper} {v5 v6 v10 v15 v16 v18 v19 v30 v31 v42 : Nat} {v7 : Nat → X} {v8 : Nat → Option AO} {v9 : Heap} {v11 : A} {v12 v22 : TypeId} {v13 v23 v28 : Operand} {v14 v29 : Bool} {v17 v50 : List A} {v20 : IntKind} {v21 v24 v25 : Int} {v26 : S} {v27 : C} {v32 : List T} {v33 : Nz} {v34 : List (List T)} {v35 : List Fp} {v36 : Prop} {v37 : X} {v38 : FuncId} {v39 : Array Operand} {v40 : Array TypeId} {v41 : List C} {v43 : Value} {v44 : List Nat} {v45 : List Hi} {v46 : Array (Nat × Operand)} {v47 : List (Nat × List A)} {v48 : UInt8} {v49 : ByteArray}
theorem Z0 (a2 : tyB v0 v12 v14 v15 = true) (k10 : SeqK v0 v1 v3 v4 (S.mk v6 (upd v7 v10 (X.c (C.a v11))) v8 v9)) (h1 : v2.op = Op.load v12 v13 := by exact rfl) (h3 : (S.mk v6 v7 v8 v9).eval v13 = X.lp v5 v16 := by exact rfl) (h4 : v8 v5 = some (AO.box v17) := by exact rfl) (h5 : mkC v14 (List.take v15 (List.drop v16 v17)) = C.a v11 := by exact rfl) (h6 : (v16 + v15).ble v17.length = true := by exact rfl) (h7 : v2.dst = some v10 := by exact rfl) (h8 : v10.blt v6 = true := by exact rfl) (h9 : v2.guard = none := by exact rfl) : SeqK v0 v1 v3 (v2 :: v4) (S.mk v6 v7 v8 v9) := SeqK.r (b_load (r := .a _) h1 a2 h3 h4 h5 h6 h7 h8) h9 k10
theorem Z1 (a2 : fldB v0 v12 v16 v18 = true) (k8 : SeqK v0 v1 v3 v4 (S.mk v5 (upd v7 v6 (X.lp v10 v15)) v8 v9)) (h1 : v2.op = Op.fieldAddr v12 v13 v16 := by exact rfl) (h3 : (S.mk v5 v7 v8 v9).eval v13 = X.lp v10 v19 := by exact rfl) (h4 : v19 + v18 = v15 := by exact rfl) (h5 : v2.guard = none := by exact rfl) (h6 : v2.dst = some v6 := by exact rfl) (h7 : v6.blt v5 = true := by exact rfl) : SeqK v0 v1 v3 (v2 :: v4) (S.mk v5 v7 v8 v9) := SeqK.q (q_fieldL _ h1 a2 h3 h4) h5 h6 h7 k8
theorem Z2 (k8 : SeqK v0 v1 v3 v4 (S.mk v5 (upd v7 v6 (iX v20 v21)) v8 v9)) (h1 : v2.op = Op.binOp BinOp.add v12 v13 v23 v22 := by exact rfl) (h2 : (S.mk v5 v7 v8 v9).eval v13 = iX v20 v24 := by exact rfl) (h3 : (S.mk v5 v7 v8 v9).eval v23 = iX v20 v25 := by exact rfl) (h4 : v20.wrap (v24 + v25) = v21 := by exact w64 (by omega) (by omega)) (h5 : v2.guard = none := by exact rfl) (h6 : v2.dst = some v6 := by exact rfl) (h7 : v6.blt v5 = true := by exact rfl) : SeqK v0 v1 v3 (v2 :: v4) (S.mk v5 v7 v8 v9) := SeqK.q (q_add _ h1 h2 h3 h4) h5 h6 h7 k8
theorem Z3 (k1 : v3 v26) : SeqK v0 v1 v3 [] v26 := SeqK.nil k1
theorem Z4 (k7 : SeqK v0 v1 v3 v4 (S.mk v5 (upd v7 v6 (X.c v27)) v8 v9)) (h1 : v2.op = Op.pick v13 v23 v28 := by exact rfl) (h2 : (S.mk v5 v7 v8 v9).eval v13 = bX true := by exact rfl) (h3 : (S.mk v5 v7 v8 v9).eval v23 = X.c v27 := by exact rfl) (h4 : v2.guard = none := by exact rfl) (h5 : v2.dst = some v6 := by exact rfl) (h6 : v6.blt v5 = true := by exact rfl) : SeqK v0 v1 v3 (v2 :: v4) (S.mk v5 v7 v8 v9) := SeqK.q (q_pkT h1 h2 h3) h4 h5 h6 k7
theorem Z5 (a2 : tyB v0 v12 v29 v18 = true) (k12 : SeqK v0 v1 v3 v4 (S.mk v6 (upd v7 v10 (X.c (C.a v11))) v8 v9)) (h1 : v2.op = Op.load v12 v13 := by exact rfl) (h3 : (S.mk v6 v7 v8 v9).eval v13 = X.lp v5 v19 := by exact rfl) (h4 : v8 v5 = some (AO.box v17) := by exact rfl) (h5 : mkC v29 (List.take v18 (List.drop v19 v17)) = C.a v11 := by exact rfl) (h6 : (v19 + v18).ble v17.length = true := by exact rfl) (h7 : v2.dst = some v10 := by exact rfl) (h8 : v10.blt v6 = true := by exact rfl) (h9 : v2.guard = some (v15, v14) := by exact rfl) (h10 : (v1[v15]?.bind fun x ↦ x.dst) = some v16 := by exact rfl) (h11 : v7 v16 = tv (Value.bool v14) := by exact rfl) : SeqK v0 v1 v3 (v2 :: v4) (S.mk v6 v7 v8 v9) := SeqK.rOn (b_load (r := .a _) h1 a2 h3 h4 h5 h6 h7 h8) h9 h10 h11 k12
theorem Z6 (a2 : fldB v0 v12 v19 v30 = true) (k10 : SeqK v0 v1 v3 v4 (S.mk v5 (upd v7 v6 (X.lp v10 v15)) v8 v9)) (h1 : v2.op = Op.fieldAddr v12 v13 v19 := by exact rfl) (h3 : (S.mk v5 v7 v8 v9).eval v13 = X.lp v10 v31 := by exact rfl) (h4 : v31 + v30 = v15 := by exact rfl) (h5 : v2.guard = some (v16, v14) := by exact rfl) (h6 : (v1[v16]?.bind fun x ↦ x.dst) = some v18 := by exact rfl) (h7 : v7 v18 = tv (Value.bool v14) := by exact rfl) (h8 : v2.dst = some v6 := by exact rfl) (h9 : v6.blt v5 = true := by exact rfl) : SeqK v0 v1 v3 (v2 :: v4) (S.mk v5 v7 v8 v9) := SeqK.on (q_fieldL _ h1 a2 h3 h4) h5 h6 h7 h8 h9 k10
theorem Z7 (k7 : SeqK v0 v1 v3 v4 (S.mk v5 (upd v7 v6 (X.c v27)) v8 v9)) (h1 : v2.op = Op.pick v13 v23 v28 := by exact rfl) (h2 : (S.mk v5 v7 v8 v9).eval v13 = bX false := by exact rfl) (h3 : (S.mk v5 v7 v8 v9).eval v28 = X.c v27 := by exact rfl) (h4 : v2.guard = none := by exact rfl) (h5 : v2.dst = some v6 := by exact rfl) (h6 : v6.blt v5 = true := by exact rfl) : SeqK v0 v1 v3 (v2 :: v4) (S.mk v5 v7 v8 v9) := SeqK.q (q_pkF h1 h2 h3) h4 h5 h6 k7
theorem Z8 (k7 : SeqK v0 v1 v3 v4 (S.mk v5 (upd v7 v6 (bX (decide (v21 = v24)))) v8 v9)) (h1 : v2.op = Op.binOp BinOp.eql v12 v13 v23 v22 := by exact rfl) (h2 : (S.mk v5 v7 v8 v9).eval v13 = iX v20 v21 := by exact rfl) (h3 : (S.mk v5 v7 v8 v9).eval v23 = iX v20 v24 := by exact rfl) (h4 : v2.guard = none := by exact rfl) (h5 : v2.dst = some v6 := by exact rfl) (h6 : v6.blt v5 = true := by exact rfl) : SeqK v0 v1 v3 (v2 :: v4) (S.mk v5 v7 v8 v9) := SeqK.q (q_eql h1 h2 h3) h4 h5 h6 k7
theorem Z9 (a2 : slB v0 v12 v22 v10 = true) (a6 : v34[v21.toNat]? = some v32) (k10 : SeqK v0 v1 v3 v4 (S.mk v5 (upd v7 v6 (X.pc v32)) v8 v9)) (h1 : v2.op = Op.indexAddr v12 v13 v23 := by exact rfl) (h3 : (S.mk v5 v7 v8 v9).eval v13 = X.c (C.a (A.t (T.sl v33 v10 v34))) := by exact rfl) (h4 : (S.mk v5 v7 v8 v9).eval v23 = iX v20 v21 := by exact rfl) (h5 : 0 ≤ v21 := by omega) (h7 : v2.guard = none := by exact rfl) (h8 : v2.dst = some v6 := by exact rfl) (h9 : v6.blt v5 = true := by exact rfl) : SeqK v0 v1 v3 (v2 :: v4) (S.mk v5 v7 v8 v9) := SeqK.q (q_index _ h1 a2 h3 h4 h5 a6) h7 h8 h9 k10
theorem Z10 (k7 : SeqK v0 v1 v3 v4 (S.mk v5 (upd v7 v6 (bX (decide (v21 < v24)))) v8 v9)) (h1 : v2.op = Op.binOp BinOp.lss v12 v13 v23 v22 := by exact rfl) (h2 : (S.mk v5 v7 v8 v9).eval v13 = iX v20 v21 := by exact rfl) (h3 : (S.mk v5 v7 v8 v9).eval v23 = iX v20 v24 := by exact rfl) (h4 : v2.guard = none := by exact rfl) (h5 : v2.dst = some v6 := by exact rfl) (h6 : v6.blt v5 = true := by exact rfl) : SeqK v0 v1 v3 (v2 :: v4) (S.mk v5 v7 v8 v9) := SeqK.q (q_lss h1 h2 h3) h4 h5 h6 k7
theorem Z11 (a1 : C) (a3 : tyB v0 v12 v14 v10 = true) (k10 : SeqK v0 v1 v3 v4 (S.mk v5 (upd v7 v6 (X.c a1)) v8 v9)) (h2 : v2.op = Op.load v12 v13 := by exact rfl) (h4 : (S.mk v5 v7 v8 v9).eval v13 = X.pc v32 := by exact rfl) (h5 : mkC v14 (List.map A.t (List.take v10 v32)) = a1 := by exact rfl) (h6 : v10.ble v32.length = true := by exact rfl) (h7 : v2.guard = none := by exact rfl) (h8 : v2.dst = some v6 := by exact rfl) (h9 : v6.blt v5 = true := by exact rfl) : SeqK v0 v1 v3 (v2 :: v4) (S.mk v5 v7 v8 v9) := SeqK.q (q_load a1 h2 a3 h4 h5 h6) h7 h8 h9 k10
theorem Z12 {r : C} (a3 : tyB v0 v12 v14 v15 = true) (k11 : SeqK v0 v1 v3 v4 (S.mk v6 (upd v7 v10 (X.c r)) v8 v9)) (h2 : v2.op = Op.load v12 v13 := by exact rfl) (h4 : (S.mk v6 v7 v8 v9).eval v13 = X.lp v5 v16 := by exact rfl) (h5 : v8 v5 = some (AO.box v17) := by exact rfl) (h6 : mkC v14 (List.take v15 (List.drop v16 v17)) = r := by exact rfl) (h7 : (v16 + v15).ble v17.length = true := by exact rfl) (h8 : v2.dst = some v10 := by exact rfl) (h9 : v10.blt v6 = true := by exact rfl) (h10 : v2.guard = none := by exact rfl) : SeqK v0 v1 v3 (v2 :: v4) (S.mk v6 v7 v8 v9) := SeqK.r (b_load (r := r) h2 a3 h4 h5 h6 h7 h8 h9) h10 k11
theorem Z13 (k8 : SeqK v0 v1 v3 v4 (S.mk v5 (upd v7 v6 (X.c v27)) v8 v9)) (h1 : v2.op = Op.move v13 := by exact rfl) (h2 : (S.mk v5 v7 v8 v9).eval v13 = X.c v27 := by exact rfl) (h3 : v2.guard = some (v10, v14) := by exact rfl) (h4 : (v1[v10]?.bind fun x ↦ x.dst) = some v15 := by exact rfl) (h5 : v7 v15 = tv (Value.bool v14) := by exact rfl) (h6 : v2.dst = some v6 := by exact rfl) (h7 : v6.blt v5 = true := by exact rfl) : SeqK v0 v1 v3 (v2 :: v4) (S.mk v5 v7 v8 v9) := SeqK.on (q_mvC h1 h2) h3 h4 h5 h6 h7 k8
theorem Z14 (a2 : v0.underlying v12 = some (TypeDesc.slice v22)) (k7 : SeqK v0 v1 v3 v4 (S.mk v5 (upd v7 v6 (iX IntKind.i64 ↑v34.length)) v8 v9)) (h1 : v2.op = Op.call { callee := Callee.builtin Builtin.len, args := #[v13], argTypes := #[v12] } := by exact rfl) (h3 : (S.mk v5 v7 v8 v9).eval v13 = X.c (C.a (A.t (T.sl v33 v10 v34))) := by exact rfl) (h4 : v2.guard = none := by exact rfl) (h5 : v2.dst = some v6 := by exact rfl) (h6 : v6.blt v5 = true := by exact rfl) : SeqK v0 v1 v3 (v2 :: v4) (S.mk v5 v7 v8 v9) := SeqK.q (q_len h1 a2 h3) h4 h5 h6 k7
theorem Z15 {r : List A} (a4 : tyB v0 v12 v14 v10 = true) (k12 : SeqK v0 v1 v3 v4 (S.mk v6 v7 (upd v8 v5 (some (AO.box r))) v9)) (h2 : v2.op = Op.store v12 v13 v23 := by exact rfl) (h3 : v2.dst = none := by exact rfl) (h5 : (S.mk v6 v7 v8 v9).eval v13 = X.lp v5 v15 := by exact rfl) (h6 : (S.mk v6 v7 v8 v9).eval v23 = X.c v27 := by exact rfl) (h7 : v8 v5 = some (AO.box v17) := by exact rfl) (h8 : splice v17 v15 v27.cells = r := by exact rfl) (h9 : v27.cells.length = v10 := by exact rfl) (h10 : (v15 + v10).ble v17.length = true := by exact rfl) (h11 : v2.guard = none := by exact rfl) : SeqK v0 v1 v3 (v2 :: v4) (S.mk v6 v7 v8 v9) := SeqK.r (b_store (r := r) h2 h3 a4 h5 h6 h7 h8 h9 h10) h11 k12
theorem Z16 {r : List A} (k9 : SeqK v0 v1 v3 v4 (S.mk v6 (upd v7 v5 (X.lp v5 0)) (upd v8 v5 (some (AO.box r))) v9)) (h2 : v2.op = Op.box v12 v13 := by exact rfl) (h3 : v2.dst = some v5 := by exact rfl) (h4 : (S.mk v6 v7 v8 v9).eval v13 = X.c v27 := by exact rfl) (h5 : v27.cells = r := by exact rfl) (h6 : v8 v5 = none := by exact rfl) (h7 : v5.blt v6 = true := by exact rfl) (h8 : v2.guard = none := by exact rfl) : SeqK v0 v1 v3 (v2 :: v4) (S.mk v6 v7 v8 v9) := SeqK.r (b_box (r := r) h2 h3 h4 h5 h6 h7) h8 k9
theorem Z17 (a2 : tyB v0 v12 v14 v10 = true) (k10 : SeqK v0 v1 v3 v4 (S.mk v5 (upd v7 v6 (X.c (C.a v11))) v8 v9)) (h1 : v2.op = Op.load v12 v13 := by exact rfl) (h3 : (S.mk v5 v7 v8 v9).eval v13 = X.c (C.a (A.bp v15 v16)) := by exact rfl) (h4 : v9 v15 = some (AO.box v17) := by (repeat rw [upd_ne _ _ (by first | assumption | exact Ne.symm (by assumption))]); first | assumption | exact upd_same _ _ _) (h5 : mkC v14 (List.take v10 (List.drop v16 v17)) = C.a v11 := by exact rfl) (h6 : (v16 + v10).ble v17.length = true := by exact rfl) (h7 : v2.dst = some v6 := by exact rfl) (h8 : v6.blt v5 = true := by exact rfl) (h9 : v2.guard = none := by exact rfl) : SeqK v0 v1 v3 (v2 :: v4) (S.mk v5 v7 v8 v9) := SeqK.r (g_load (r := .a _) h1 a2 h3 h4 h5 h6 h7 h8) h9 k10
theorem Z18 (k6 : LexK v0 v1 v3 v4 (S.mk v6 (upd v7 v10 (X.c v27)) v8 v9) v5 (v35 ++ [(lookT v1 v2, dstT v2)])) (h1 : v2.op = Op.move v13 := by exact rfl) (h2 : (S.mk v6 v7 v8 v9).eval v13 = X.c v27 := by exact rfl) (h3 : v2.guard = none := by exact rfl) (h4 : v2.dst = some v10 := by exact rfl) (h5 : v10.blt v6 = true := by exact rfl) : LexK v0 v1 v3 (v2 :: v4) (S.mk v6 v7 v8 v9) v5 v35 := LexK.q (q_mvC h1 h2) h3 h4 h5 k6
theorem Z19 {v11' : Decidable v36} (a6 : v36 → SeqK v0 v1 v3 v4 (S.mk v5 (upd v7 v6 (bX true)) v8 v9)) (a7 : ¬v36 → SeqK v0 v1 v3 v4 (S.mk v5 (upd v7 v6 (bX false)) v8 v9)) (h1 : v2.op = Op.move v13 := by exact rfl) (h2 : (S.mk v5 v7 v8 v9).eval v13 = X.c (C.a (A.t (T.v (Value.bool (decide v36))))) := by exact rfl) (h3 : v2.guard = none := by exact rfl) (h4 : v2.dst = some v6 := by exact rfl) (h5 : v6.blt v5 = true := by exact rfl) : SeqK v0 v1 v3 (v2 :: v4) (S.mk v5 v7 v8 v9) := SeqK.qD (q_mvC h1 h2) h3 h4 h5 a6 a7
theorem Z20 (a2 : tyB v0 v12 v14 v16 = true) (k10 : LexK v0 v1 v3 v4 (S.mk v10 (upd v7 v15 (X.c (C.a v11))) v8 v9) v5 (v35 ++ [(Loc.b v6 :: lk v2, dstT v2)])) (h1 : v2.op = Op.load v12 v13 := by exact rfl) (h3 : (S.mk v10 v7 v8 v9).eval v13 = X.lp v6 v18 := by exact rfl) (h4 : v8 v6 = some (AO.box v17) := by exact rfl) (h5 : mkC v14 (List.take v16 (List.drop v18 v17)) = C.a v11 := by exact rfl) (h6 : (v18 + v16).ble v17.length = true := by exact rfl) (h7 : v2.dst = some v15 := by exact rfl) (h8 : v15.blt v10 = true := by exact rfl) (h9 : v2.guard = none := by exact rfl) : LexK v0 v1 v3 (v2 :: v4) (S.mk v10 v7 v8 v9) v5 v35 := LexK.r (b_load (r := .a _) h1 a2 h3 h4 h5 h6 h7 h8) h9 k10
theorem Z21 (a2 : tyB v0 v12 v29 v19 = true) (k12 : LexK v0 v1 v3 v4 (S.mk v10 (upd v7 v15 (X.c (C.a v11))) v8 v9) v5 (v35 ++ [(Loc.t v18 :: Loc.b v6 :: lk v2, dstT v2)])) (h1 : v2.op = Op.load v12 v13 := by exact rfl) (h3 : (S.mk v10 v7 v8 v9).eval v13 = X.lp v6 v30 := by exact rfl) (h4 : v8 v6 = some (AO.box v17) := by exact rfl) (h5 : mkC v29 (List.take v19 (List.drop v30 v17)) = C.a v11 := by exact rfl) (h6 : (v30 + v19).ble v17.length = true := by exact rfl) (h7 : v2.dst = some v15 := by exact rfl) (h8 : v15.blt v10 = true := by exact rfl) (h9 : v2.guard = some (v16, v14) := by exact rfl) (h10 : (v1[v16]?.bind fun x ↦ x.dst) = some v18 := by exact rfl) (h11 : v7 v18 = tv (Value.bool v14) := by exact rfl) : LexK v0 v1 v3 (v2 :: v4) (S.mk v10 v7 v8 v9) v5 v35 := LexK.rOn (b_load (r := .a _) h1 a2 h3 h4 h5 h6 h7 h8) h9 h10 h11 k12
theorem Z22 (a2 : fnB v0 v38 = true) (a4 : Pure v0 v38 v41 v37) (k9 : SeqK v0 v1 v3 v4 (S.mk v5 (upd v7 v6 v37) v8 v9)) (h1 : v2.op = Op.call { callee := Callee.value (Operand.func v38), args := v39, argTypes := v40 } := by exact rfl) (h3 : argsX (S.mk v5 v7 v8 v9) v39.toList = some v41 := by exact rfl) (h5 : v37.loc = none := by exact rfl) (h6 : v2.guard = none := by exact rfl) (h7 : v2.dst = some v6 := by exact rfl) (h8 : v6.blt v5 = true := by exact rfl) : SeqK v0 v1 v3 (v2 :: v4) (S.mk v5 v7 v8 v9) := SeqK.q (q_call _ h1 a2 h3 a4 h5) h6 h7 h8 k9
theorem Z23 (a2 : fldB v0 v12 v18 v19 = true) (k8 : LexK v0 v1 v3 v4 (S.mk v6 (upd v7 v10 (X.lp v15 v16)) v8 v9) v5 (v35 ++ [(lookT v1 v2, dstT v2)])) (h1 : v2.op = Op.fieldAddr v12 v13 v18 := by exact rfl) (h3 : (S.mk v6 v7 v8 v9).eval v13 = X.lp v15 v30 := by exact rfl) (h4 : v30 + v19 = v16 := by exact rfl) (h5 : v2.guard = none := by exact rfl) (h6 : v2.dst = some v10 := by exact rfl) (h7 : v10.blt v6 = true := by exact rfl) : LexK v0 v1 v3 (v2 :: v4) (S.mk v6 v7 v8 v9) v5 v35 := LexK.q (q_fieldL _ h1 a2 h3 h4) h5 h6 h7 k8
theorem Z24 (a2 : fldB v0 v12 v30 v31 = true) (k10 : LexK v0 v1 v3 v4 (S.mk v6 (upd v7 v10 (X.lp v15 v16)) v8 v9) v5 (v35 ++ [(lookT v1 v2, dstT v2)])) (h1 : v2.op = Op.fieldAddr v12 v13 v30 := by exact rfl) (h3 : (S.mk v6 v7 v8 v9).eval v13 = X.lp v15 v42 := by exact rfl) (h4 : v42 + v31 = v16 := by exact rfl) (h5 : v2.guard = some (v18, v14) := by exact rfl) (h6 : (v1[v18]?.bind fun x ↦ x.dst) = some v19 := by exact rfl) (h7 : v7 v19 = tv (Value.bool v14) := by exact rfl) (h8 : v2.dst = some v10 := by exact rfl) (h9 : v10.blt v6 = true := by exact rfl) : LexK v0 v1 v3 (v2 :: v4) (S.mk v6 v7 v8 v9) v5 v35 := LexK.on (q_fieldL _ h1 a2 h3 h4) h5 h6 h7 h8 h9 k10
theorem Z25 {r : List A} (a4 : zeroIs v0 v12 v43) (k10 : SeqK v0 v1 v3 v4 (S.mk v6 (upd v7 v5 (X.lp v5 0)) (upd v8 v5 (some (AO.box r))) v9)) (h2 : v2.op = Op.alloc v12 := by exact rfl) (h3 : v2.dst = some v5 := by exact rfl) (h5 : v43.cells.toList.all Value.oneCell' = true := by exact rfl) (h6 : List.map litA v43.cells.toList = r := by exact rfl) (h7 : v8 v5 = none := by exact rfl) (h8 : v5.blt v6 = true := by exact rfl) (h9 : v2.guard = none := by exact rfl) : SeqK v0 v1 v3 (v2 :: v4) (S.mk v6 v7 v8 v9) := SeqK.r (b_alloc (r := r) h2 h3 a4 h5 h6 h7 h8) h9 k10
theorem Z26 (a1 : C) (a3 : tyB v0 v12 v14 v15 = true) (k10 : LexK v0 v1 v3 v4 (S.mk v6 (upd v7 v10 (X.c a1)) v8 v9) v5 (v35 ++ [(lookT v1 v2, dstT v2)])) (h2 : v2.op = Op.load v12 v13 := by exact rfl) (h4 : (S.mk v6 v7 v8 v9).eval v13 = X.pc v32 := by exact rfl) (h5 : mkC v14 (List.map A.t (List.take v15 v32)) = a1 := by exact rfl) (h6 : v15.ble v32.length = true := by exact rfl) (h7 : v2.guard = none := by exact rfl) (h8 : v2.dst = some v10 := by exact rfl) (h9 : v10.blt v6 = true := by exact rfl) : LexK v0 v1 v3 (v2 :: v4) (S.mk v6 v7 v8 v9) v5 v35 := LexK.q (q_load a1 h2 a3 h4 h5 h6) h7 h8 h9 k10
theorem Z27 (a2 : slB v0 v12 v22 v15 = true) (a6 : v34[v21.toNat]? = some v32) (k10 : LexK v0 v1 v3 v4 (S.mk v6 (upd v7 v10 (X.pc v32)) v8 v9) v5 (v35 ++ [(lookT v1 v2, dstT v2)])) (h1 : v2.op = Op.indexAddr v12 v13 v23 := by exact rfl) (h3 : (S.mk v6 v7 v8 v9).eval v13 = X.c (C.a (A.t (T.sl v33 v15 v34))) := by exact rfl) (h4 : (S.mk v6 v7 v8 v9).eval v23 = iX v20 v21 := by exact rfl) (h5 : 0 ≤ v21 := by omega) (h7 : v2.guard = none := by exact rfl) (h8 : v2.dst = some v10 := by exact rfl) (h9 : v10.blt v6 = true := by exact rfl) : LexK v0 v1 v3 (v2 :: v4) (S.mk v6 v7 v8 v9) v5 v35 := LexK.q (q_index _ h1 a2 h3 h4 h5 a6) h7 h8 h9 k10
theorem Z28 (a2 : v0.underlying v12 = some (TypeDesc.slice v22)) (k9 : SeqK v0 v1 v3 v4 (S.mk v5 (upd v7 v6 (iX IntKind.i64 ↑v34.length)) v8 v9)) (h1 : v2.op = Op.call { callee := Callee.builtin Builtin.len, args := #[v13], argTypes := #[v12] } := by exact rfl) (h3 : (S.mk v5 v7 v8 v9).eval v13 = X.c (C.a (A.t (T.sl v33 v16 v34))) := by exact rfl) (h4 : v2.guard = some (v10, v14) := by exact rfl) (h5 : (v1[v10]?.bind fun x ↦ x.dst) = some v15 := by exact rfl) (h6 : v7 v15 = tv (Value.bool v14) := by exact rfl) (h7 : v2.dst = some v6 := by exact rfl) (h8 : v6.blt v5 = true := by exact rfl) : SeqK v0 v1 v3 (v2 :: v4) (S.mk v5 v7 v8 v9) := SeqK.on (q_len h1 a2 h3) h4 h5 h6 h7 h8 k9
theorem Z29 (k8 : LexK v0 v1 v3 v4 (S.mk v6 (upd v7 v10 (X.c v27)) v8 v9) v5 (v35 ++ [(lookT v1 v2, dstT v2)])) (h1 : v2.op = Op.move v13 := by exact rfl) (h2 : (S.mk v6 v7 v8 v9).eval v13 = X.c v27 := by exact rfl) (h3 : v2.guard = some (v15, v14) := by exact rfl) (h4 : (v1[v15]?.bind fun x ↦ x.dst) = some v16 := by exact rfl) (h5 : v7 v16 = tv (Value.bool v14) := by exact rfl) (h6 : v2.dst = some v10 := by exact rfl) (h7 : v10.blt v6 = true := by exact rfl) : LexK v0 v1 v3 (v2 :: v4) (S.mk v6 v7 v8 v9) v5 v35 := LexK.on (q_mvC h1 h2) h3 h4 h5 h6 h7 k8
theorem Z30 (k2 : v3 v26) (h1 : okFp v1 v5 v35 = true := by kernel_rfl) : LexK v0 v1 v3 [] v26 v5 v35 := LexK.nil h1 k2
theorem Z31 (k7 : LexK v0 v1 v3 v4 (S.mk v6 (upd v7 v10 (X.c v27)) v8 v9) v5 (v35 ++ [(lookT v1 v2, dstT v2)])) (h1 : v2.op = Op.pick v13 v23 v28 := by exact rfl) (h2 : (S.mk v6 v7 v8 v9).eval v13 = bX false := by exact rfl) (h3 : (S.mk v6 v7 v8 v9).eval v28 = X.c v27 := by exact rfl) (h4 : v2.guard = none := by exact rfl) (h5 : v2.dst = some v10 := by exact rfl) (h6 : v10.blt v6 = true := by exact rfl) : LexK v0 v1 v3 (v2 :: v4) (S.mk v6 v7 v8 v9) v5 v35 := LexK.q (q_pkF h1 h2 h3) h4 h5 h6 k7
theorem Z32 (a4 : fldB v0 v12 v18 v19 = true) (k10 : LexO v0 v1 v3 v44 (S.mk v10 (upd v7 v6 (X.lp v15 v16)) v8 v9) (v45 ++ [(v5, lookT v1 v2, dstT v2)])) (h1 : v1[v5]? = some v2 := by exact rfl) (h2 : aheadO v1 (List.map (fun x ↦ x.fst) v45) v5 = true := by kernel_rfl) (h3 : v2.op = Op.fieldAddr v12 v13 v18 := by exact rfl) (h5 : (S.mk v10 v7 v8 v9).eval v13 = X.lp v15 v30 := by exact rfl) (h6 : v30 + v19 = v16 := by exact rfl) (h7 : v2.guard = none := by exact rfl) (h8 : v2.dst = some v6 := by exact rfl) (h9 : v6.blt v10 = true := by exact rfl) : LexO v0 v1 v3 (v5 :: v44) (S.mk v10 v7 v8 v9) v45 := LexO.q h1 h2 (q_fieldL _ h3 a4 h5 h6) h7 h8 h9 k10
theorem Z33 (k6 : SeqK v0 v1 v3 v4 (S.mk v5 (upd v7 v6 (bX !v14)) v8 v9)) (h1 : v2.op = Op.unOp UnOp.not v12 v13 := by exact rfl) (h2 : (S.mk v5 v7 v8 v9).eval v13 = bX v14 := by exact rfl) (h3 : v2.guard = none := by exact rfl) (h4 : v2.dst = some v6 := by exact rfl) (h5 : v6.blt v5 = true := by exact rfl) : SeqK v0 v1 v3 (v2 :: v4) (S.mk v5 v7 v8 v9) := SeqK.q (q_not h1 h2) h3 h4 h5 k6
theorem Z34 {r : List A} {zs : List A} (a3 : List (Nat × Nat)) (a5 : zeroIs v0 v12 v43) (a7 : bplB v0 v12 a3 = true) (k15 : SeqK v0 v1 v3 v4 (S.mk v5 (upd v7 v6 (X.c (C.g r))) v8 v9)) (h4 : v2.op = Op.build v12 v46 := by exact rfl) (h6 : v43.cells.toList.all Value.oneCell' = true := by exact rfl) (h8 : partsX (S.mk v5 v7 v8 v9) v46.toList = some v47 := by exact rfl) (h9 : List.map litA v43.cells.toList = zs := by exact rfl) (h10 : contB a3 0 zs.length = true := by exact rfl) (h11 : buildA a3 0 zs v47 = some r := by exact rfl) (h12 : v2.guard = none := by exact rfl) (h13 : v2.dst = some v6 := by exact rfl) (h14 : v6.blt v5 = true := by exact rfl) : SeqK v0 v1 v3 (v2 :: v4) (S.mk v5 v7 v8 v9) := SeqK.q (q_build2 (zs := zs) (r := r) a3 _ h4 a5 h6 a7 h8 h9 h10 h11) h12 h13 h14 k15
theorem Z35 (k9 : SeqK v0 v1 v3 v4 (S.mk v5 (upd v7 v6 (bX (decide (v21 < v24)))) v8 v9)) (h1 : v2.op = Op.binOp BinOp.gtr v12 v13 v23 v22 := by exact rfl) (h2 : (S.mk v5 v7 v8 v9).eval v13 = iX v20 v24 := by exact rfl) (h3 : (S.mk v5 v7 v8 v9).eval v23 = iX v20 v21 := by exact rfl) (h4 : v2.guard = some (v10, v14) := by exact rfl) (h5 : (v1[v10]?.bind fun x ↦ x.dst) = some v15 := by exact rfl) (h6 : v7 v15 = tv (Value.bool v14) := by exact rfl) (h7 : v2.dst = some v6 := by exact rfl) (h8 : v6.blt v5 = true := by exact rfl) : SeqK v0 v1 v3 (v2 :: v4) (S.mk v5 v7 v8 v9) := SeqK.on (q_gtr h1 h2 h3) h4 h5 h6 h7 h8 k9
theorem Z36 (k6 : LexK v0 v1 v3 v4 (S.mk v6 (upd v7 v10 (X.c v27)) v8 v9) v5 (v35 ++ [(lookT v1 v2, dstT v2)])) (h1 : v2.op = Op.assign v13 := by exact rfl) (h2 : (S.mk v6 v7 v8 v9).eval v13 = X.c v27 := by exact rfl) (h3 : v2.guard = none := by exact rfl) (h4 : v2.dst = some v10 := by exact rfl) (h5 : v10.blt v6 = true := by exact rfl) : LexK v0 v1 v3 (v2 :: v4) (S.mk v6 v7 v8 v9) v5 v35 := LexK.q (q_asC h1 h2) h3 h4 h5 k6
theorem Z37 {r : C} (a3 : tyB v0 v12 v29 v18 = true) (k13 : SeqK v0 v1 v3 v4 (S.mk v6 (upd v7 v10 (X.c r)) v8 v9)) (h2 : v2.op = Op.load v12 v13 := by exact rfl) (h4 : (S.mk v6 v7 v8 v9).eval v13 = X.lp v5 v19 := by exact rfl) (h5 : v8 v5 = some (AO.box v17) := by exact rfl) (h6 : mkC v29 (List.take v18 (List.drop v19 v17)) = r := by exact rfl) (h7 : (v19 + v18).ble v17.length = true := by exact rfl) (h8 : v2.dst = some v10 := by exact rfl) (h9 : v10.blt v6 = true := by exact rfl) (h10 : v2.guard = some (v15, v14) := by exact rfl) (h11 : (v1[v15]?.bind fun x ↦ x.dst) = some v16 := by exact rfl) (h12 : v7 v16 = tv (Value.bool v14) := by exact rfl) : SeqK v0 v1 v3 (v2 :: v4) (S.mk v6 v7 v8 v9) := SeqK.rOn (b_load (r := r) h2 a3 h4 h5 h6 h7 h8 h9) h10 h11 h12 k13
theorem Z38 (a2 : elB v0 v12 v22 v10 v16 = true) (k9 : SeqK v0 v1 v3 v4 (S.mk v5 (upd v7 v6 (X.c (C.a (A.t (T.sl Nz.nn v10 v34))))) v8 v9)) (h1 : v2.op = Op.buildSlice v12 v15 v46 := by exact rfl) (h3 : v46.size = v15 := by exact rfl) (h4 : v15 * v10 ≤ 16777216 := by decide) (h5 : elemsX (S.mk v5 v7 v8 v9) v10 0 v46.toList = some v34 := by exact rfl) (h6 : v2.guard = none := by exact rfl) (h7 : v2.dst = some v6 := by exact rfl) (h8 : v6.blt v5 = true := by exact rfl) : SeqK v0 v1 v3 (v2 :: v4) (S.mk v5 v7 v8 v9) := SeqK.q (q_buildSlice _ h1 a2 h3 h4 h5) h6 h7 h8 k9
theorem Z39 (a1 : C) (a3 : tyB v0 v12 v29 v18 = true) (k12 : LexK v0 v1 v3 v4 (S.mk v6 (upd v7 v10 (X.c a1)) v8 v9) v5 (v35 ++ [(lookT v1 v2, dstT v2)])) (h2 : v2.op = Op.load v12 v13 := by exact rfl) (h4 : (S.mk v6 v7 v8 v9).eval v13 = X.pc v32 := by exact rfl) (h5 : mkC v29 (List.map A.t (List.take v18 v32)) = a1 := by exact rfl) (h6 : v18.ble v32.length = true := by exact rfl) (h7 : v2.guard = some (v15, v14) := by exact rfl) (h8 : (v1[v15]?.bind fun x ↦ x.dst) = some v16 := by exact rfl) (h9 : v7 v16 = tv (Value.bool v14) := by exact rfl) (h10 : v2.dst = some v10 := by exact rfl) (h11 : v10.blt v6 = true := by exact rfl) : LexK v0 v1 v3 (v2 :: v4) (S.mk v6 v7 v8 v9) v5 v35 := LexK.on (q_load a1 h2 a3 h4 h5 h6) h7 h8 h9 h10 h11 k12
theorem Z40 (a4 : tyB v0 v12 v14 v16 = true) (k12 : LexO v0 v1 v3 v44 (S.mk v10 (upd v7 v15 (X.c (C.a v11))) v8 v9) (v45 ++ [(v6, Loc.b v5 :: lk v2, dstT v2)])) (h1 : v1[v6]? = some v2 := by exact rfl) (h2 : aheadO v1 (List.map (fun x ↦ x.fst) v45) v6 = true := by kernel_rfl) (h3 : v2.op = Op.load v12 v13 := by exact rfl) (h5 : (S.mk v10 v7 v8 v9).eval v13 = X.lp v5 v18 := by exact rfl) (h6 : v8 v5 = some (AO.box v17) := by exact rfl) (h7 : mkC v14 (List.take v16 (List.drop v18 v17)) = C.a v11 := by exact rfl) (h8 : (v18 + v16).ble v17.length = true := by exact rfl) (h9 : v2.dst = some v15 := by exact rfl) (h10 : v15.blt v10 = true := by exact rfl) (h11 : v2.guard = none := by exact rfl) : LexO v0 v1 v3 (v6 :: v44) (S.mk v10 v7 v8 v9) v45 := LexO.r h1 h2 (b_load (r := .a _) h3 a4 h5 h6 h7 h8 h9 h10) h11 k12
theorem Z41 (a2 : v0.underlying v12 = some TypeDesc.string) (a6 : v49.data.toList[v21.toNat]? = some v48) (k12 : SeqK v0 v1 v3 v4 (S.mk v5 (upd v7 v6 (iX IntKind.u8 ↑v48.toNat)) v8 v9)) (h1 : v2.op = Op.index v12 v13 v23 := by exact rfl) (h3 : (S.mk v5 v7 v8 v9).eval v13 = sX v49 := by exact rfl) (h4 : (S.mk v5 v7 v8 v9).eval v23 = iX v20 v21 := by exact rfl) (h5 : 0 ≤ v21 := by omega) (h7 : v2.guard = some (v10, v14) := by exact rfl) (h8 : (v1[v10]?.bind fun x ↦ x.dst) = some v15 := by exact rfl) (h9 : v7 v15 = tv (Value.bool v14) := by exact rfl) (h10 : v2.dst = some v6 := by exact rfl) (h11 : v6.blt v5 = true := by exact rfl) : SeqK v0 v1 v3 (v2 :: v4) (S.mk v5 v7 v8 v9) := SeqK.on (q_indexS _ h1 a2 h3 h4 h5 a6) h7 h8 h9 h10 h11 k12
theorem Z42 (k9 : SeqK v0 v1 v3 v4 (S.mk v5 (upd v7 v6 (X.c v27)) v8 v9)) (h1 : v2.op = Op.pick v13 v23 v28 := by exact rfl) (h2 : (S.mk v5 v7 v8 v9).eval v13 = bX true := by exact rfl) (h3 : (S.mk v5 v7 v8 v9).eval v23 = X.c v27 := by exact rfl) (h4 : v2.guard = some (v10, v14) := by exact rfl) (h5 : (v1[v10]?.bind fun x ↦ x.dst) = some v15 := by exact rfl) (h6 : v7 v15 = tv (Value.bool v14) := by exact rfl) (h7 : v2.dst = some v6 := by exact rfl) (h8 : v6.blt v5 = true := by exact rfl) : SeqK v0 v1 v3 (v2 :: v4) (S.mk v5 v7 v8 v9) := SeqK.on (q_pkT h1 h2 h3) h4 h5 h6 h7 h8 k9
theorem Z43 (k7 : LexK v0 v1 v3 v4 (S.mk v6 (upd v7 v10 (X.c v27)) v8 v9) v5 (v35 ++ [(lookT v1 v2, dstT v2)])) (h1 : v2.op = Op.pick v13 v23 v28 := by exact rfl) (h2 : (S.mk v6 v7 v8 v9).eval v13 = bX true := by exact rfl) (h3 : (S.mk v6 v7 v8 v9).eval v23 = X.c v27 := by exact rfl) (h4 : v2.guard = none := by exact rfl) (h5 : v2.dst = some v10 := by exact rfl) (h6 : v10.blt v6 = true := by exact rfl) : LexK v0 v1 v3 (v2 :: v4) (S.mk v6 v7 v8 v9) v5 v35 := LexK.q (q_pkT h1 h2 h3) h4 h5 h6 k7
theorem Z44 (k9 : SeqK v0 v1 v3 v4 (S.mk v5 (upd v7 v6 (bX (decide (v21 = v24)))) v8 v9)) (h1 : v2.op = Op.binOp BinOp.eql v12 v13 v23 v22 := by exact rfl) (h2 : (S.mk v5 v7 v8 v9).eval v13 = iX v20 v21 := by exact rfl) (h3 : (S.mk v5 v7 v8 v9).eval v23 = iX v20 v24 := by exact rfl) (h4 : v2.guard = some (v10, v14) := by exact rfl) (h5 : (v1[v10]?.bind fun x ↦ x.dst) = some v15 := by exact rfl) (h6 : v7 v15 = tv (Value.bool v14) := by exact rfl) (h7 : v2.dst = some v6 := by exact rfl) (h8 : v6.blt v5 = true := by exact rfl) : SeqK v0 v1 v3 (v2 :: v4) (S.mk v5 v7 v8 v9) := SeqK.on (q_eql h1 h2 h3) h4 h5 h6 h7 h8 k9
theorem Z45 {r : C} (a3 : tyB v0 v12 v14 v16 = true) (k11 : LexK v0 v1 v3 v4 (S.mk v10 (upd v7 v15 (X.c r)) v8 v9) v5 (v35 ++ [(Loc.b v6 :: lk v2, dstT v2)])) (h2 : v2.op = Op.load v12 v13 := by exact rfl) (h4 : (S.mk v10 v7 v8 v9).eval v13 = X.lp v6 v18 := by exact rfl) (h5 : v8 v6 = some (AO.box v17) := by exact rfl) (h6 : mkC v14 (List.take v16 (List.drop v18 v17)) = r := by exact rfl) (h7 : (v18 + v16).ble v17.length = true := by exact rfl) (h8 : v2.dst = some v15 := by exact rfl) (h9 : v15.blt v10 = true := by exact rfl) (h10 : v2.guard = none := by exact rfl) : LexK v0 v1 v3 (v2 :: v4) (S.mk v10 v7 v8 v9) v5 v35 := LexK.r (b_load (r := r) h2 a3 h4 h5 h6 h7 h8 h9) h10 k11
theorem Z46 (k9 : SeqK v0 v1 v3 v4 (S.mk v5 (upd v7 v6 (X.c v27)) v8 v9)) (h1 : v2.op = Op.pick v13 v23 v28 := by exact rfl) (h2 : (S.mk v5 v7 v8 v9).eval v13 = bX false := by exact rfl) (h3 : (S.mk v5 v7 v8 v9).eval v28 = X.c v27 := by exact rfl) (h4 : v2.guard = some (v10, v14) := by exact rfl) (h5 : (v1[v10]?.bind fun x ↦ x.dst) = some v15 := by exact rfl) (h6 : v7 v15 = tv (Value.bool v14) := by exact rfl) (h7 : v2.dst = some v6 := by exact rfl) (h8 : v6.blt v5 = true := by exact rfl) : SeqK v0 v1 v3 (v2 :: v4) (S.mk v5 v7 v8 v9) := SeqK.on (q_pkF h1 h2 h3) h4 h5 h6 h7 h8 k9
theorem Z47 (k7 : SeqK v0 v1 v3 v4 (S.mk v5 (upd v7 v6 (X.c v27)) v8 v9)) (h1 : v2.op = Op.extract v13 v10 := by exact rfl) (h2 : (S.mk v5 v7 v8 v9).eval v13 = X.tup v41 := by exact rfl) (h3 : v41[v10]? = some v27 := by exact rfl) (h4 : v2.guard = none := by exact rfl) (h5 : v2.dst = some v6 := by exact rfl) (h6 : v6.blt v5 = true := by exact rfl) : SeqK v0 v1 v3 (v2 :: v4) (S.mk v5 v7 v8 v9) := SeqK.q (q_extract _ h1 h2 h3) h4 h5 h6 k7
theorem Z48 (a2 : slB v0 v12 v22 v18 = true) (a6 : v34[v21.toNat]? = some v32) (k12 : LexK v0 v1 v3 v4 (S.mk v6 (upd v7 v10 (X.pc v32)) v8 v9) v5 (v35 ++ [(lookT v1 v2, dstT v2)])) (h1 : v2.op = Op.indexAddr v12 v13 v23 := by exact rfl) (h3 : (S.mk v6 v7 v8 v9).eval v13 = X.c (C.a (A.t (T.sl v33 v18 v34))) := by exact rfl) (h4 : (S.mk v6 v7 v8 v9).eval v23 = iX v20 v21 := by exact rfl) (h5 : 0 ≤ v21 := by omega) (h7 : v2.guard = some (v15, v14) := by exact rfl) (h8 : (v1[v15]?.bind fun x ↦ x.dst) = some v16 := by exact rfl) (h9 : v7 v16 = tv (Value.bool v14) := by exact rfl) (h10 : v2.dst = some v10 := by exact rfl) (h11 : v10.blt v6 = true := by exact rfl) : LexK v0 v1 v3 (v2 :: v4) (S.mk v6 v7 v8 v9) v5 v35 := LexK.on (q_index _ h1 a2 h3 h4 h5 a6) h7 h8 h9 h10 h11 k12
theorem Z49 (k7 : SeqK v0 v1 v3 v4 (S.mk v5 (upd v7 v6 (bX (decide (v21 ≠ v24)))) v8 v9)) (h1 : v2.op = Op.binOp BinOp.neq v12 v13 v23 v22 := by exact rfl) (h2 : (S.mk v5 v7 v8 v9).eval v13 = iX v20 v21 := by exact rfl) (h3 : (S.mk v5 v7 v8 v9).eval v23 = iX v20 v24 := by exact rfl) (h4 : v2.guard = none := by exact rfl) (h5 : v2.dst = some v6 := by exact rfl) (h6 : v6.blt v5 = true := by exact rfl) : SeqK v0 v1 v3 (v2 :: v4) (S.mk v5 v7 v8 v9) := SeqK.q (q_neq h1 h2 h3) h4 h5 h6 k7
theorem Z50 (a3 : tyB v0 v12 v14 v10 = true) (k11 : SeqK v0 v1 v3 v4 (S.mk v5 v7 v8 (upd v9 v6 (some (AO.box v17))))) (h1 : v2.op = Op.store v12 v13 v23 := by exact rfl) (h2 : v2.dst = none := by exact rfl) (h4 : (S.mk v5 v7 v8 v9).eval v13 = X.c (C.a (A.bp v6 v15)) := by exact rfl) (h5 : (S.mk v5 v7 v8 v9).eval v23 = X.c v27 := by exact rfl) (h6 : v9 v6 = some (AO.box v50) := by (repeat rw [upd_ne _ _ (by first | assumption | exact Ne.symm (by assumption))]); first | assumption | exact upd_same _ _ _) (h7 : splice v50 v15 v27.cells = v17 := by exact rfl) (h8 : v27.cells.length = v10 := by exact rfl) (h9 : (v15 + v10).ble v50.length = true := by exact rfl) (h10 : v2.guard = none := by exact rfl) : SeqK v0 v1 v3 (v2 :: v4) (S.mk v5 v7 v8 v9) := SeqK.r (g_store h1 h2 a3 h4 h5 h6 h7 h8 h9) h10 k11
theorem Z51 (a2 : tyB v0 v12 v14 v15 = true) (k10 : LexK v0 v1 v3 v4 (S.mk v6 (upd v7 v10 (X.c (C.a v11))) v8 v9) v5 (v35 ++ [(Loc.h :: lk v2, dstT v2)])) (h1 : v2.op = Op.load v12 v13 := by exact rfl) (h3 : (S.mk v6 v7 v8 v9).eval v13 = X.c (C.a (A.bp v16 v18)) := by exact rfl) (h4 : v9 v16 = some (AO.box v17) := by (repeat rw [upd_ne _ _ (by first | assumption | exact Ne.symm (by assumption))]); first | assumption | exact upd_same _ _ _) (h5 : mkC v14 (List.take v15 (List.drop v18 v17)) = C.a v11 := by exact rfl) (h6 : (v18 + v15).ble v17.length = true := by exact rfl) (h7 : v2.dst = some v10 := by exact rfl) (h8 : v10.blt v6 = true := by exact rfl) (h9 : v2.guard = none := by exact rfl) : LexK v0 v1 v3 (v2 :: v4) (S.mk v6 v7 v8 v9) v5 v35 := LexK.r (g_load (r := .a _) h1 a2 h3 h4 h5 h6 h7 h8) h9 k10
theorem Z52 (a2 : fnB v0 v38 = true) (a4 : Pure v0 v38 v41 v37) (k9 : LexK v0 v1 v3 v4 (S.mk v6 (upd v7 v10 v37) v8 v9) v5 (v35 ++ [(lookT v1 v2, dstT v2)])) (h1 : v2.op = Op.call { callee := Callee.value (Operand.func v38), args := v39, argTypes := v40 } := by exact rfl) (h3 : argsX (S.mk v6 v7 v8 v9) v39.toList = some v41 := by exact rfl) (h5 : v37.loc = none := by exact rfl) (h6 : v2.guard = none := by exact rfl) (h7 : v2.dst = some v10 := by exact rfl) (h8 : v10.blt v6 = true := by exact rfl) : LexK v0 v1 v3 (v2 :: v4) (S.mk v6 v7 v8 v9) v5 v35 := LexK.q (q_call _ h1 a2 h3 a4 h5) h6 h7 h8 k9
theorem Z53 (a2 : fnB v0 v38 = true) (a4 : Spec v0 v38 v41 v9 fun y H' ↦ y = v37 ∧ H' = v9) (k9 : SeqK v0 v1 v3 v4 (S.mk v5 (upd v7 v6 v37) v8 v9)) (h1 : v2.op = Op.call { callee := Callee.value (Operand.func v38), args := v39, argTypes := v40 } := by exact rfl) (h3 : argsX (S.mk v5 v7 v8 v9) v39.toList = some v41 := by exact rfl) (h5 : v37.loc = none := by exact rfl) (h6 : v2.dst = some v6 := by exact rfl) (h7 : v6.blt v5 = true := by exact rfl) (h8 : v2.guard = none := by exact rfl) : SeqK v0 v1 v3 (v2 :: v4) (S.mk v5 v7 v8 v9) := SeqK.r (g_call h1 a2 h3 a4 h5 h6 h7) h8 k9
end
end Go.Proofs.YtihlgigaejhilaaGreatDoor.E
namespace Go.Proofs.YtihlgigaejhilaaGreatDoor.W
open Go.RowKit E
abbrev iC (n : Int) : C := .a (.t (.v (.int .i64 n)))
abbrev bC (b : Bool) : C := .a (.t (.v (.bool b)))
abbrev sC (s : ByteArray) : C := .a (.t (.v (.string s)))
abbrev i64T (n : Int) : List E.T := [.v (.int .i64 n)]
abbrev sT (s : ByteArray) : List E.T := [.v (.string s)]
abbrev iLT (l : List Int) : List E.T := [.sl .un 1 (l.map i64T)]
abbrev iL (z : Nz) (l : List Int) : C := .a (.t (.sl z 1 (l.map i64T)))
abbrev sL (z : Nz) (l : List ByteArray) : C := .a (.t (.sl z 1 (l.map sT)))
theorem w64 {n : Int} (h : -9223372036854775808 ≤ n) (h' : n ≤ 9223372036854775807) : IntKind.i64.wrap n = n := IntWalk.i64_in n ⟨h, h'⟩
theorem bCe {a b : Bool} (h : a = b) : X.c (bC a) = X.c (bC b) := by rw [h]
theorem iCe {a b : Int} (h : a = b) : X.c (iC a) = X.c (iC b) := by rw [h]
theorem sCe {a b : ByteArray} (h : a = b) : X.c (sC a) = X.c (sC b) := by rw [h]
theorem nd_t {p : Prop} [Decidable p] (h : (!decide p) = true) : ¬ p := by simpa using h
theorem nd_f {p : Prop} [Decidable p] (h : (!decide p) = false) : p := by simpa using h
theorem idx_map {α : Type} {f : α → List E.T} {l : List α} {i : Nat} (h : i < l.length) : (l.map f)[i]? = some (f l[i]) := by rw [List.getElem?_map, List.getElem?_eq_getElem h]; rfl
theorem take_put {α : Type} {l : List α} {i : Nat} (hi : i < l.length) : l.take (i + 1) = l.take i ++ [l[i]] := List.take_succ_eq_append_getElem hi
theorem ba_len (s : ByteArray) : s.data.toList.length = s.size := by rw [Array.length_toList]; rfl
inductive Ex where
  | mk (op : Int) (tb nm : ByteArray) (ix vk vn : Int) (vs : ByteArray) (args : List Ex)
@[reducible] def Ex.op : Ex → Int | .mk a _ _ _ _ _ _ _ => a
@[reducible] def Ex.tb : Ex → ByteArray | .mk _ a _ _ _ _ _ _ => a
@[reducible] def Ex.nm : Ex → ByteArray | .mk _ _ a _ _ _ _ _ => a
@[reducible] def Ex.ix : Ex → Int | .mk _ _ _ a _ _ _ _ => a
@[reducible] def Ex.vk : Ex → Int | .mk _ _ _ _ a _ _ _ => a
@[reducible] def Ex.vn : Ex → Int | .mk _ _ _ _ _ a _ _ => a
@[reducible] def Ex.vs : Ex → ByteArray | .mk _ _ _ _ _ _ a _ => a
@[reducible] def Ex.args : Ex → List Ex | .mk _ _ _ _ _ _ _ a => a
mutual
def exT' : Ex → List E.T
  | .mk op tb nm ix vk vn vs args => [.v (.int .i64 op), .v (.string tb), .v (.string nm), .v (.int .i64 ix), .v (.int .i64 vk), .v (.int .i64 vn), .v (.string vs), .sl .un 8 (exTs args)]
def exTs : List Ex → List (List E.T)
  | [] => []
  | e :: r => exT' e :: exTs r
end
theorem exTs_map : ∀ l, exTs l = l.map exT'
  | [] => rfl
  | t :: r => by rw [exTs, exTs_map r, List.map_cons]
abbrev exL (e : Ex) : List E.T := [.v (.int .i64 e.op), .v (.string e.tb), .v (.string e.nm), .v (.int .i64 e.ix), .v (.int .i64 e.vk), .v (.int .i64 e.vn), .v (.string e.vs), .sl .un 8 (e.args.map exT')]
theorem exT_eq (e : Ex) : exT' e = exL e := by cases e; rw [exT', exTs_map]
abbrev exC (e : Ex) : C := .g [.t (.v (.int .i64 e.op)), .t (.v (.string e.tb)), .t (.v (.string e.nm)), .t (.v (.int .i64 e.ix)), .t (.v (.int .i64 e.vk)), .t (.v (.int .i64 e.vn)), .t (.v (.string e.vs)), .t (.sl .un 8 (e.args.map exT'))]
abbrev exsC (z : Nz) (l : List Ex) : C := .a (.t (.sl z 8 (l.map exT')))
theorem idx_ex {l : List Ex} {i : Nat} (h : i < l.length) : (l.map exT')[i]? = some (exL l[i]) := by rw [List.getElem?_map, List.getElem?_eq_getElem h, Option.map_some, exT_eq]
theorem args_lt {e a : Ex} (h : a ∈ e.args) : SizeOf.sizeOf a < SizeOf.sizeOf e := by
  cases e with | mk op tb nm ix vk vn vs args =>
  have : SizeOf.sizeOf a < SizeOf.sizeOf args := List.sizeOf_lt_of_mem h
  simp only [Ex.mk.sizeOf_spec]; omega
structure Co where (nm : ByteArray) (ty lo hi mx : Int) (nn : Bool)
structure Fk where (cols : List Int) (tab key : Int)
structure Tb where (nm : ByteArray) (cols : List Co) (keys : List (List Int)) (fks : List Fk) (chks : List Ex)
structure Vr where (ty lo hi mx : Int) (nu : Bool)
structure Rf where (cols : List ByteArray) (tab : ByteArray) (tgt : List ByteArray)
abbrev coT (c : Co) : List E.T := [.v (.string c.nm), .v (.int .i64 c.ty), .v (.int .i64 c.lo), .v (.int .i64 c.hi), .v (.int .i64 c.mx), .v (.bool c.nn)]
abbrev fkT (f : Fk) : List E.T := [.sl .un 1 (f.cols.map i64T), .v (.int .i64 f.tab), .v (.int .i64 f.key)]
abbrev tbT (t : Tb) : List E.T := [.v (.string t.nm), .sl .un 6 (t.cols.map coT), .sl .un 1 (t.keys.map iLT), .sl .un 3 (t.fks.map fkT), .sl .un 8 (t.chks.map exT')]
abbrev vrT (v : Vr) : List E.T := [.v (.int .i64 v.ty), .v (.int .i64 v.lo), .v (.int .i64 v.hi), .v (.int .i64 v.mx), .v (.bool v.nu)]
abbrev sLT (l : List ByteArray) : List E.T := [.sl .un 1 (l.map sT)]
abbrev rfT (f : Rf) : List E.T := [.sl .un 1 (f.cols.map sT), .v (.string f.tab), .sl .un 1 (f.tgt.map sT)]
abbrev coC (c : Co) : C := .g [.t (.v (.string c.nm)), .t (.v (.int .i64 c.ty)), .t (.v (.int .i64 c.lo)), .t (.v (.int .i64 c.hi)), .t (.v (.int .i64 c.mx)), .t (.v (.bool c.nn))]
abbrev tbC (t : Tb) : C := .g [.t (.v (.string t.nm)), .t (.sl .un 6 (t.cols.map coT)), .t (.sl .un 1 (t.keys.map iLT)), .t (.sl .un 3 (t.fks.map fkT)), .t (.sl .un 8 (t.chks.map exT'))]
abbrev scC (z : Nz) (l : List Tb) : C := .a (.t (.sl z 5 (l.map tbT)))
abbrev vsC (z : Nz) (l : List Vr) : C := .a (.t (.sl z 5 (l.map vrT)))
end Go.Proofs.YtihlgigaejhilaaGreatDoor.W
namespace Go.Proofs.YtihlgigaejhilaaGreatDoor.W
open Go.RowKit E
theorem eq_up {α : Type} {a b : List α} (hl : a.length = b.length) (h : ∀ j (h : j < a.length), a[j]? = b[j]?) : a = b := List.ext_getElem? fun j => by
  by_cases hj : j < a.length
  · exact h j hj
  · rw [List.getElem?_eq_none (by omega), List.getElem?_eq_none (by omega)]
abbrev insP (t : Tb) (l : List Int) : Prop := ∀ j (h : j < l.length), 0 ≤ l[j] ∧ l[j] < t.cols.length

abbrev zTb (x : Tb) : List A := [.t (.v (.string x.nm)), .t (.sl .un 6 (x.cols.map coT)), .t (.sl .un 1 (x.keys.map iLT)), .t (.sl .un 3 (x.fks.map fkT)), .t (.sl .un 8 (x.chks.map exT'))]
set_option maxRecDepth 20000 in
theorem inside_any (t : Tb) (l : List Int) (z : Nz) (hl : l.length ≤ 17592186044000) : Pure Tryz.prog 29 [tbC t, iL z l] (.c (bC (decide (insP t l)))) := by
 intro H
 refine Spec.enter Tryz.func29 rfl ?_
 refine AW.wk (Wk.keep 27 [(0, .c (tbC t)), (1, .c (iL z l))] [] (H) rfl ⟨rfl, rfl, trivial⟩ trivial (fun _ _ h => h) rfl) ?_
 refine sR (Z16 (r := [_, _, _, _, _]) ?_)
 refine sB ?_
 refine AW.seq (sR (sB ?_))
 refine AW.block ?_
 refine AW.loop (fun (i : Nat) s => (i ≤ l.length ∧ ∀ j (h : j < l.length), j < i → 0 ≤ l[j] ∧ l[j] < t.cols.length) ∧ s = ⟨27, sp [(1, .c (iL z l)), (2, .lp 2 0), (4, .c (bC false)), (5, iX .i64 ((i : Nat) : Int))], lv [(2, .box (zTb t))], H⟩) (fun i => l.length - i) 0 ⟨_, by exact Wk.keep 27 _ _ _ rfl ⟨rfl, rfl, rfl, rfl, trivial⟩ ⟨rfl, trivial⟩ (fun _ _ h => h) rfl, ⟨Nat.zero_le _, up0⟩, rfl⟩ (fun i s hs => ?_)
 obtain ⟨⟨hi0, hU⟩, rfl⟩ := hs
 refine AW.seq (sR (sM ?_))
 refine sM ?_
 refine Z14 Fx.un24 ?_
 refine Z10 ?_
 refine Z3 ?_
 refine AW.condD rfl ?_ ?_ <;> intro h9
 ·
  have hi : i < l.length := by rw [List.length_map] at h9; omega
  refine AW.skip (AW.seq (AW.block (AW.seq (AW.draw Fx.mo ?_))))
  refine Z18 ?_
  refine Z18 ?_
  refine Z27 Fx.sl24 (idx_map (f := i64T) hi) ?_
  refine Z26 (.a _) Fx.ty3 ?_
  refine LexK.q (q_lss rfl rfl rfl) rfl rfl rfl ?_
  refine LexK.qD (q_mvC rfl rfl) rfl rfl rfl (fun g17 => ?_) (fun g17 => ?_)
  ·
   iterate 8 refine LexK.off rfl rfl rfl rfl rfl rfl ?_
   refine Z43 ?_
   refine Z30 ?_
   refine AW.condT rfl ?_
   refine sR (sB ?_)
   refine AW.ret ?_
   exact f1 (q := ⟨bCe (dF (fun h => by have := h i hi; first | omega | (rw [List.length_map] at *; omega))), rfl⟩)
  refine Z29 ?_
  refine Z29 ?_
  refine Z48 Fx.sl24 (idx_map (f := i64T) hi) ?_
  refine Z39 (.a _) Fx.ty3 ?_
  refine Z24 Fx.fl64_1 ?_
  refine Z21 Fx.ty36 ?_
  refine LexK.on (q_len rfl Fx.un36 rfl) rfl rfl rfl rfl rfl ?_
  refine LexK.on (q_geq rfl rfl rfl) rfl rfl rfl rfl rfl ?_
  refine Z31 ?_
  refine Z30 ?_
  refine AW.condD rfl ?_ ?_ <;> intro h26
  ·
   refine sR (sB ?_)
   refine AW.ret ?_
   exact f1 (q := ⟨bCe (dF (fun h => by have := h i hi; first | omega | (rw [List.length_map] at *; omega))), rfl⟩)
  refine AW.skip (AW.reg (sM ?_))
  refine Z2 ?_
  refine sB ?_
  exact ⟨i + 1, _, by exact Wk.keep 27 _ _ _ rfl ⟨rfl, rfl, rfl, rfl, trivial⟩ ⟨rfl, trivial⟩ (fun _ _ h => h) rfl, by omega, ⟨hi, upS hi hU (by first | omega | (rw [List.length_map] at *; omega) | (simp only [List.length_map] at *; omega))⟩, rfl⟩
 refine AW.exit ?_
 refine eth_e ?_
 refine eth_e ?_
 refine exit_here ?_
 refine sR (sB ?_)
 refine AW.ret ?_
 exact f1 (q := ⟨bCe (dT (upE hU (by rw [List.length_map] at h9; omega))), rfl⟩)

set_option maxRecDepth 20000 in
theorem texts_any (a b : List ByteArray) (z z2 : Nz) (hl : a.length ≤ 17592186044000) : Pure Tryz.prog 85 [.a (.t (.sl z 1 (a.map sT))), .a (.t (.sl z2 1 (b.map sT)))] (.c (bC (decide (a = b)))) := by
 intro H
 refine Spec.enter Tryz.func85 rfl ?_
 refine AW.wk (Wk.keep 26 [(0, .c (.a (.t (.sl z 1 (a.map sT))))), (1, .c (.a (.t (.sl z2 1 (b.map sT)))))] [] (H) rfl ⟨rfl, rfl, trivial⟩ trivial (fun _ _ h => h) rfl) ?_
 refine sR (sB ?_)
 refine AW.seq (sR (sM ?_))
 refine Z14 Fx.un25 ?_
 refine sM ?_
 refine Z14 Fx.un25 ?_
 refine Z49 ?_
 refine Z3 ?_
 refine AW.condD rfl ?_ ?_ <;> intro h10
 ·
  refine sR (sB ?_)
  refine AW.ret ?_
  exact f1 (q := ⟨bCe (dF (fun h => h10 (by subst h; simp))), rfl⟩)
 refine AW.skip (AW.seq (AW.seq ?_))
 have hlen : a.length = b.length := by simp only [List.length_map] at h10; omega
 refine AW.reg (sB ?_)
 refine AW.block ?_
 refine AW.loop (fun (i : Nat) s => (i ≤ a.length ∧ ∀ j (h : j < a.length), j < i → a[j]? = b[j]?) ∧ s = ⟨26, sp [(0, .c (.a (.t (.sl z 1 (a.map sT))))), (1, .c (.a (.t (.sl z2 1 (b.map sT))))), (4, .c (bC false)), (5, iX .i64 ((i : Nat) : Int))], lv [], H⟩) (fun i => a.length - i) 0 ⟨_, by exact Wk.keep 26 _ _ _ rfl ⟨rfl, rfl, rfl, rfl, trivial⟩ trivial (fun _ _ h => h) rfl, ⟨Nat.zero_le _, up0⟩, rfl⟩ (fun i s hs => ?_)
 obtain ⟨⟨hi0, hU⟩, rfl⟩ := hs
 refine AW.seq (sR (sM ?_))
 refine sM ?_
 refine Z14 Fx.un25 ?_
 refine Z10 ?_
 refine Z3 ?_
 refine AW.condD rfl ?_ ?_ <;> intro h14
 ·
  have hi : i < a.length := by rw [List.length_map] at h14; omega
  have hib : i < b.length := by omega
  refine AW.skip (AW.seq (AW.block (AW.seq (AW.draw Fx.mo ?_))))
  refine Z18 ?_
  refine Z18 ?_
  refine Z27 Fx.sl25 (idx_map (f := sT) hi) ?_
  refine Z26 (.a _) Fx.ty9 ?_
  refine Z18 ?_
  refine Z18 ?_
  refine Z27 Fx.sl25 (idx_map (f := sT) hib) ?_
  refine Z26 (.a _) Fx.ty9 ?_
  refine LexK.q (q_neqS rfl rfl rfl) rfl rfl rfl ?_
  refine Z30 ?_
  refine AW.condD rfl ?_ ?_ <;> intro h25
  ·
   refine sR (sB ?_)
   refine AW.ret ?_
   exact f1 (q := ⟨bCe (dF (fun h => h25 (by subst h; rfl))), rfl⟩)
  refine AW.skip (AW.reg (sM ?_))
  refine Z2 ?_
  refine sB ?_
  exact ⟨i + 1, _, by exact Wk.keep 26 _ _ _ rfl ⟨rfl, rfl, rfl, rfl, trivial⟩ trivial (fun _ _ h => h) rfl, by omega, ⟨hi, upS hi hU (by rw [List.getElem?_eq_getElem hi, List.getElem?_eq_getElem hib, show a[i] = b[i] from Classical.not_not.1 h25])⟩, rfl⟩
 refine AW.exit ?_
 refine eth_e ?_
 refine eth_e ?_
 refine exit_here ?_
 refine sR (sB ?_)
 refine AW.ret ?_
 exact f1 (q := ⟨bCe (dT (eq_up hlen (upE hU (by rw [List.length_map] at h14; omega)))), rfl⟩)

set_option maxRecDepth 20000 in
theorem ints_any (a b : List Int) (z z2 : Nz) (hl : a.length ≤ 17592186044000) : Pure Tryz.prog 87 [.a (.t (.sl z 1 (a.map i64T))), .a (.t (.sl z2 1 (b.map i64T)))] (.c (bC (decide (a = b)))) := by
 intro H
 refine Spec.enter Tryz.func87 rfl ?_
 refine AW.wk (Wk.keep 26 [(0, .c (.a (.t (.sl z 1 (a.map i64T))))), (1, .c (.a (.t (.sl z2 1 (b.map i64T)))))] [] (H) rfl ⟨rfl, rfl, trivial⟩ trivial (fun _ _ h => h) rfl) ?_
 refine sR (sB ?_)
 refine AW.seq (sR (sM ?_))
 refine Z14 Fx.un24 ?_
 refine sM ?_
 refine Z14 Fx.un24 ?_
 refine Z49 ?_
 refine Z3 ?_
 refine AW.condD rfl ?_ ?_ <;> intro h10
 ·
  refine sR (sB ?_)
  refine AW.ret ?_
  exact f1 (q := ⟨bCe (dF (fun h => h10 (by subst h; simp))), rfl⟩)
 refine AW.skip (AW.seq (AW.seq ?_))
 have hlen : a.length = b.length := by simp only [List.length_map] at h10; omega
 refine AW.reg (sB ?_)
 refine AW.block ?_
 refine AW.loop (fun (i : Nat) s => (i ≤ a.length ∧ ∀ j (h : j < a.length), j < i → a[j]? = b[j]?) ∧ s = ⟨26, sp [(0, .c (.a (.t (.sl z 1 (a.map i64T))))), (1, .c (.a (.t (.sl z2 1 (b.map i64T))))), (4, .c (bC false)), (5, iX .i64 ((i : Nat) : Int))], lv [], H⟩) (fun i => a.length - i) 0 ⟨_, by exact Wk.keep 26 _ _ _ rfl ⟨rfl, rfl, rfl, rfl, trivial⟩ trivial (fun _ _ h => h) rfl, ⟨Nat.zero_le _, up0⟩, rfl⟩ (fun i s hs => ?_)
 obtain ⟨⟨hi0, hU⟩, rfl⟩ := hs
 refine AW.seq (sR (sM ?_))
 refine sM ?_
 refine Z14 Fx.un24 ?_
 refine Z10 ?_
 refine Z3 ?_
 refine AW.condD rfl ?_ ?_ <;> intro h14
 ·
  have hi : i < a.length := by rw [List.length_map] at h14; omega
  have hib : i < b.length := by omega
  refine AW.skip (AW.seq (AW.block (AW.seq (AW.draw Fx.mo ?_))))
  refine Z18 ?_
  refine Z18 ?_
  refine Z27 Fx.sl24 (idx_map (f := i64T) hi) ?_
  refine Z26 (.a _) Fx.ty3 ?_
  refine Z18 ?_
  refine Z18 ?_
  refine Z27 Fx.sl24 (idx_map (f := i64T) hib) ?_
  refine Z26 (.a _) Fx.ty3 ?_
  refine LexK.q (q_neq rfl rfl rfl) rfl rfl rfl ?_
  refine Z30 ?_
  refine AW.condD rfl ?_ ?_ <;> intro h25
  ·
   refine sR (sB ?_)
   refine AW.ret ?_
   exact f1 (q := ⟨bCe (dF (fun h => h25 (by subst h; rfl))), rfl⟩)
  refine AW.skip (AW.reg (sM ?_))
  refine Z2 ?_
  refine sB ?_
  exact ⟨i + 1, _, by exact Wk.keep 26 _ _ _ rfl ⟨rfl, rfl, rfl, rfl, trivial⟩ trivial (fun _ _ h => h) rfl, by omega, ⟨hi, upS hi hU (by rw [List.getElem?_eq_getElem hi, List.getElem?_eq_getElem hib, show a[i] = b[i] from Classical.not_not.1 h25])⟩, rfl⟩
 refine AW.exit ?_
 refine eth_e ?_
 refine eth_e ?_
 refine exit_here ?_
 refine sR (sB ?_)
 refine AW.ret ?_
 exact f1 (q := ⟨bCe (dT (eq_up hlen (upE hU (by rw [List.length_map] at h14; omega)))), rfl⟩)

abbrev ndP (l : List ByteArray) : Prop := ∀ j (h : j < l.length), ∀ k (hk : k < j), l[j] ≠ l[k]'(by omega)

set_option maxRecDepth 20000 in
theorem twice_any (l : List ByteArray) (z : Nz) (hl : l.length ≤ 17592186044000) : Pure Tryz.prog 84 [sL z l] (.c (bC (decide (¬ ndP l)))) := by
  intro H
  refine Spec.enter Tryz.func84 rfl ?_
  refine AW.wk (Wk.keep 25 [(0, .c (sL z l))] [] (H) rfl ⟨rfl, trivial⟩ trivial (fun _ _ h => h) rfl) ?_
  refine sR (sB ?_)
  refine AW.seq (sR (sB ?_))
  refine AW.block ?_
  refine AW.loop (fun (i : Nat) s => (i ≤ l.length ∧ ∀ j (h : j < l.length), j < i → ∀ k (hk : k < j), l[j] ≠ l[k]'(by omega)) ∧ s = ⟨25, sp [(0, .c (sL z l)), (2, .c (bC false)), (3, iX .i64 ((i : Nat) : Int))], lv [], H⟩) (fun i => l.length - i) 0 ⟨_, by exact Wk.keep 25 _ _ _ rfl ⟨rfl, rfl, rfl, trivial⟩ trivial (fun _ _ h => h) rfl, ⟨Nat.zero_le _, up0⟩, rfl⟩ (fun i s hs => ?_)
  obtain ⟨⟨hi0, hU⟩, rfl⟩ := hs
  refine AW.seq (sR (sM ?_))
  refine sM ?_
  refine Z14 Fx.un25 ?_
  refine Z10 ?_
  refine Z3 ?_
  refine AW.condD rfl ?_ ?_ <;> intro h8
  ·
    have hi : i < l.length := by rw [List.length_map] at h8; omega
    refine AW.skip (AW.seq (AW.block (sR (sB ?_))))
    refine AW.block ?_
    refine AW.loop (fun (j : Nat) s => (j ≤ i ∧ ∀ k (hk : k < j) (hi : k < i), l[i] ≠ l[k]'(by omega)) ∧ s = ⟨25, sp [(0, .c (sL z l)), (2, .c (bC false)), (3, iX .i64 ((i : Nat) : Int)), (4, iX .i64 ((j : Nat) : Int))], lv [], H⟩) (fun j => i - j) 0 ⟨_, by exact Wk.keep 25 _ _ _ rfl ⟨rfl, rfl, rfl, rfl, trivial⟩ trivial (fun _ _ h => h) rfl, ⟨Nat.zero_le _, fun k hk => absurd hk (Nat.not_lt_zero k)⟩, rfl⟩ (fun j s hs => ?_)
    obtain ⟨⟨hj0, hV⟩, rfl⟩ := hs
    refine AW.seq (sR (sM ?_))
    refine sM ?_
    refine Z10 ?_
    refine Z3 ?_
    refine AW.condD rfl ?_ ?_ <;> intro h13
    ·
      have hj : j < i := by omega
      have hjl : j < l.length := by omega
      refine AW.skip (AW.seq (AW.block (AW.seq (AW.draw Fx.mo ?_))))
      refine Z18 ?_
      refine Z18 ?_
      refine Z27 Fx.sl25 (idx_map (f := sT) hi) ?_
      refine Z26 (.a _) Fx.ty9 ?_
      refine Z18 ?_
      refine Z18 ?_
      refine Z27 Fx.sl25 (idx_map (f := sT) hjl) ?_
      refine Z26 (.a _) Fx.ty9 ?_
      refine LexK.q (q_eqlS rfl rfl rfl) rfl rfl rfl ?_
      refine Z30 ?_
      refine AW.condD rfl ?_ ?_ <;> intro h24
      ·
        refine sR (sB ?_)
        refine AW.ret ?_
        exact f1 (q := ⟨bCe (dT (fun h => h i hi j hj h24)), rfl⟩)
      ·
        refine AW.skip (AW.reg (sM ?_))
        refine Z2 ?_
        refine sB ?_
        exact ⟨j + 1, _, Wk.keep 25 [(0, .c (sL z l)), (2, .c (bC false)), (3, iX .i64 ((i : Nat) : Int)), (4, iX .i64 (((j + 1) : Nat) : Int))] [] (H) rfl ⟨rfl, rfl, rfl, rfl, trivial⟩ trivial (fun _ _ h => h) rfl, by omega, ⟨by omega, fun k hk hki => by
          by_cases e : k = j
          · subst e; exact h24
          · exact hV k (by omega) hki⟩, rfl⟩
    ·
      refine AW.exit ?_
      refine eth_e ?_
      refine eth_e ?_
      refine exit_here ?_
      have hVV : ∀ k (hk : k < i), l[i] ≠ l[k]'(by omega) := fun k hk => hV k (by omega) hk
      refine AW.reg (sM ?_)
      refine Z2 ?_
      refine sB ?_
      exact ⟨i + 1, _, by exact Wk.keep 25 _ _ _ rfl ⟨rfl, rfl, rfl, trivial⟩ trivial (fun _ _ h => h) rfl, by omega, ⟨hi, upS hi hU (hVV)⟩, rfl⟩
  ·
    refine AW.exit ?_
    refine eth_e ?_
    refine eth_e ?_
    refine exit_here ?_
    refine sR (sB ?_)
    refine AW.ret ?_
    exact f1 (q := ⟨bCe (dF (fun h => h (upE hU (by rw [List.length_map] at h8; omega)))), rfl⟩)

abbrev fewP (n : Int) (l : List ByteArray) : Prop := (∀ j (h : j < l.length), l[j].size ≤ 60) ∧ n ≤ 20 ∧ l.length ≤ 20

set_option maxRecDepth 20000 in
theorem few_any (n : Int) (l : List ByteArray) (z : Nz) (hl : l.length ≤ 17592186044000) : Pure Tryz.prog 28 [iC n, sL z l] (.c (bC (decide (fewP n l)))) := by
 intro H
 refine Spec.enter Tryz.func28 rfl ?_
 refine AW.wk (Wk.keep 25 [(0, .c (iC n)), (1, .c (sL z l))] [] (H) rfl ⟨rfl, rfl, trivial⟩ trivial (fun _ _ h => h) rfl) ?_
 refine sR (sB ?_)
 refine AW.seq (sR (sB ?_))
 refine AW.block ?_
 refine AW.loop (fun (i : Nat) s => (i ≤ l.length ∧ ∀ j (h : j < l.length), j < i → l[j].size ≤ 60) ∧ s = ⟨25, sp [(0, .c (iC n)), (1, .c (sL z l)), (4, .c (bC false)), (5, iX .i64 ((i : Nat) : Int))], lv [], H⟩) (fun i => l.length - i) 0 ⟨_, by exact Wk.keep 25 _ _ _ rfl ⟨rfl, rfl, rfl, rfl, trivial⟩ trivial (fun _ _ h => h) rfl, ⟨Nat.zero_le _, up0⟩, rfl⟩ (fun i s hs => ?_)
 obtain ⟨⟨hi0, hU⟩, rfl⟩ := hs
 refine AW.seq (sR (sM ?_))
 refine sM ?_
 refine Z14 Fx.un25 ?_
 refine Z10 ?_
 refine Z3 ?_
 refine AW.condD rfl ?_ ?_ <;> intro h9
 ·
  have hi : i < l.length := by rw [List.length_map] at h9; omega
  refine AW.skip (AW.seq (AW.block (sR (sM ?_))))
  refine sM ?_
  refine Z9 Fx.sl25 (idx_map (f := sT) hi) ?_
  refine Z11 (.a _) Fx.ty9 ?_
  refine SeqK.q (q_lenS rfl Fx.un9 rfl) rfl rfl rfl ?_
  refine SeqK.q (q_gtr rfl rfl rfl) rfl rfl rfl ?_
  refine Z3 ?_
  refine AW.condD rfl ?_ ?_ <;> intro h17
  ·
   refine sR (sB ?_)
   refine AW.ret ?_
   exact f1 (q := ⟨bCe (dF (fun h => by have := h.1 i hi; omega)), rfl⟩)
  refine AW.skip (AW.reg (sM ?_))
  refine Z2 ?_
  refine sB ?_
  exact ⟨i + 1, _, by exact Wk.keep 25 _ _ _ rfl ⟨rfl, rfl, rfl, rfl, trivial⟩ trivial (fun _ _ h => h) rfl, by omega, ⟨hi, upS hi hU (by omega)⟩, rfl⟩
 refine AW.exit ?_
 refine eth_e ?_
 refine eth_e ?_
 refine exit_here ?_
 refine AW.seq ?_
 have hA := upE hU (by rw [List.length_map] at h9; omega)
 refine AW.reg (sM ?_)
 refine SeqK.q (q_leq rfl rfl rfl) rfl rfl rfl ?_
 refine Z19 (fun g20 => ?_) (fun g20 => ?_)
 ·
  refine Z13 ?_
  refine Z28 Fx.un25 ?_
  refine SeqK.on (q_leq rfl rfl rfl) rfl rfl rfl rfl rfl ?_
  refine Z4 ?_
  refine sB ?_
  refine AW.ret ?_
  exact f1 (q := ⟨bCe (dI ⟨fun h => ⟨hA, by omega, by rw [List.length_map] at h; omega⟩, fun h => by have := h.2.2; rw [List.length_map]; omega⟩), rfl⟩)
 iterate 3 refine SeqK.off rfl rfl rfl rfl rfl rfl ?_
 refine Z7 ?_
 refine sB ?_
 refine AW.ret ?_
 exact f1 (q := ⟨bCe (dF (fun h => by have := h.2.1; omega)), rfl⟩)

end Go.Proofs.YtihlgigaejhilaaGreatDoor.W
namespace Go.Proofs.YtihlgigaejhilaaGreatDoor.W
open Go.RowKit E
/-- the number of the first one -/
def fstI {α : Type} (f : α → ByteArray) (s : ByteArray) : List α → Option Nat
  | [] => none
  | a :: r => if f a = s then some 0 else (fstI f s r).map (· + 1)
theorem fstI_app {α : Type} {f : α → ByteArray} {s : ByteArray} {b : List α} : ∀ {a : List α}, (∀ x ∈ a, f x ≠ s) → fstI f s (a ++ b) = (fstI f s b).map (a.length + ·)
  | [], _ => by simp
  | x :: a, h => by
    rw [List.cons_append, fstI, if_neg (h x (by simp)), fstI_app fun y hy => h y (by simp [hy]), Option.map_map]
    congr 1
    funext n; simp only [Function.comp, List.length_cons]; omega
theorem fstI_hit {α : Type} {f : α → ByteArray} {s : ByteArray} {l : List α} {i : Nat} (hi : i < l.length) (h : ∀ j (hj : j < l.length), j < i → f l[j] ≠ s) (e : f l[i] = s) : fstI f s l = some i := by
  have h1 : l = l.take i ++ l.drop i := (List.take_append_drop i l).symm
  rw [h1, fstI_app (fun x hx => by
    obtain ⟨j, hj, rfl⟩ := List.mem_iff_getElem.1 hx
    rw [List.length_take] at hj
    rw [List.getElem_take]; exact h j (by omega) (by omega)), List.drop_eq_getElem_cons hi, fstI, if_pos e, Option.map_some, List.length_take, Nat.min_eq_left (by omega)]
  rfl
theorem fstI_no {α : Type} {f : α → ByteArray} {s : ByteArray} {l : List α} (h : ∀ j (hj : j < l.length), f l[j] ≠ s) : fstI f s l = none := by
  have := fstI_app (f := f) (s := s) (a := l) (b := []) fun x hx => by
    obtain ⟨j, hj, rfl⟩ := List.mem_iff_getElem.1 hx; exact h j hj
  rw [List.append_nil] at this
  rw [this]; rfl
abbrev optX (o : Option Nat) : X := .tup [iC ((o.getD 0 : Nat) : Int), bC o.isSome]

set_option maxRecDepth 20000 in
theorem find_any (d : List Tb) (z : Nz) (u : ByteArray) (hl : d.length ≤ 17592186044000) : Pure Tryz.prog 83 [scC z d, sC u] (optX (fstI Tb.nm u d)) := by
 intro H
 refine Spec.enter Tryz.func83 rfl ?_
 refine AW.wk (Wk.keep 21 [(0, .c (scC z d)), (1, .c (sC u))] [] (H) rfl ⟨rfl, rfl, trivial⟩ trivial (fun _ _ h => h) rfl) ?_
 refine sR (sA ?_)
 refine sB ?_
 refine AW.seq (sR (sB ?_))
 refine AW.block ?_
 refine AW.loop (fun (i : Nat) s => (i ≤ d.length ∧ ∀ j (h : j < d.length), j < i → Tb.nm d[j] ≠ u) ∧ s = ⟨21, sp [(0, .c (scC z d)), (1, .c (sC u)), (4, .c (iC 0)), (5, .c (bC false)), (6, iX .i64 ((i : Nat) : Int))], lv [], H⟩) (fun i => d.length - i) 0 ⟨_, by exact Wk.keep 21 _ _ _ rfl ⟨rfl, rfl, rfl, rfl, rfl, trivial⟩ trivial (fun _ _ h => h) rfl, ⟨Nat.zero_le _, up0⟩, rfl⟩ (fun i s hs => ?_)
 obtain ⟨⟨hi0, hU⟩, rfl⟩ := hs
 refine AW.seq (sR (sM ?_))
 refine sM ?_
 refine Z14 Fx.un23 ?_
 refine Z10 ?_
 refine Z3 ?_
 refine AW.condD rfl ?_ ?_ <;> intro h10
 ·
  have hi : i < d.length := by rw [List.length_map] at h10; omega
  refine AW.skip (AW.seq (AW.block (sR (sM ?_))))
  refine sM ?_
  refine Z9 Fx.sl23 (idx_map (f := tbT) hi) ?_
  refine SeqK.q (q_fieldP _ rfl Fx.fl64_0 rfl rfl) rfl rfl rfl ?_
  refine Z11 (.a _) Fx.ty9 ?_
  refine sM ?_
  refine SeqK.q (q_eqlS rfl rfl rfl) rfl rfl rfl ?_
  refine Z3 ?_
  refine AW.condD rfl ?_ ?_ <;> intro h19
  ·
   refine sR (sM ?_)
   refine sA ?_
   refine sB ?_
   refine AW.ret ?_
   exact fin_x (x := .tup [_, _]) (H) (.tmp rfl (.tmp rfl .nil)) rfl (fun _ _ h => h) (⟨by rw [fstI_hit (f := Tb.nm) hi hU h19]; rfl, rfl⟩)
  refine AW.skip (AW.reg (sM ?_))
  refine Z2 ?_
  refine sB ?_
  exact ⟨i + 1, _, by exact Wk.keep 21 _ _ _ rfl ⟨rfl, rfl, rfl, rfl, rfl, trivial⟩ trivial (fun _ _ h => h) rfl, by omega, ⟨hi, upS hi hU (h19)⟩, rfl⟩
 refine AW.exit ?_
 refine eth_e ?_
 refine eth_e ?_
 refine exit_here ?_
 refine sR (sA ?_)
 refine sB ?_
 refine AW.ret ?_
 exact fin_x (x := .tup [_, _]) (H) (.tmp rfl (.tmp rfl .nil)) rfl (fun _ _ h => h) (⟨by rw [fstI_no (f := Tb.nm) (upE hU (by rw [List.length_map] at h10; omega))]; rfl, rfl⟩)

set_option maxRecDepth 20000 in
theorem column_no (t : Tb) (u : ByteArray) (hl : t.cols.length ≤ 17592186044000) : Pure Tryz.prog 122 [tbC t, sC u] (optX (fstI Co.nm u t.cols)) := by
 intro H
 refine Spec.enter Tryz.func122 rfl ?_
 refine AW.wk (Wk.keep 23 [(0, .c (tbC t)), (1, .c (sC u))] [] (H) rfl ⟨rfl, rfl, trivial⟩ trivial (fun _ _ h => h) rfl) ?_
 refine sR (Z16 (r := [_, _, _, _, _]) ?_)
 refine sA ?_
 refine sB ?_
 refine AW.seq (sR (sB ?_))
 refine AW.block ?_
 refine AW.loop (fun (i : Nat) s => (i ≤ t.cols.length ∧ ∀ j (h : j < t.cols.length), j < i → Co.nm t.cols[j] ≠ u) ∧ s = ⟨23, sp [(1, .c (sC u)), (2, .lp 2 0), (4, .c (iC 0)), (5, .c (bC false)), (6, iX .i64 ((i : Nat) : Int))], lv [(2, .box (zTb t))], H⟩) (fun i => t.cols.length - i) 0 ⟨_, by exact Wk.keep 23 _ _ _ rfl ⟨rfl, rfl, rfl, rfl, rfl, trivial⟩ ⟨rfl, trivial⟩ (fun _ _ h => h) rfl, ⟨Nat.zero_le _, up0⟩, rfl⟩ (fun i s hs => ?_)
 obtain ⟨⟨hi0, hU⟩, rfl⟩ := hs
 refine AW.seq (sR (sM ?_))
 refine Z1 Fx.fl64_1 ?_
 refine Z0 Fx.ty36 ?_
 refine Z14 Fx.un36 ?_
 refine Z10 ?_
 refine Z3 ?_
 refine AW.condD rfl ?_ ?_ <;> intro h11
 ·
  have hi : i < t.cols.length := by rw [List.length_map] at h11; omega
  refine AW.skip (AW.seq (AW.block (sR (Z1 Fx.fl64_1 ?_))))
  refine Z0 Fx.ty36 ?_
  refine sM ?_
  refine Z9 Fx.sl36 (idx_map (f := coT) hi) ?_
  refine SeqK.q (q_fieldP _ rfl Fx.fl82_0 rfl rfl) rfl rfl rfl ?_
  refine Z11 (.a _) Fx.ty9 ?_
  refine sM ?_
  refine SeqK.q (q_eqlS rfl rfl rfl) rfl rfl rfl ?_
  refine Z3 ?_
  refine AW.condD rfl ?_ ?_ <;> intro h21
  ·
   refine sR (sM ?_)
   refine sA ?_
   refine sB ?_
   refine AW.ret ?_
   exact fin_x (x := .tup [_, _]) (H) (.tmp rfl (.tmp rfl .nil)) rfl (fun _ _ h => h) (⟨by rw [fstI_hit (f := Co.nm) hi hU h21]; rfl, rfl⟩)
  refine AW.skip (AW.reg (sM ?_))
  refine Z2 ?_
  refine sB ?_
  exact ⟨i + 1, _, by exact Wk.keep 23 _ _ _ rfl ⟨rfl, rfl, rfl, rfl, rfl, trivial⟩ ⟨rfl, trivial⟩ (fun _ _ h => h) rfl, by omega, ⟨hi, upS hi hU (h21)⟩, rfl⟩
 refine AW.exit ?_
 refine eth_e ?_
 refine eth_e ?_
 refine exit_here ?_
 refine sR (sA ?_)
 refine sB ?_
 refine AW.ret ?_
 exact fin_x (x := .tup [_, _]) (H) (.tmp rfl (.tmp rfl .nil)) rfl (fun _ _ h => h) (⟨by rw [fstI_no (f := Co.nm) (upE hU (by rw [List.length_map] at h11; omega))]; rfl, rfl⟩)

/-- whether a text contains another -/
abbrev ctnAt (s t : ByteArray) (i : Nat) : Prop := (s.extract i (i + t.size)) = t
abbrev ctnP (s t : ByteArray) : Prop := ∀ j (h : j < s.size + 1 - t.size), ¬ ctnAt s t j

set_option maxRecDepth 20000 in
theorem contains_any (u t : ByteArray) (hs : u.size ≤ 1000000) (ht : t.size ≤ 1000000) : Pure Tryz.prog 120 [sC u, sC t] (.c (bC (decide (¬ ctnP u t)))) := by
 intro H
 refine Spec.enter Tryz.func120 rfl ?_
 refine AW.wk (Wk.keep 24 [(0, .c (sC u)), (1, .c (sC t))] [] (H) rfl ⟨rfl, rfl, trivial⟩ trivial (fun _ _ h => h) rfl) ?_
 refine sR (sB ?_)
 refine AW.seq (sR (sB ?_))
 refine AW.block ?_
 refine AW.loop (fun (i : Nat) s => (i ≤ u.size + 1 - t.size ∧ ∀ j (h : j < u.size + 1 - t.size), j < i → ¬ ctnAt u t j) ∧ s = ⟨24, sp [(0, .c (sC u)), (1, .c (sC t)), (4, .c (bC false)), (5, iX .i64 ((i : Nat) : Int))], lv [], H⟩) (fun i => u.size + 1 - t.size - i) 0 ⟨_, by exact Wk.keep 24 _ _ _ rfl ⟨rfl, rfl, rfl, rfl, trivial⟩ trivial (fun _ _ h => h) rfl, ⟨Nat.zero_le _, up0⟩, rfl⟩ (fun i s hs => ?_)
 obtain ⟨⟨hi0, hU⟩, rfl⟩ := hs
 refine AW.seq (sR (sM ?_))
 refine sM ?_
 refine SeqK.q (q_lenS rfl Fx.un9 rfl) rfl rfl rfl ?_
 refine Z2 ?_
 refine sM ?_
 refine SeqK.q (q_lenS rfl Fx.un9 rfl) rfl rfl rfl ?_
 refine SeqK.q (q_leq rfl rfl rfl) rfl rfl rfl ?_
 refine Z3 ?_
 refine AW.condD rfl ?_ ?_ <;> intro h12
 ·
  have hi : i < u.size + 1 - t.size := by omega
  refine AW.skip (AW.seq (AW.block (sR (sM ?_))))
  refine sM ?_
  refine sM ?_
  refine sM ?_
  refine SeqK.q (q_lenS rfl Fx.un9 rfl) rfl rfl rfl ?_
  refine SeqK.q (q_add _ rfl rfl rfl ((by rw [w64 (by omega) (by omega)]; omega : IntKind.i64.wrap _ = ((i + t.size : Nat) : Int)))) rfl rfl rfl ?_
  refine SeqK.q (q_cutS i (i + t.size) (u.extract i (i + t.size)) rfl Fx.un9 rfl (by first | rfl | exact ⟨_, rfl⟩) (by first | rfl | exact ⟨_, rfl⟩) (by omega) (by omega) rfl) rfl rfl rfl ?_
  refine sM ?_
  refine SeqK.q (q_eqlS rfl rfl rfl) rfl rfl rfl ?_
  refine Z3 ?_
  refine AW.condD rfl ?_ ?_ <;> intro h23
  ·
   refine sR (sB ?_)
   refine AW.ret ?_
   exact f1 (q := ⟨bCe (dT (fun h => h i hi h23)), rfl⟩)
  refine AW.skip (AW.reg (sM ?_))
  refine Z2 ?_
  refine sB ?_
  exact ⟨i + 1, _, by exact Wk.keep 24 _ _ _ rfl ⟨rfl, rfl, rfl, rfl, trivial⟩ trivial (fun _ _ h => h) rfl, by omega, ⟨hi, upS hi hU h23⟩, rfl⟩
 refine AW.exit ?_
 refine eth_e ?_
 refine eth_e ?_
 refine exit_here ?_
 refine sR (sB ?_)
 refine AW.ret ?_
 exact f1 (q := ⟨bCe (dF (fun h => h (upE hU (by omega)))), rfl⟩)

end Go.Proofs.YtihlgigaejhilaaGreatDoor.W
namespace Go.Proofs.YtihlgigaejhilaaGreatDoor.W
open Go.RowKit E
def kwd : ByteArray := ⟨#[32, 97, 110, 100, 32, 97, 115, 32, 97, 115, 99, 32, 98, 101, 103, 105, 110, 32, 98, 101, 116, 119, 101, 101, 110, 32, 98, 121, 32, 99, 104, 101, 99, 107, 32, 99, 111, 109, 109, 105, 116, 32, 99, 111, 117, 110, 116, 32, 99, 114, 101, 97, 116, 101, 32, 100, 101, 108, 101, 116, 101, 32, 100, 101, 115, 99, 32, 102, 111, 114, 101, 105, 103, 110, 32, 102, 114, 111, 109, 32, 103, 114, 111, 117, 112, 32, 105, 110, 32, 105, 110, 115, 101, 114, 116, 32, 105, 110, 116, 101, 103, 101, 114, 32, 105, 110, 116, 111, 32, 105, 115, 32, 106, 111, 105, 110, 32, 107, 101, 121, 32, 108, 101, 110, 103, 116, 104, 32, 108, 105, 107, 101, 32, 108, 105, 109, 105, 116, 32, 109, 97, 120, 32, 109, 105, 110, 32, 110, 111, 116, 32, 110, 117, 108, 108, 32, 111, 110, 32, 111, 114, 32, 111, 114, 100, 101, 114, 32, 112, 114, 105, 109, 97, 114, 121, 32, 114, 101, 102, 101, 114, 101, 110, 99, 101, 115, 32, 114, 101, 108, 101, 97, 115, 101, 32, 114, 111, 108, 108, 98, 97, 99, 107, 32, 115, 97, 118, 101, 112, 111, 105, 110, 116, 32, 115, 101, 108, 101, 99, 116, 32, 115, 101, 116, 32, 115, 117, 109, 32, 116, 97, 98, 108, 101, 32, 116, 101, 120, 116, 32, 116, 111, 32, 117, 110, 105, 113, 117, 101, 32, 117, 112, 100, 97, 116, 101, 32, 118, 97, 108, 117, 101, 115, 32, 119, 104, 101, 114, 101, 32]⟩
def spc : ByteArray := ⟨#[32]⟩
theorem kwd_size : kwd.size = 270 := by decide +kernel
theorem idx_ba {u : ByteArray} {i : Nat} (h : i < u.data.toList.length) : u.data.toList[((i : Nat) : Int).toNat]? = some u.data.toList[i] := by
  rw [Int.toNat_natCast]; exact List.getElem?_eq_getElem h
abbrev chrP (b : UInt8) : Prop := (97 ≤ b.toNat ∧ b.toNat ≤ 122) ∨ (48 ≤ b.toNat ∧ b.toNat ≤ 57) ∨ b.toNat = 95
abbrev nmeP (u : ByteArray) : Prop := (1 ≤ u.size ∧ u.size ≤ 24) ∧ (∀ h : 0 < u.data.toList.length, 97 ≤ u.data.toList[0].toNat ∧ u.data.toList[0].toNat ≤ 122) ∧ (∀ j (h : j < u.data.toList.length), chrP u.data.toList[j]) ∧ ctnP kwd (spc ++ u ++ spc)
instance : DecidablePred nmeP := fun u => @instDecidableAnd _ _ inferInstance (@instDecidableAnd _ _ inferInstance inferInstance)

set_option maxRecDepth 20000 in
theorem keywords_any  : Pure Tryz.prog 121 [] (.c (sC kwd)) := by
 intro H
 refine Spec.enter Tryz.func121 rfl ?_
 refine AW.wk (Wk.keep 1 [] [] (H) rfl trivial trivial (fun _ _ h => h) rfl) ?_
 refine sR (sB ?_)
 refine sR (sB ?_)
 refine AW.ret ?_
 exact fin_x (x := .c _) H (.tmp rfl .nil) rfl (fun _ _ h => h) ⟨rfl, rfl⟩

set_option maxHeartbeats 4000000 in
set_option maxRecDepth 20000 in
theorem name_any (u : ByteArray) (hu : u.size ≤ 1000000000000000) : Pure Tryz.prog 81 [sC u] (.c (bC (decide (nmeP u)))) := by
  intro H
  refine Spec.enter Tryz.func81 rfl ?_
  refine AW.wk (Wk.keep 63 [(0, .c (sC u))] [] (H) rfl ⟨rfl, trivial⟩ trivial (fun _ _ h => h) rfl) ?_
  refine sR (sB ?_)
  refine AW.seq (AW.seq ?_)
  have hl := ba_len u
  have e1 : spc.size = 1 := rfl
  have e2 : (⟨#[32]⟩ : ByteArray).size = 1 := rfl
  refine AW.reg (sM ?_)
  refine SeqK.q (q_lenS rfl Fx.un9 rfl) rfl rfl rfl ?_
  refine Z10 ?_
  refine Z19 (fun g7 => ?_) (fun g7 => ?_)
  ·
    iterate 3 refine SeqK.off rfl rfl rfl rfl rfl rfl ?_
    refine Z4 ?_
    refine sM ?_
    iterate 3 refine SeqK.off rfl rfl rfl rfl rfl rfl ?_
    refine Z4 ?_
    refine sM ?_
    iterate 3 refine SeqK.off rfl rfl rfl rfl rfl rfl ?_
    refine Z4 ?_
    refine Z3 (AW.condT rfl ?_)
    refine sR (sB ?_)
    refine AW.ret ?_
    exact f1 (q := ⟨bCe (dF (fun h => by first | (have := h.1; omega) | (have h9 := h.2.1 h0; omega))), rfl⟩)
  ·
    refine Z13 ?_
    refine SeqK.on (q_lenS rfl Fx.un9 rfl) rfl rfl rfl rfl rfl ?_
    refine Z35 ?_
    refine Z7 ?_
    refine Z19 (fun g12 => ?_) (fun g12 => ?_)
    ·
      iterate 3 refine SeqK.off rfl rfl rfl rfl rfl rfl ?_
      refine Z4 ?_
      refine sM ?_
      iterate 3 refine SeqK.off rfl rfl rfl rfl rfl rfl ?_
      refine Z4 ?_
      refine Z3 (AW.condT rfl ?_)
      refine sR (sB ?_)
      refine AW.ret ?_
      exact f1 (q := ⟨bCe (dF (fun h => by first | (have := h.1; omega) | (have h9 := h.2.1 h0; omega))), rfl⟩)
    ·
      have h0 : 0 < u.data.toList.length := by omega
      refine Z13 ?_
      refine Z41 Fx.un9 (idx_ba (i := 0) h0) ?_
      refine SeqK.on (q_lss rfl rfl rfl) rfl rfl rfl rfl rfl ?_
      refine Z7 ?_
      refine Z19 (fun g17 => ?_) (fun g17 => ?_)
      ·
        iterate 3 refine SeqK.off rfl rfl rfl rfl rfl rfl ?_
        refine Z4 ?_
        refine Z3 (AW.condT rfl ?_)
        refine sR (sB ?_)
        refine AW.ret ?_
        exact f1 (q := ⟨bCe (dF (fun h => by first | (have := h.1; omega) | (have h9 := h.2.1 h0; omega))), rfl⟩)
      ·
        refine Z13 ?_
        refine Z41 Fx.un9 (idx_ba (i := 0) h0) ?_
        refine Z35 ?_
        refine Z7 ?_
        refine Z3 ?_
        refine AW.condD rfl ?_ ?_ <;> intro h21
        ·
          refine sR (sB ?_)
          refine AW.ret ?_
          exact f1 (q := ⟨bCe (dF (fun h => by first | (have := h.1; omega) | (have h9 := h.2.1 h0; omega))), rfl⟩)
        ·
          refine AW.skip (AW.seq (AW.seq ?_))
          have hsz : 1 ≤ u.size ∧ u.size ≤ 24 := by omega
          have hfst : 97 ≤ u.data.toList[0].toNat ∧ u.data.toList[0].toNat ≤ 122 := by omega
          refine AW.reg (sB ?_)
          refine AW.block ?_
          refine AW.loop (fun (i : Nat) s => (i ≤ u.data.toList.length ∧ ∀ j (h : j < u.data.toList.length), j < i → chrP u.data.toList[j]) ∧ s = ⟨63, sp [(0, .c (sC u)), (2, .c (bC false)), (3, iX .i64 ((i : Nat) : Int))], lv [], H⟩) (fun i => u.data.toList.length - i) 0 ⟨_, by exact Wk.keep 63 _ _ _ rfl ⟨rfl, rfl, rfl, trivial⟩ trivial (fun _ _ h => h) rfl, ⟨Nat.zero_le _, up0⟩, rfl⟩ (fun i s hs => ?_)
          obtain ⟨⟨hi0, hU⟩, rfl⟩ := hs
          refine AW.seq (sR (sM ?_))
          refine sM ?_
          refine SeqK.q (q_lenS rfl Fx.un9 rfl) rfl rfl rfl ?_
          refine Z10 ?_
          refine Z3 ?_
          refine AW.condD rfl ?_ ?_ <;> intro h25
          ·
            have hi : i < u.data.toList.length := by omega
            refine AW.skip (AW.seq (AW.block (sR (sM ?_))))
            refine sM ?_
            refine SeqK.q (q_indexS _ rfl Fx.un9 rfl rfl (by omega) (idx_ba hi)) rfl rfl rfl ?_
            refine SeqK.q (q_geq rfl rfl rfl) rfl rfl rfl ?_
            refine Z19 (fun g32 => ?_) (fun g32 => ?_)
            ·
              refine Z13 ?_
              refine Z13 ?_
              refine Z41 Fx.un9 (idx_ba hi) ?_
              refine SeqK.on (q_leq rfl rfl rfl) rfl rfl rfl rfl rfl ?_
              refine Z4 ?_
              refine Z19 (fun g38 => ?_) (fun g38 => ?_)
              ·
                iterate 5 refine SeqK.off rfl rfl rfl rfl rfl rfl ?_
                iterate 4 refine SeqK.offU rfl rfl rfl rfl rfl ?_
                refine SeqK.off rfl rfl rfl rfl rfl rfl ?_
                refine Z4 ?_
                refine sM ?_
                iterate 4 refine SeqK.off rfl rfl rfl rfl rfl rfl ?_
                refine Z4 ?_
                refine Z33 ?_
                refine Z3 (AW.condF rfl ?_)
                refine AW.skip (AW.reg (sM ?_))
                refine Z2 ?_
                refine sB ?_
                exact ⟨i + 1, _, by exact Wk.keep 63 _ _ _ rfl ⟨rfl, rfl, rfl, trivial⟩ trivial (fun _ _ h => h) rfl, by omega, ⟨hi, upS hi hU (by show (_ ∧ _) ∨ (_ ∧ _) ∨ _ = _; omega)⟩, rfl⟩
              ·
                refine Z13 ?_
                refine Z13 ?_
                refine Z41 Fx.un9 (idx_ba hi) ?_
                refine SeqK.on (q_geq rfl rfl rfl) rfl rfl rfl rfl rfl ?_
                refine SeqK.onD (q_mvC rfl rfl) rfl rfl rfl rfl rfl (fun g43 => ?_) (fun g43 => ?_)
                ·
                  refine Z13 ?_
                  refine Z13 ?_
                  refine Z41 Fx.un9 (idx_ba hi) ?_
                  refine SeqK.on (q_leq rfl rfl rfl) rfl rfl rfl rfl rfl ?_
                  refine Z42 ?_
                  refine Z7 ?_
                  refine Z19 (fun g50 => ?_) (fun g50 => ?_)
                  ·
                    iterate 4 refine SeqK.off rfl rfl rfl rfl rfl rfl ?_
                    refine Z4 ?_
                    refine Z33 ?_
                    refine Z3 (AW.condF rfl ?_)
                    refine AW.skip (AW.reg (sM ?_))
                    refine Z2 ?_
                    refine sB ?_
                    exact ⟨i + 1, _, by exact Wk.keep 63 _ _ _ rfl ⟨rfl, rfl, rfl, trivial⟩ trivial (fun _ _ h => h) rfl, by omega, ⟨hi, upS hi hU (by show (_ ∧ _) ∨ (_ ∧ _) ∨ _ = _; omega)⟩, rfl⟩
                  ·
                    refine Z13 ?_
                    refine Z13 ?_
                    refine Z41 Fx.un9 (idx_ba hi) ?_
                    refine Z44 ?_
                    refine Z7 ?_
                    refine Z33 ?_
                    refine Z3 ?_
                    refine AW.cond _ rfl (fun h56 => ?_) (fun h56 => ?_)
                    ·
                      have h57 := nd_t h56
                      refine sR (sB ?_)
                      refine AW.ret ?_
                      exact f1 (q := ⟨bCe (dF (fun h => by have h9 : (97 ≤ u.data.toList[i].toNat ∧ u.data.toList[i].toNat ≤ 122) ∨ (48 ≤ u.data.toList[i].toNat ∧ u.data.toList[i].toNat ≤ 57) ∨ u.data.toList[i].toNat = 95 := h.2.2.1 i hi; omega)), rfl⟩)
                    ·
                      have h57 := nd_f h56
                      refine AW.skip (AW.reg (sM ?_))
                      refine Z2 ?_
                      refine sB ?_
                      exact ⟨i + 1, _, by exact Wk.keep 63 _ _ _ rfl ⟨rfl, rfl, rfl, trivial⟩ trivial (fun _ _ h => h) rfl, by omega, ⟨hi, upS hi hU (by show (_ ∧ _) ∨ (_ ∧ _) ∨ _ = _; omega)⟩, rfl⟩
                ·
                  iterate 4 refine SeqK.off rfl rfl rfl rfl rfl rfl ?_
                  refine Z46 ?_
                  refine Z7 ?_
                  refine sM ?_
                  refine Z13 ?_
                  refine Z13 ?_
                  refine Z41 Fx.un9 (idx_ba hi) ?_
                  refine Z44 ?_
                  refine Z7 ?_
                  refine Z33 ?_
                  refine Z3 ?_
                  refine AW.cond _ rfl (fun h56 => ?_) (fun h56 => ?_)
                  ·
                    have h57 := nd_t h56
                    refine sR (sB ?_)
                    refine AW.ret ?_
                    exact f1 (q := ⟨bCe (dF (fun h => by have h9 : (97 ≤ u.data.toList[i].toNat ∧ u.data.toList[i].toNat ≤ 122) ∨ (48 ≤ u.data.toList[i].toNat ∧ u.data.toList[i].toNat ≤ 57) ∨ u.data.toList[i].toNat = 95 := h.2.2.1 i hi; omega)), rfl⟩)
                  ·
                    have h57 := nd_f h56
                    refine AW.skip (AW.reg (sM ?_))
                    refine Z2 ?_
                    refine sB ?_
                    exact ⟨i + 1, _, by exact Wk.keep 63 _ _ _ rfl ⟨rfl, rfl, rfl, trivial⟩ trivial (fun _ _ h => h) rfl, by omega, ⟨hi, upS hi hU (by show (_ ∧ _) ∨ (_ ∧ _) ∨ _ = _; omega)⟩, rfl⟩
            ·
              iterate 4 refine SeqK.off rfl rfl rfl rfl rfl rfl ?_
              refine Z7 ?_
              refine sM ?_
              refine Z13 ?_
              refine Z13 ?_
              refine Z41 Fx.un9 (idx_ba hi) ?_
              refine SeqK.on (q_geq rfl rfl rfl) rfl rfl rfl rfl rfl ?_
              refine SeqK.onD (q_mvC rfl rfl) rfl rfl rfl rfl rfl (fun g43 => ?_) (fun g43 => ?_)
              ·
                refine Z13 ?_
                refine Z13 ?_
                refine Z41 Fx.un9 (idx_ba hi) ?_
                refine SeqK.on (q_leq rfl rfl rfl) rfl rfl rfl rfl rfl ?_
                refine Z42 ?_
                refine Z7 ?_
                refine Z19 (fun g50 => ?_) (fun g50 => ?_)
                ·
                  iterate 4 refine SeqK.off rfl rfl rfl rfl rfl rfl ?_
                  refine Z4 ?_
                  refine Z33 ?_
                  refine Z3 (AW.condF rfl ?_)
                  refine AW.skip (AW.reg (sM ?_))
                  refine Z2 ?_
                  refine sB ?_
                  exact ⟨i + 1, _, by exact Wk.keep 63 _ _ _ rfl ⟨rfl, rfl, rfl, trivial⟩ trivial (fun _ _ h => h) rfl, by omega, ⟨hi, upS hi hU (by show (_ ∧ _) ∨ (_ ∧ _) ∨ _ = _; omega)⟩, rfl⟩
                ·
                  refine Z13 ?_
                  refine Z13 ?_
                  refine Z41 Fx.un9 (idx_ba hi) ?_
                  refine Z44 ?_
                  refine Z7 ?_
                  refine Z33 ?_
                  refine Z3 ?_
                  refine AW.cond _ rfl (fun h56 => ?_) (fun h56 => ?_)
                  ·
                    have h57 := nd_t h56
                    refine sR (sB ?_)
                    refine AW.ret ?_
                    exact f1 (q := ⟨bCe (dF (fun h => by have h9 : (97 ≤ u.data.toList[i].toNat ∧ u.data.toList[i].toNat ≤ 122) ∨ (48 ≤ u.data.toList[i].toNat ∧ u.data.toList[i].toNat ≤ 57) ∨ u.data.toList[i].toNat = 95 := h.2.2.1 i hi; omega)), rfl⟩)
                  ·
                    have h57 := nd_f h56
                    refine AW.skip (AW.reg (sM ?_))
                    refine Z2 ?_
                    refine sB ?_
                    exact ⟨i + 1, _, by exact Wk.keep 63 _ _ _ rfl ⟨rfl, rfl, rfl, trivial⟩ trivial (fun _ _ h => h) rfl, by omega, ⟨hi, upS hi hU (by show (_ ∧ _) ∨ (_ ∧ _) ∨ _ = _; omega)⟩, rfl⟩
              ·
                iterate 4 refine SeqK.off rfl rfl rfl rfl rfl rfl ?_
                refine Z46 ?_
                refine Z7 ?_
                refine sM ?_
                refine Z13 ?_
                refine Z13 ?_
                refine Z41 Fx.un9 (idx_ba hi) ?_
                refine Z44 ?_
                refine Z7 ?_
                refine Z33 ?_
                refine Z3 ?_
                refine AW.cond _ rfl (fun h56 => ?_) (fun h56 => ?_)
                ·
                  have h57 := nd_t h56
                  refine sR (sB ?_)
                  refine AW.ret ?_
                  exact f1 (q := ⟨bCe (dF (fun h => by have h9 : (97 ≤ u.data.toList[i].toNat ∧ u.data.toList[i].toNat ≤ 122) ∨ (48 ≤ u.data.toList[i].toNat ∧ u.data.toList[i].toNat ≤ 57) ∨ u.data.toList[i].toNat = 95 := h.2.2.1 i hi; omega)), rfl⟩)
                ·
                  have h57 := nd_f h56
                  refine AW.skip (AW.reg (sM ?_))
                  refine Z2 ?_
                  refine sB ?_
                  exact ⟨i + 1, _, by exact Wk.keep 63 _ _ _ rfl ⟨rfl, rfl, rfl, trivial⟩ trivial (fun _ _ h => h) rfl, by omega, ⟨hi, upS hi hU (by show (_ ∧ _) ∨ (_ ∧ _) ∨ _ = _; omega)⟩, rfl⟩
          ·
            refine AW.exit ?_
            refine eth_e ?_
            refine eth_e ?_
            refine exit_here ?_
            refine AW.seq ?_
            have hA := upE hU (by omega)
            refine AW.reg (Z22 Fx.fn121 (keywords_any) ?_)
            refine sM ?_
            refine SeqK.q (q_addS rfl rfl rfl (by omega)) rfl rfl rfl ?_
            refine SeqK.q (q_addS rfl rfl rfl (by simp only [ByteArray.size_append]; omega)) rfl rfl rfl ?_
            refine SeqK.q (q_call _ rfl Fx.fn120 rfl (contains_any kwd (spc ++ u ++ spc) (by rw [kwd_size]; omega) (by rw [ByteArray.size_append, ByteArray.size_append]; omega)) rfl) rfl rfl rfl ?_
            refine Z33 ?_
            refine sB ?_
            refine AW.ret ?_
            exact f1 (q := ⟨bCe (by
              by_cases hk : ctnP kwd (spc ++ u ++ spc)
              · rw [decide_eq_false (fun h => h hk)]; exact dT ⟨hsz, fun _ => hfst, hA, hk⟩
              · rw [decide_eq_true hk]; exact dF (fun h => hk h.2.2.2)), rfl⟩)

abbrev colP (c : Co) : Prop := nmeP c.nm ∧ ((c.ty = 1 ∧ -2147483648 ≤ c.lo ∧ c.lo ≤ c.hi ∧ c.hi ≤ 2147483647 ∧ c.mx = 0) ∨ (c.ty = 2 ∧ 1 ≤ c.mx ∧ c.mx ≤ 16 ∧ c.lo = 0 ∧ c.hi = 0))

set_option maxHeartbeats 4000000 in
set_option maxRecDepth 20000 in
theorem column_any (c : Co) (hs : c.nm.size ≤ 1000000000000000) : Pure Tryz.prog 82 [coC c] (.c (bC (decide (colP c)))) := by
 intro H
 refine Spec.enter Tryz.func82 rfl ?_
 refine AW.wk (Wk.keep 53 [(0, .c (coC c))] [] (H) rfl ⟨rfl, trivial⟩ trivial (fun _ _ h => h) rfl) ?_
 refine sR (Z16 (r := [_, _, _, _, _, _]) ?_)
 refine sB ?_
 refine AW.seq (sR (Z1 Fx.fl82_0 ?_))
 refine Z0 Fx.ty9 ?_
 refine Z22 Fx.fn81 (name_any c.nm hs) ?_
 refine Z33 ?_
 refine Z3 ?_
 refine AW.cond _ rfl (fun h6 => ?_) (fun h6 => ?_)
 ·
  have hN : ¬ nmeP c.nm := nd_t h6
  refine sR (sB ?_)
  refine AW.ret ?_
  exact f1 (q := ⟨bCe (dF (fun h => hN h.1)), rfl⟩)
 have hN : nmeP c.nm := nd_f h6
 refine AW.skip (AW.seq (sR (Z1 Fx.fl82_1 ?_)))
 refine Z0 Fx.ty3 ?_
 refine Z8 ?_
 refine Z3 ?_
 refine AW.condD rfl ?_ ?_ <;> intro h9
 ·
  refine sR (Z1 Fx.fl82_2 ?_)
  refine Z0 Fx.ty2 ?_
  refine SeqK.q (q_geq rfl rfl rfl) rfl rfl rfl ?_
  refine Z19 (fun g13 => ?_) (fun g13 => ?_)
  ·
   refine Z6 Fx.fl82_2 ?_
   refine Z5 Fx.ty2 ?_
   refine Z6 Fx.fl82_3 ?_
   refine Z5 Fx.ty2 ?_
   refine SeqK.on (q_leq rfl rfl rfl) rfl rfl rfl rfl rfl ?_
   refine Z4 ?_
   refine Z19 (fun g20 => ?_) (fun g20 => ?_)
   ·
    refine Z6 Fx.fl82_3 ?_
    refine Z5 Fx.ty2 ?_
    refine SeqK.on (q_leq rfl rfl rfl) rfl rfl rfl rfl rfl ?_
    refine Z4 ?_
    refine Z19 (fun g25 => ?_) (fun g25 => ?_)
    ·
     refine Z6 Fx.fl82_4 ?_
     refine Z5 Fx.ty3 ?_
     refine Z44 ?_
     refine Z4 ?_
     refine sB ?_
     refine AW.ret ?_
     exact f1 (q := ⟨bCe (by first | exact dF (fun h => by have := h.2; omega) | exact dI ⟨fun h => ⟨hN, by omega⟩, fun h => by have := h.2; omega⟩), rfl⟩)
    iterate 3 refine SeqK.off rfl rfl rfl rfl rfl rfl ?_
    refine Z7 ?_
    refine sB ?_
    refine AW.ret ?_
    exact f1 (q := ⟨bCe (by first | exact dF (fun h => by have := h.2; omega) | exact dI ⟨fun h => ⟨hN, by omega⟩, fun h => by have := h.2; omega⟩), rfl⟩)
   iterate 3 refine SeqK.off rfl rfl rfl rfl rfl rfl ?_
   refine Z7 ?_
   refine sM ?_
   iterate 3 refine SeqK.off rfl rfl rfl rfl rfl rfl ?_
   refine Z7 ?_
   refine sB ?_
   refine AW.ret ?_
   exact f1 (q := ⟨bCe (by first | exact dF (fun h => by have := h.2; omega) | exact dI ⟨fun h => ⟨hN, by omega⟩, fun h => by have := h.2; omega⟩), rfl⟩)
  iterate 5 refine SeqK.off rfl rfl rfl rfl rfl rfl ?_
  refine Z7 ?_
  refine sM ?_
  iterate 3 refine SeqK.off rfl rfl rfl rfl rfl rfl ?_
  refine Z7 ?_
  refine sM ?_
  iterate 3 refine SeqK.off rfl rfl rfl rfl rfl rfl ?_
  refine Z7 ?_
  refine sB ?_
  refine AW.ret ?_
  exact f1 (q := ⟨bCe (by first | exact dF (fun h => by have := h.2; omega) | exact dI ⟨fun h => ⟨hN, by omega⟩, fun h => by have := h.2; omega⟩), rfl⟩)
 refine AW.skip (sR (Z1 Fx.fl82_1 ?_))
 refine Z0 Fx.ty3 ?_
 refine Z8 ?_
 refine Z19 (fun g33 => ?_) (fun g33 => ?_)
 ·
  refine Z6 Fx.fl82_4 ?_
  refine Z5 Fx.ty3 ?_
  refine SeqK.on (q_geq rfl rfl rfl) rfl rfl rfl rfl rfl ?_
  refine Z4 ?_
  refine Z19 (fun g38 => ?_) (fun g38 => ?_)
  ·
   refine Z6 Fx.fl82_4 ?_
   refine Z5 Fx.ty3 ?_
   refine SeqK.on (q_leq rfl rfl rfl) rfl rfl rfl rfl rfl ?_
   refine Z4 ?_
   refine Z19 (fun g43 => ?_) (fun g43 => ?_)
   ·
    refine Z6 Fx.fl82_2 ?_
    refine Z5 Fx.ty2 ?_
    refine Z44 ?_
    refine Z4 ?_
    refine Z19 (fun g48 => ?_) (fun g48 => ?_)
    ·
     refine Z6 Fx.fl82_3 ?_
     refine Z5 Fx.ty2 ?_
     refine Z44 ?_
     refine Z4 ?_
     refine sB ?_
     refine AW.ret ?_
     exact f1 (q := ⟨bCe (by first | exact dF (fun h => by have := h.2; omega) | exact dI ⟨fun h => ⟨hN, by omega⟩, fun h => by have := h.2; omega⟩), rfl⟩)
    iterate 3 refine SeqK.off rfl rfl rfl rfl rfl rfl ?_
    refine Z7 ?_
    refine sB ?_
    refine AW.ret ?_
    exact f1 (q := ⟨bCe (by first | exact dF (fun h => by have := h.2; omega) | exact dI ⟨fun h => ⟨hN, by omega⟩, fun h => by have := h.2; omega⟩), rfl⟩)
   iterate 3 refine SeqK.off rfl rfl rfl rfl rfl rfl ?_
   refine Z7 ?_
   refine sM ?_
   iterate 3 refine SeqK.off rfl rfl rfl rfl rfl rfl ?_
   refine Z7 ?_
   refine sB ?_
   refine AW.ret ?_
   exact f1 (q := ⟨bCe (by first | exact dF (fun h => by have := h.2; omega) | exact dI ⟨fun h => ⟨hN, by omega⟩, fun h => by have := h.2; omega⟩), rfl⟩)
  iterate 3 refine SeqK.off rfl rfl rfl rfl rfl rfl ?_
  refine Z7 ?_
  refine sM ?_
  iterate 3 refine SeqK.off rfl rfl rfl rfl rfl rfl ?_
  refine Z7 ?_
  refine sM ?_
  iterate 3 refine SeqK.off rfl rfl rfl rfl rfl rfl ?_
  refine Z7 ?_
  refine sB ?_
  refine AW.ret ?_
  exact f1 (q := ⟨bCe (by first | exact dF (fun h => by have := h.2; omega) | exact dI ⟨fun h => ⟨hN, by omega⟩, fun h => by have := h.2; omega⟩), rfl⟩)
 iterate 3 refine SeqK.off rfl rfl rfl rfl rfl rfl ?_
 refine Z7 ?_
 refine sM ?_
 iterate 3 refine SeqK.off rfl rfl rfl rfl rfl rfl ?_
 refine Z7 ?_
 refine sM ?_
 iterate 3 refine SeqK.off rfl rfl rfl rfl rfl rfl ?_
 refine Z7 ?_
 refine sM ?_
 iterate 3 refine SeqK.off rfl rfl rfl rfl rfl rfl ?_
 refine Z7 ?_
 refine sB ?_
 refine AW.ret ?_
 exact f1 (q := ⟨bCe (by first | exact dF (fun h => by have := h.2; omega) | exact dI ⟨fun h => ⟨hN, by omega⟩, fun h => by have := h.2; omega⟩), rfl⟩)

end Go.Proofs.YtihlgigaejhilaaGreatDoor.W
namespace Go.Proofs.YtihlgigaejhilaaGreatDoor.W
open Go.RowKit E
abbrev co0 : Co := ⟨⟨#[]⟩, 0, 0, 0, 0, false⟩
abbrev colAt (t : Tb) (v : Int) : Co := t.cols.getD v.toNat co0
theorem colAt_get {t : Tb} {v : Int} (h : v.toNat < t.cols.length) : colAt t v = t.cols[v.toNat] := by
  show t.cols.getD v.toNat co0 = _; rw [List.getD_eq_getElem?_getD, List.getElem?_eq_getElem h]; rfl
/-- numbers of columns, if there are such -/
abbrev nbP (cs : List Co) (l : List ByteArray) : Prop := ∀ j (h : j < l.length), (fstI Co.nm l[j] cs).isSome = true
abbrev nbL (cs : List Co) (l : List ByteArray) : List Int := l.map fun u => (((fstI Co.nm u cs).getD 0 : Nat) : Int)
abbrev nbX (cs : List Co) (l : List ByteArray) : X := if nbP cs l then .tup [iL .un (nbL cs l), bC true] else .tup [iL .un [], bC false]

set_option maxRecDepth 20000 in
theorem names_any (t : Tb) (l : List Int) (z : Nz) (hl : l.length ≤ 1000000) (hin : insP t l) (hc : t.cols.length ≤ 17592186044000) : Pure Tryz.prog 50 [tbC t, iL z l] (.c (sL .un (l.map fun v => (colAt t v).nm))) := by
 intro H
 refine Spec.enter Tryz.func50 rfl ?_
 refine AW.wk (Wk.keep 26 [(0, .c (tbC t)), (1, .c (iL z l))] [] (H) rfl ⟨rfl, rfl, trivial⟩ trivial (fun _ _ h => h) rfl) ?_
 refine sR (Z16 (r := [_, _, _, _, _]) ?_)
 refine sB ?_
 refine sR (sB ?_)
 refine AW.seq (sR (sB ?_))
 refine AW.block ?_
 refine AW.tip 5 9 1 rfl (fun k0 hk0 => ?_)
 refine AW.loop (fun (i : Nat) s => ∃ (kt : Nat) (zs : List (List E.T)), (i ≤ l.length ∧ H kt = none ∧ zs = ((l.take i).map fun v => (colAt t v).nm).map sT) ∧ s = ⟨26, sp [(1, .c (iL z l)), (2, .lp 2 0), (5, .c (.a (.ts kt .ne 1 zs))), (6, iX .i64 ((i : Nat) : Int))], lv [(2, .box (zTb t))], upd H kt (some (.tip 9 1 zs.length))⟩) (fun i => l.length - i) 0 ⟨_, by exact Wk.keep 26 _ _ _ rfl ⟨rfl, rfl, rfl, rfl, trivial⟩ ⟨rfl, trivial⟩ (fun _ _ h => h) rfl, k0, [], ⟨Nat.zero_le _, hk0, rfl⟩, rfl⟩ (fun i s hs => ?_)
 obtain ⟨kt, zs, ⟨hi0, hkt, hzs⟩, rfl⟩ := hs
 refine AW.seq (sR (sM ?_))
 refine sM ?_
 refine Z14 Fx.un24 ?_
 refine Z10 ?_
 refine Z3 ?_
 refine AW.condD rfl ?_ ?_ <;> intro h10
 ·
  have hi : i < l.length := by rw [List.length_map] at h10; omega
  have hiv := hin i hi
  have hv : l[i].toNat < t.cols.length := by omega
  have hca := colAt_get hv
  refine AW.skip (AW.seq (AW.block ?_))
  refine AW.drawO [0, 1, 2, 3, 4, 5, 6, 7, 8, 9, 10, 11, 12] Fx.mo (by kernel_rfl) ?_
  refine LexO.q rfl (by kernel_rfl) (q_mvC rfl rfl) rfl rfl rfl ?_
  refine Z32 Fx.fl64_1 ?_
  refine Z40 Fx.ty36 ?_
  refine LexO.q rfl (by kernel_rfl) (q_mvC rfl rfl) rfl rfl rfl ?_
  refine LexO.q rfl (by kernel_rfl) (q_mvC rfl rfl) rfl rfl rfl ?_
  refine LexO.q rfl (by kernel_rfl) (q_index _ rfl Fx.sl24 rfl rfl (by omega) (idx_map (f := i64T) hi)) rfl rfl rfl ?_
  refine LexO.q rfl (by kernel_rfl) (q_load (.a _) rfl Fx.ty3 rfl rfl rfl) rfl rfl rfl ?_
  refine LexO.q rfl (by kernel_rfl) (q_index _ rfl Fx.sl36 rfl rfl (by omega) (idx_map (f := coT) hv)) rfl rfl rfl ?_
  refine LexO.q rfl (by kernel_rfl) (q_fieldP _ rfl Fx.fl82_0 rfl rfl) rfl rfl rfl ?_
  refine LexO.q rfl (by kernel_rfl) (q_load (.a _) rfl Fx.ty9 rfl rfl rfl) rfl rfl rfl ?_
  refine LexO.q rfl (by kernel_rfl) (q_buildSlice _ rfl Fx.el25 rfl (by decide) rfl) rfl rfl rfl ?_
  refine LexO.app1 rfl (by kernel_rfl) (by kernel_rfl) (by kernel_rfl) rfl (hkt) rfl Fx.el25 rfl rfl (by simp [hzs]; omega) rfl rfl (fun k24 hk24 => ?_)
  refine LexO.q rfl (by kernel_rfl) (q_asC rfl rfl) rfl rfl rfl ?_
  refine LexO.nil (by kernel_rfl) ?_
  refine AW.reg (sM ?_)
  refine Z2 ?_
  refine sB ?_
  exact ⟨i + 1, _, by exact Wk.keep 26 _ _ _ rfl ⟨rfl, rfl, rfl, rfl, trivial⟩ ⟨rfl, trivial⟩ (fun _ _ h => h) rfl, by omega, k24, zs ++ [sT t.cols[l[i].toNat].nm], ⟨hi, hk24, by rw [hzs, take_put hi, List.map_append, List.map_append, List.map_singleton, List.map_singleton, hca]⟩, rfl⟩
 refine AW.exit ?_
 refine eth_e ?_
 refine eth_e ?_
 refine exit_here ?_
 refine AW.seq ?_
 obtain rfl : i = l.length := by rw [List.length_map] at h10; omega
 rw [List.take_length] at hzs
 refine AW.xw 5 rfl (XW.ts.trans (XW.es hzs)) ?_
 refine AW.reg (sM ?_)
 refine sB ?_
 refine AW.ret ?_
 exact fin_x (x := .c _) (H) (.tmp rfl .nil) rfl ((fun j o h => upd_sub hkt j o h)) (⟨rfl, rfl⟩)

set_option maxRecDepth 20000 in
theorem numbers_any (t : Tb) (l : List ByteArray) (z : Nz) (hl : l.length ≤ 1000000) (hc : t.cols.length ≤ 17592186044000) : Pure Tryz.prog 86 [tbC t, sL z l] (nbX t.cols l) := by
 intro H
 refine Spec.enter Tryz.func86 rfl ?_
 refine AW.wk (Wk.keep 32 [(0, .c (tbC t)), (1, .c (sL z l))] [] (H) rfl ⟨rfl, rfl, trivial⟩ trivial (fun _ _ h => h) rfl) ?_
 refine sR (Z16 (r := [_, _, _, _, _]) ?_)
 refine sA ?_
 refine sB ?_
 refine sR (sB ?_)
 refine AW.seq (sR (sB ?_))
 refine AW.block ?_
 refine AW.tip 6 3 1 rfl (fun k0 hk0 => ?_)
 refine AW.loop (fun (i : Nat) s => ∃ (kt : Nat) (zs : List (List E.T)), (i ≤ l.length ∧ H kt = none ∧ zs = (nbL t.cols (l.take i)).map i64T ∧ ∀ j (h : j < l.length), j < i → (fstI Co.nm l[j] t.cols).isSome = true) ∧ s = ⟨32, sp [(1, .c (sL z l)), (2, .lp 2 0), (4, .c (.a (.t (.v (.slice none 0 0))))), (5, .c (bC false)), (6, .c (.a (.ts kt .ne 1 zs))), (7, iX .i64 ((i : Nat) : Int))], lv [(2, .box (zTb t))], upd H kt (some (.tip 3 1 zs.length))⟩) (fun i => l.length - i) 0 ⟨_, by exact Wk.keep 32 _ _ _ rfl ⟨rfl, rfl, rfl, rfl, rfl, rfl, trivial⟩ ⟨rfl, trivial⟩ (fun _ _ h => h) rfl, k0, [], ⟨Nat.zero_le _, hk0, rfl, up0⟩, rfl⟩ (fun i s hs => ?_)
 obtain ⟨kt, zs, ⟨hi0, hkt, hzs, hU⟩, rfl⟩ := hs
 refine AW.seq (sR (sM ?_))
 refine sM ?_
 refine Z14 Fx.un25 ?_
 refine Z10 ?_
 refine Z3 ?_
 refine AW.condD rfl ?_ ?_ <;> intro h13
 ·
  have hi : i < l.length := by rw [List.length_map] at h13; omega
  refine AW.skip (AW.seq (AW.block (AW.seq (AW.draw Fx.mo ?_))))
  refine Z45 (r := .g [_, _, _, _, _]) Fx.ty64 ?_
  refine Z18 ?_
  refine Z18 ?_
  refine Z27 Fx.sl25 (idx_map (f := sT) hi) ?_
  refine Z26 (.a _) Fx.ty9 ?_
  refine Z52 Fx.fn122 (column_no t l[i] hc) ?_
  refine LexK.q (q_mvT rfl rfl) rfl rfl rfl ?_
  refine LexK.q (q_extract _ rfl rfl rfl) rfl rfl rfl ?_
  refine LexK.q (q_extract _ rfl rfl rfl) rfl rfl rfl ?_
  refine Z36 ?_
  refine Z36 ?_
  refine Z30 ?_
  refine AW.seq (sR (sM ?_))
  refine Z33 ?_
  refine Z3 ?_
  refine AW.cond _ rfl (fun h26 => ?_) (fun h26 => ?_)
  ·
   have hno : ¬ (fstI Co.nm l[i] t.cols).isSome = true := by simpa using h26
   refine sR (sA ?_)
   refine sB ?_
   refine AW.xw 4 rfl (XW.nilU (sz := 1)) ?_
   refine AW.ret ?_
   exact fin_x (x := .tup [_, _]) (H) (.tmp rfl (.tmp rfl .nil)) rfl ((fun j o h => upd_sub hkt j o h)) (⟨by rw [nbX, if_neg (fun h => hno (h i hi))]; rfl, rfl⟩)
  have hyes : (fstI Co.nm l[i] t.cols).isSome = true := by simpa using h26
  refine AW.skip (AW.reg (sM ?_))
  refine sM ?_
  refine Z38 Fx.el24 ?_
  refine SeqK.app1 rfl (hkt) rfl Fx.el24 rfl rfl (by simp [hzs]; omega) rfl rfl (fun k30 hk30 => ?_)
  refine sB ?_
  refine AW.reg (sM ?_)
  refine Z2 ?_
  refine sB ?_
  exact ⟨i + 1, _, by exact Wk.keep 32 _ _ _ rfl ⟨rfl, rfl, rfl, rfl, rfl, rfl, trivial⟩ ⟨rfl, trivial⟩ (fun _ _ h => h) rfl, by omega, k30, zs ++ [i64T (((fstI Co.nm l[i] t.cols).getD 0 : Nat) : Int)], ⟨hi, hk30, by rw [hzs]; simp only [nbL, take_put hi, List.map_append, List.map_singleton], upS hi hU hyes⟩, rfl⟩
 refine AW.exit ?_
 refine eth_e ?_
 refine eth_e ?_
 refine exit_here ?_
 refine AW.seq ?_
 obtain rfl : i = l.length := by rw [List.length_map] at h13; omega
 rw [List.take_length] at hzs
 refine AW.xw 6 rfl (XW.ts.trans (XW.es hzs)) ?_
 refine AW.reg (sM ?_)
 refine sA ?_
 refine sB ?_
 refine AW.ret ?_
 exact fin_x (x := .tup [_, _]) (H) (.tmp rfl (.tmp rfl .nil)) rfl ((fun j o h => upd_sub hkt j o h)) (⟨by rw [nbX, if_pos (upE hU (by rw [List.length_map] at h13; omega))], rfl⟩)

abbrev tysP (t u : Tb) (a b : List Int) : Prop := ∀ j (h : j < a.length), (colAt t a[j]).ty = (colAt u (b.getD j 0)).ty

set_option maxRecDepth 20000 in
theorem types_any (t u : Tb) (a b : List Int) (z z2 : Nz) (ha : a.length ≤ 17592186044000) (hab : a.length ≤ b.length) (hia : insP t a) (hib : insP u b) : Pure Tryz.prog 88 [tbC t, tbC u, iL z a, iL z2 b] (.c (bC (decide (tysP t u a b)))) := by
 intro H
 refine Spec.enter Tryz.func88 rfl ?_
 refine AW.wk (Wk.keep 35 [(0, .c (tbC t)), (1, .c (tbC u)), (2, .c (iL z a)), (3, .c (iL z2 b))] [] (H) rfl ⟨rfl, rfl, rfl, rfl, trivial⟩ trivial (fun _ _ h => h) rfl) ?_
 refine sR (Z16 (r := [_, _, _, _, _]) ?_)
 refine Z16 (r := [_, _, _, _, _]) ?_
 refine sB ?_
 refine AW.seq (sR (sB ?_))
 refine AW.block ?_
 refine AW.loop (fun (i : Nat) s => (i ≤ a.length ∧ ∀ j (h : j < a.length), j < i → (colAt t a[j]).ty = (colAt u (b.getD j 0)).ty) ∧ s = ⟨35, sp [(2, .c (iL z a)), (3, .c (iL z2 b)), (4, .lp 4 0), (5, .lp 5 0), (8, .c (bC false)), (9, iX .i64 ((i : Nat) : Int))], lv [(4, .box (zTb t)), (5, .box (zTb u))], H⟩) (fun i => a.length - i) 0 ⟨_, by exact Wk.keep 35 _ _ _ rfl ⟨rfl, rfl, rfl, rfl, rfl, rfl, trivial⟩ ⟨rfl, rfl, trivial⟩ (fun _ _ h => h) rfl, ⟨Nat.zero_le _, up0⟩, rfl⟩ (fun i s hs => ?_)
 obtain ⟨⟨hi0, hU⟩, rfl⟩ := hs
 refine AW.seq (sR (sM ?_))
 refine sM ?_
 refine Z14 Fx.un24 ?_
 refine Z10 ?_
 refine Z3 ?_
 refine AW.condD rfl ?_ ?_ <;> intro h13
 ·
  have hi : i < a.length := by rw [List.length_map] at h13; omega
  have hi2 : i < b.length := by omega
  have hv := hia i hi
  have hw := hib i hi2
  have hv2 : a[i].toNat < t.cols.length := by omega
  have hw2 : b[i].toNat < u.cols.length := by omega
  have e1 := colAt_get hv2
  have e2 := colAt_get hw2
  have e3 : b.getD i 0 = b[i] := by rw [List.getD_eq_getElem?_getD, List.getElem?_eq_getElem hi2]; rfl
  refine AW.skip (AW.seq (AW.block (AW.seq (AW.draw Fx.mo ?_))))
  refine Z23 Fx.fl64_1 ?_
  refine Z20 Fx.ty36 ?_
  refine Z18 ?_
  refine Z18 ?_
  refine Z27 Fx.sl24 (idx_map (f := i64T) hi) ?_
  refine Z26 (.a _) Fx.ty3 ?_
  refine Z27 Fx.sl36 (idx_map (f := coT) hv2) ?_
  refine LexK.q (q_fieldP _ rfl Fx.fl82_1 rfl rfl) rfl rfl rfl ?_
  refine Z26 (.a _) Fx.ty3 ?_
  refine Z23 Fx.fl64_1 ?_
  refine Z20 Fx.ty36 ?_
  refine Z18 ?_
  refine Z18 ?_
  refine Z27 Fx.sl24 (idx_map (f := i64T) hi2) ?_
  refine Z26 (.a _) Fx.ty3 ?_
  refine Z27 Fx.sl36 (idx_map (f := coT) hw2) ?_
  refine LexK.q (q_fieldP _ rfl Fx.fl82_1 rfl rfl) rfl rfl rfl ?_
  refine Z26 (.a _) Fx.ty3 ?_
  refine LexK.q (q_neq rfl rfl rfl) rfl rfl rfl ?_
  refine Z30 ?_
  refine AW.condD rfl ?_ ?_ <;> intro h34
  ·
   refine sR (sB ?_)
   refine AW.ret ?_
   exact f1 (q := ⟨bCe (dF (fun h => h34 (by have := h i hi; rw [e1, e3, e2] at this; exact this))), rfl⟩)
  refine AW.skip (AW.reg (sM ?_))
  refine Z2 ?_
  refine sB ?_
  exact ⟨i + 1, _, by exact Wk.keep 35 _ _ _ rfl ⟨rfl, rfl, rfl, rfl, rfl, rfl, trivial⟩ ⟨rfl, rfl, trivial⟩ (fun _ _ h => h) rfl, by omega, ⟨hi, upS hi hU (by rw [e1, e3, e2]; exact Classical.not_not.1 h34)⟩, rfl⟩
 refine AW.exit ?_
 refine eth_e ?_
 refine eth_e ?_
 refine exit_here ?_
 refine sR (sB ?_)
 refine AW.ret ?_
 exact f1 (q := ⟨bCe (dT (upE hU (by rw [List.length_map] at h13; omega))), rfl⟩)

end Go.Proofs.YtihlgigaejhilaaGreatDoor.W
namespace Go.Proofs.YtihlgigaejhilaaGreatDoor.W
open Go.RowKit E
/-! expressions and statements that are small -/
mutual
def okE : Ex → Prop
  | .mk _ tb nm _ _ _ vs args => (tb.size ≤ 1000000000000000 ∧ nm.size ≤ 1000000000000000 ∧ vs.size ≤ 1000000000000000 ∧ args.length ≤ 17592186044000) ∧ okEs args
def okEs : List Ex → Prop
  | [] => True
  | e :: r => okE e ∧ okEs r
end
theorem okEs_iff : ∀ {l : List Ex}, okEs l ↔ ∀ a ∈ l, okE a
  | [] => by simp [okEs]
  | e :: r => by rw [okEs, okEs_iff]; simp
theorem okE_iff {e : Ex} : okE e ↔ (e.tb.size ≤ 1000000000000000 ∧ e.nm.size ≤ 1000000000000000 ∧ e.vs.size ≤ 1000000000000000 ∧ e.args.length ≤ 17592186044000) ∧ ∀ a ∈ e.args, okE a := by
  cases e; rw [okE, okEs_iff]
def finB : Nat → Ex → Bool
  | 0, _ => false
  | d + 1, e => decide (e.args.length ≤ 8) && (decide (e.tb.size + e.nm.size + e.vs.size ≤ 100) && e.args.all (finB d))
theorem fin0 {d : Nat} {e : Ex} (h : d = 0) : false = finB d e := by subst h; rw [finB]
theorem finB_pos {d : Nat} {e : Ex} (h : 0 < d) : finB d e = (decide (e.args.length ≤ 8) && (decide (e.tb.size + e.nm.size + e.vs.size ≤ 100) && e.args.all (finB (d - 1)))) := by
  cases d with
  | zero => omega
  | succ d => rw [finB]; rfl

abbrev zEx (x : Ex) : List A := [.t (.v (.int .i64 x.op)), .t (.v (.string x.tb)), .t (.v (.string x.nm)), .t (.v (.int .i64 x.ix)), .t (.v (.int .i64 x.vk)), .t (.v (.int .i64 x.vn)), .t (.v (.string x.vs)), .t (.sl .un 8 (x.args.map exT'))]
set_option maxRecDepth 20000 in
theorem fine_of (e : Ex) (d : Nat) (hd : d ≤ 1000) (ho : okE e) (ih : 0 < d → ∀ a ∈ e.args, Pure Tryz.prog 49 [exC a, iC ((d - 1 : Nat) : Int)] (.c (bC (finB (d - 1) a)))) : Pure Tryz.prog 49 [exC e, iC (d : Int)] (.c (bC (finB d e))) := by
 intro H
 refine Spec.enter Tryz.func49 rfl ?_
 refine AW.wk (Wk.keep 45 [(0, .c (exC e)), (1, .c (iC (d : Int)))] [] (H) rfl ⟨rfl, rfl, trivial⟩ trivial (fun _ _ h => h) rfl) ?_
 refine sR (Z16 (r := [_, _, _, _, _, _, _, _]) ?_)
 refine sB ?_
 refine AW.seq (AW.seq ?_)
 obtain ⟨⟨k1, k2, k3, k4⟩, k5⟩ := okE_iff.1 ho
 refine AW.reg (sM ?_)
 refine Z8 ?_
 refine Z19 (fun g8 => ?_) (fun g8 => ?_)
 ·
  iterate 4 refine SeqK.off rfl rfl rfl rfl rfl rfl ?_
  refine Z4 ?_
  refine sM ?_
  iterate 13 refine SeqK.off rfl rfl rfl rfl rfl rfl ?_
  refine Z4 ?_
  refine Z3 (AW.condT rfl ?_)
  refine sR (sB ?_)
  refine AW.ret ?_
  exact f1 (q := ⟨bCe (fin0 (by omega)), rfl⟩)
 have hd0 : 0 < d := by omega
 have hp := finB_pos (e := e) hd0
 refine Z6 Fx.fl30_5 ?_
 refine Z5 Fx.ty28 ?_
 refine Z28 Fx.un28 ?_
 refine Z35 ?_
 refine Z7 ?_
 refine Z19 (fun g14 => ?_) (fun g14 => ?_)
 ·
  iterate 13 refine SeqK.off rfl rfl rfl rfl rfl rfl ?_
  refine Z4 ?_
  refine Z3 (AW.condT rfl ?_)
  refine sR (sB ?_)
  refine AW.ret ?_
  exact f1 (q := ⟨bCe (by rw [hp, decide_eq_false (p := e.args.length ≤ 8) (by rw [List.length_map] at g14; omega)]; rfl), rfl⟩)
 refine Z6 Fx.fl30_1 ?_
 refine Z5 Fx.ty9 ?_
 refine SeqK.on (q_lenS rfl Fx.un9 rfl) rfl rfl rfl rfl rfl ?_
 refine Z6 Fx.fl30_2 ?_
 refine Z5 Fx.ty9 ?_
 refine SeqK.on (q_lenS rfl Fx.un9 rfl) rfl rfl rfl rfl rfl ?_
 refine SeqK.on (q_add _ rfl rfl rfl (w64 (by omega) (by omega))) rfl rfl rfl rfl rfl ?_
 refine Z6 Fx.fl30_4 ?_
 refine Z6 Fx.fl27_2 ?_
 refine Z5 Fx.ty9 ?_
 refine SeqK.on (q_lenS rfl Fx.un9 rfl) rfl rfl rfl rfl rfl ?_
 refine SeqK.on (q_add _ rfl rfl rfl (w64 (by omega) (by omega))) rfl rfl rfl rfl rfl ?_
 refine Z35 ?_
 refine Z7 ?_
 refine Z3 ?_
 refine AW.condD rfl ?_ ?_ <;> intro h28
 ·
  refine sR (sB ?_)
  refine AW.ret ?_
  exact f1 (q := ⟨bCe (by rw [hp, decide_eq_false (p := _ ≤ 100) (by omega)]; simp), rfl⟩)
 refine AW.skip (AW.seq (AW.seq ?_))
 have hA8 : e.args.length ≤ 8 := by rw [List.length_map] at g14; omega
 have hA9 : e.tb.size + e.nm.size + e.vs.size ≤ 100 := by omega
 refine AW.reg (sB ?_)
 refine AW.block ?_
 refine AW.loop (fun (i : Nat) s => (i ≤ e.args.length ∧ ∀ j (h : j < e.args.length), j < i → finB (d - 1) e.args[j] = true) ∧ s = ⟨45, sp [(1, .c (iC (d : Int))), (2, .lp 2 0), (4, .c (bC false)), (5, iX .i64 ((i : Nat) : Int))], lv [(2, .box (zEx e))], H⟩) (fun i => e.args.length - i) 0 ⟨_, by exact Wk.keep 45 _ _ _ rfl ⟨rfl, rfl, rfl, rfl, trivial⟩ ⟨rfl, trivial⟩ (fun _ _ h => h) rfl, ⟨Nat.zero_le _, up0⟩, rfl⟩ (fun i s hs => ?_)
 obtain ⟨⟨hi0, hU⟩, rfl⟩ := hs
 refine AW.seq (sR (sM ?_))
 refine Z1 Fx.fl30_5 ?_
 refine Z0 Fx.ty28 ?_
 refine Z14 Fx.un28 ?_
 refine Z10 ?_
 refine Z3 ?_
 refine AW.condD rfl ?_ ?_ <;> intro h33
 ·
  have hi : i < e.args.length := by rw [List.length_map] at h33; omega
  refine AW.skip (AW.seq (AW.block (sR (Z1 Fx.fl30_5 ?_))))
  refine Z0 Fx.ty28 ?_
  refine sM ?_
  refine Z9 Fx.sl28 (idx_ex hi) ?_
  refine Z11 (.g [_, _, _, _, _, _, _, _]) Fx.ty30 ?_
  refine sM ?_
  refine SeqK.q (q_sub _ rfl rfl rfl ((by rw [w64 (by omega) (by omega)]; omega : IntKind.i64.wrap _ = ((d - 1 : Nat) : Int)))) rfl rfl rfl ?_
  refine Z22 Fx.fn49 (ih hd0 _ (List.getElem_mem hi)) ?_
  refine Z33 ?_
  refine Z3 ?_
  refine AW.cond _ rfl (fun h44 => ?_) (fun h44 => ?_)
  ·
   have hno : finB (d - 1) e.args[i] = false := by simpa using h44
   refine sR (sB ?_)
   refine AW.ret ?_
   exact f1 (q := ⟨bCe (by rw [hp, List.all_eq_false.2 ⟨_, List.getElem_mem hi, by simp [hno]⟩]; simp), rfl⟩)
  have hyes : finB (d - 1) e.args[i] = true := by simpa using h44
  refine AW.skip (AW.reg (sM ?_))
  refine Z2 ?_
  refine sB ?_
  exact ⟨i + 1, _, by exact Wk.keep 45 _ _ _ rfl ⟨rfl, rfl, rfl, rfl, trivial⟩ ⟨rfl, trivial⟩ (fun _ _ h => h) rfl, by omega, ⟨hi, upS hi hU (hyes)⟩, rfl⟩
 refine AW.exit ?_
 refine eth_e ?_
 refine eth_e ?_
 refine exit_here ?_
 refine sR (sB ?_)
 refine AW.ret ?_
 exact f1 (q := ⟨bCe (by rw [hp, decide_eq_true hA8, decide_eq_true hA9, List.all_eq_true.2 fun x hx => by obtain ⟨j, hj, rfl⟩ := List.mem_iff_getElem.1 hx; exact upE hU (by rw [List.length_map] at h33; omega) j hj]; rfl), rfl⟩)

theorem fine_any : ∀ (d : Nat) (e : Ex), d ≤ 1000 → okE e → Pure Tryz.prog 49 [exC e, iC (d : Int)] (.c (bC (finB d e)))
  | 0, e, hd, ho => fine_of e 0 hd ho fun h => absurd h (by omega)
  | d + 1, e, hd, ho => fine_of e (d + 1) hd ho fun _ a ha => fine_any d a (by omega) ((okE_iff.1 ho).2 a ha)
/-- CREATE TABLE statements -/
structure Df where (k : Int) (nm : ByteArray) (cols : List Co) (keys : List (List ByteArray)) (fks : List Rf) (chks : List Ex)
abbrev dfT (d : Df) : List E.T := [.v (.int .i64 d.k), .v (.string d.nm), .sl .un 6 (d.cols.map coT), .sl .un 1 (d.keys.map sLT), .sl .un 3 (d.fks.map rfT), .sl .un 8 (d.chks.map exT'), .v (.slice none 0 0), .v (.slice none 0 0), .v (.slice none 0 0), .v (.slice none 0 0), .v (.int .i64 0), .v (.string ⟨#[]⟩), .v (.string ⟨#[]⟩), .v (.int .i64 0), .v (.int .i64 0), .v (.int .i64 0), .v (.string ⟨#[]⟩), .v (.slice none 0 0), .v (.slice none 0 0), .v (.slice none 0 0), .v (.int .i64 0), .v (.string ⟨#[]⟩)]
end Go.Proofs.YtihlgigaejhilaaGreatDoor.W
