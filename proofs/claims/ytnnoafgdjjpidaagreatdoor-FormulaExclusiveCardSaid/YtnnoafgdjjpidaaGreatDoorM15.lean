import Derived.Test.YtnnoafgdjjpidaaGreatDoorM14
import Derived.Shelf.Strings.Builder1
import Derived.Shelf.Strings.Builder2
import Derived.Shelf.Strings.OnBuilder
import Derived.Shelf.Small.Bits
import Derived.Shelf.Small.Wraps
import Derived.Shelf.Strings.BuilderF
import Derived.Shelf.Strings.BuilderK
import Derived.Shelf.Utf8.RuneCount
import Derived.Shelf.Strings.Builder2Cap
import Derived.Shelf.Strconv.Itoa0
import Derived.Shelf.Strconv.Itoa1
import Derived.Shelf.LaysM
import Derived.Shelf.Strconv.Itoa2
import Derived.Shelf.Strconv.Itoa3
import Derived.Shelf.Strconv.Itoa4
import Derived.Shelf.Strings.Search1
import Derived.Shelf.Strings.Search2
import Derived.Shelf.Strings.Search3
import Derived.Shelf.Strings.Count
import Derived.Shelf.Strings.Shaped
import Derived.Shelf.Sort.Plain
import Derived.Shelf.Strings.Split
import Derived.Shelf.Strings.Replace
import Derived.Shelf.Strings.SplitShaped
import Derived.Shelf.Unicode.Decode
import Derived.Shelf.Strings.RuneCount
import Derived.Shelf.Bits.Mul64
import Derived.Shelf.Unicode.DecodeSlow
import Derived.Shelf.Unicode.DecodeAny
import Derived.Shelf.Slices.Turned
import Derived.Shelf.Slices.CompactI
import Derived.Shelf.Slices.SearchI
import Derived.Shelf.Slices.Cells
import Derived.Shelf.Slices.In.SortNone
import Derived.Test.YtnnoafgdjjpidaaGreatDoorProg
set_option maxRecDepth 20000
set_option linter.unusedSectionVars false
set_option linter.unusedSimpArgs false
set_option linter.unusedVariables false
namespace Go.Proofs
open Go.Shelf
def Tryz.lays156_ren : Go.Shelf.Ren := ⟨fun | 156 => 30 | 165 => 58 | 166 => 59 | 169 => 60 | 240 => 89 | 241 => 90 | 276 => 117 | 277 => 118 | n => n, fun | 31 => 69 | 9 => 9 | 3 => 3 | 4 => 4 | 0 => 0 | 20 => 20 | 72 => 100 | 76 => 104 | 70 => 97 | 37 => 98 | 75 => 103 | 127 => 135 | 164 => 159 | 5 => 5 | 80 => 106 | n => n, fun | n => n⟩
theorem Tryz.lays156 : Go.Proofs.Lays.n156 Tryz.prog Tryz.lays156_ren := {
  mixed := by kernel_rfl
  f156 := Tryz.func30.trans (congrArg some (by kernel_rfl))
  f165 := Tryz.func58.trans (congrArg some (by kernel_rfl))
  f166 := Tryz.func59.trans (congrArg some (by kernel_rfl))
  f169 := Tryz.func60.trans (congrArg some (by kernel_rfl))
  f240 := Tryz.func89.trans (congrArg some (by kernel_rfl))
  f241 := Tryz.func90.trans (congrArg some (by kernel_rfl))
  f276 := Tryz.func117.trans (congrArg some (by kernel_rfl))
  f277 := Tryz.func118.trans (congrArg some (by kernel_rfl))
  t0 := Tryz.underlying0
  a0 := Tryz.isAgg0
  z0 := Tryz.sizeOf0
  v0 := Tryz.zeroValue0
  t3 := Tryz.underlying3
  a3 := Tryz.isAgg3
  z3 := Tryz.sizeOf3
  v3 := Tryz.zeroValue3
  t4 := Tryz.underlying4
  a4 := Tryz.isAgg4
  z4 := Tryz.sizeOf4
  v4 := Tryz.zeroValue4
  t9 := Tryz.underlying9
  a9 := Tryz.isAgg9
  z9 := Tryz.sizeOf9
  v9 := Tryz.zeroValue9
  t20 := Tryz.underlying20
  a20 := Tryz.isAgg20
  z20 := Tryz.sizeOf20
  v20 := Tryz.zeroValue20
  t31 := Tryz.underlying69
  a31 := Tryz.isAgg69
  z31 := Tryz.sizeOf69
  v31 := Tryz.zeroValue69
  t37 := Tryz.underlying98
  a37 := Tryz.isAgg98
  z37 := Tryz.sizeOf98
  v37 := Tryz.zeroValue98
  t70 := Tryz.underlying97
  a70 := Tryz.isAgg97
  z70 := Tryz.sizeOf97
  v70 := Tryz.zeroValue97
  t72 := Tryz.underlying100
  a72 := Tryz.isAgg100
  z72 := Tryz.sizeOf100
  v72 := Tryz.zeroValue100
  t75 := Tryz.underlying103
  a75 := Tryz.isAgg103
  z75 := Tryz.sizeOf103
  v75 := Tryz.zeroValue103
  t76 := Tryz.underlying104
  a76 := Tryz.isAgg104
  z76 := Tryz.sizeOf104
  v76 := Tryz.zeroValue104
  t127 := Tryz.underlying135
  a127 := Tryz.isAgg135
  z127 := Tryz.sizeOf135
  v127 := Tryz.zeroValue135
  t164 := Tryz.underlying159
  a164 := Tryz.isAgg159
  z164 := Tryz.sizeOf159
  v164 := Tryz.zeroValue159 }
theorem Tryz.Builder_Extra_156 : Builder.Extra Tryz.prog Tryz.lays156_ren := {
  sizeBuilder := by kernel_rfl
  liesBuilder := by kernel_rfl
  t5 := Tryz.underlying5
  a5 := Tryz.isAgg5
  z5 := Tryz.sizeOf5
  v5 := Tryz.zeroValue5
  infoByte := by kernel_rfl
  cellsByte := by kernel_rfl
  sizeByte := by kernel_rfl
  neB5 := by decide }
open Go.RowKit in
theorem Tryz.strings_Join_none (a : Option Addr) (c : Nat) (sep : ByteArray) (w : World) :
    Calls Tryz.prog 30 #[.slice a 0 c, .string sep] w fun e w' => e = .returned (.string ⟨#[]⟩) ∧ w' = w := Any.strings_Join_none Tryz.lays156 Tryz.Builder_Extra_156 a c sep w
open Go.RowKit in
theorem Tryz.strings_Join (bk o c : Nat) (xs : List ByteArray) (sep : ByteArray) (w : World) (hcells : ∀ (j : Nat) x, xs[j]? = some x → w.cell? ⟨bk, o + j, none⟩ = some (.string x)) (hbk : bk < w.heap.size) (hN : xs.length ≤ 140737488355328) (hcap : xs.length ≤ c) (hlen : (Lib.join (xs.map (·.data.toList)) sep.data.toList).length ≤ 140737488355328) :
    Calls Tryz.prog 30 #[.slice (some ⟨bk, o, none⟩) xs.length c, .string sep] w fun e w' => e = .returned (.string ⟨(Lib.join (xs.map (·.data.toList)) sep.data.toList).toArray⟩) ∧ Below w.heap.size w w' := Any.strings_Join Tryz.lays156 Tryz.Builder_Extra_156 bk o c xs sep w hcells hbk hN hcap hlen
def Tryz.lays283_ren : Go.Shelf.Ren := ⟨fun | 283 => 147 | n => n, fun | 3 => 3 | 9 => 9 | 4 => 4 | n => n, fun | n => n⟩
theorem Tryz.lays283 : Go.Proofs.Lays.n283 Tryz.prog Tryz.lays283_ren := {
  mixed := by kernel_rfl
  f283 := Tryz.func147.trans (congrArg some (by kernel_rfl))
  t3 := Tryz.underlying3
  a3 := Tryz.isAgg3
  z3 := Tryz.sizeOf3
  v3 := Tryz.zeroValue3
  t4 := Tryz.underlying4
  a4 := Tryz.isAgg4
  z4 := Tryz.sizeOf4
  v4 := Tryz.zeroValue4
  t9 := Tryz.underlying9
  a9 := Tryz.isAgg9
  z9 := Tryz.sizeOf9
  v9 := Tryz.zeroValue9 }
open Go.Lib in
theorem Tryz.internal_strconv_small (i : Nat) (h : i < 100) (w : World) :
    Calls Tryz.prog 147 #[.int .i64 i] w fun e w' => e = .returned (.string ⟨(Lib.decDigits i).toArray⟩) ∧ w' = w := Any.internal_strconv_small Tryz.lays283 i h w
def Tryz.lays171_ren : Go.Shelf.Ren := ⟨fun | 171 => 82 | 243 => 113 | 246 => 146 | 283 => 147 | 284 => 148 | 285 => 149 | 286 => 150 | 129 => 133 | 317 => 169 | 318 => 170 | 319 => 171 | 320 => 172 | 337 => 183 | 338 => 184 | n => n, fun | 3 => 3 | 9 => 9 | 2 => 2 | 4 => 4 | 171 => 185 | 0 => 0 | 53 => 130 | 37 => 98 | 5 => 5 | 173 => 187 | 212 => 202 | 51 => 177 | 20 => 20 | 213 => 203 | 46 => 142 | 232 => 216 | 233 => 217 | n => n, fun | 17 => 1 | 18 => 2 | 19 => 3 | n => n⟩
theorem Tryz.lays171 : Go.Proofs.Lays.n171 Tryz.prog Tryz.lays171_ren := {
  mixed := by kernel_rfl
  f129 := Tryz.func133.trans (congrArg some (by kernel_rfl))
  f171 := Tryz.func82.trans (congrArg some (by kernel_rfl))
  f243 := Tryz.func113.trans (congrArg some (by kernel_rfl))
  f246 := Tryz.func146.trans (congrArg some (by kernel_rfl))
  f283 := Tryz.func147.trans (congrArg some (by kernel_rfl))
  f284 := Tryz.func148.trans (congrArg some (by kernel_rfl))
  f285 := Tryz.func149.trans (congrArg some (by kernel_rfl))
  f286 := Tryz.func150.trans (congrArg some (by kernel_rfl))
  f317 := Tryz.func169.trans (congrArg some (by kernel_rfl))
  f318 := Tryz.func170.trans (congrArg some (by kernel_rfl))
  f319 := Tryz.func171.trans (congrArg some (by kernel_rfl))
  f320 := Tryz.func172.trans (congrArg some (by kernel_rfl))
  f337 := Tryz.func183.trans (congrArg some (by kernel_rfl))
  f338 := Tryz.func184.trans (congrArg some (by kernel_rfl))
  t0 := Tryz.underlying0
  a0 := Tryz.isAgg0
  z0 := Tryz.sizeOf0
  v0 := Tryz.zeroValue0
  t2 := Tryz.underlying2
  a2 := Tryz.isAgg2
  z2 := Tryz.sizeOf2
  v2 := Tryz.zeroValue2
  t3 := Tryz.underlying3
  a3 := Tryz.isAgg3
  z3 := Tryz.sizeOf3
  v3 := Tryz.zeroValue3
  t4 := Tryz.underlying4
  a4 := Tryz.isAgg4
  z4 := Tryz.sizeOf4
  v4 := Tryz.zeroValue4
  t5 := Tryz.underlying5
  a5 := Tryz.isAgg5
  z5 := Tryz.sizeOf5
  v5 := Tryz.zeroValue5
  t9 := Tryz.underlying9
  a9 := Tryz.isAgg9
  z9 := Tryz.sizeOf9
  v9 := Tryz.zeroValue9
  t20 := Tryz.underlying20
  a20 := Tryz.isAgg20
  z20 := Tryz.sizeOf20
  v20 := Tryz.zeroValue20
  t37 := Tryz.underlying98
  a37 := Tryz.isAgg98
  z37 := Tryz.sizeOf98
  v37 := Tryz.zeroValue98
  t46 := Tryz.underlying142
  a46 := Tryz.isAgg142
  z46 := Tryz.sizeOf142
  v46 := Tryz.zeroValue142
  t51 := Tryz.underlying177
  a51 := Tryz.isAgg177
  z51 := Tryz.sizeOf177
  v51 := Tryz.zeroValue177
  t53 := Tryz.underlying130
  a53 := Tryz.isAgg130
  z53 := Tryz.sizeOf130
  v53 := Tryz.zeroValue130
  t171 := Tryz.underlying185
  a171 := Tryz.isAgg185
  z171 := Tryz.sizeOf185
  v171 := Tryz.zeroValue185
  t173 := Tryz.underlying187
  a173 := Tryz.isAgg187
  z173 := Tryz.sizeOf187
  v173 := Tryz.zeroValue187
  t212 := Tryz.underlying202
  a212 := Tryz.isAgg202
  z212 := Tryz.sizeOf202
  v212 := Tryz.zeroValue202
  t213 := Tryz.underlying203
  a213 := Tryz.isAgg203
  z213 := Tryz.sizeOf203
  t232 := Tryz.underlying216
  a232 := Tryz.isAgg216
  z232 := Tryz.sizeOf216
  v232 := Tryz.zeroValue216
  t233 := Tryz.underlying217
  a233 := Tryz.isAgg217
  z233 := Tryz.sizeOf217
  v233 := Tryz.zeroValue217
  g17 := by kernel_rfl
  g18 := by kernel_rfl
  g19 := by kernel_rfl }
open Go.RowKit Go.Sort Go.Lib in
theorem Tryz.strconv_Itoa_small (i : Nat) (hi : i < 100) (w : World) :
    Calls Tryz.prog 82 #[.int .i64 i] w fun e w' => e = .returned (.string ⟨(Lib.decDigits i).toArray⟩) ∧ w' = w := Any.strconv_Itoa_small Tryz.lays171 i hi w
def Tryz.lays173_ren : Go.Shelf.Ren := ⟨fun | 173 => 114 | 246 => 146 | 283 => 147 | 284 => 148 | 285 => 149 | 286 => 150 | 129 => 133 | 317 => 169 | 318 => 170 | 319 => 171 | 320 => 172 | 337 => 183 | 338 => 184 | n => n, fun | 2 => 2 | 3 => 3 | 9 => 9 | 4 => 4 | 171 => 185 | 0 => 0 | 53 => 130 | 37 => 98 | 5 => 5 | 173 => 187 | 212 => 202 | 51 => 177 | 20 => 20 | 213 => 203 | 46 => 142 | 232 => 216 | 233 => 217 | n => n, fun | 17 => 1 | 18 => 2 | 19 => 3 | n => n⟩
theorem Tryz.lays173 : Go.Proofs.Lays.n173 Tryz.prog Tryz.lays173_ren := {
  mixed := by kernel_rfl
  f129 := Tryz.func133.trans (congrArg some (by kernel_rfl))
  f173 := Tryz.func114.trans (congrArg some (by kernel_rfl))
  f246 := Tryz.func146.trans (congrArg some (by kernel_rfl))
  f283 := Tryz.func147.trans (congrArg some (by kernel_rfl))
  f284 := Tryz.func148.trans (congrArg some (by kernel_rfl))
  f285 := Tryz.func149.trans (congrArg some (by kernel_rfl))
  f286 := Tryz.func150.trans (congrArg some (by kernel_rfl))
  f317 := Tryz.func169.trans (congrArg some (by kernel_rfl))
  f318 := Tryz.func170.trans (congrArg some (by kernel_rfl))
  f319 := Tryz.func171.trans (congrArg some (by kernel_rfl))
  f320 := Tryz.func172.trans (congrArg some (by kernel_rfl))
  f337 := Tryz.func183.trans (congrArg some (by kernel_rfl))
  f338 := Tryz.func184.trans (congrArg some (by kernel_rfl))
  t0 := Tryz.underlying0
  a0 := Tryz.isAgg0
  z0 := Tryz.sizeOf0
  v0 := Tryz.zeroValue0
  t2 := Tryz.underlying2
  a2 := Tryz.isAgg2
  z2 := Tryz.sizeOf2
  v2 := Tryz.zeroValue2
  t3 := Tryz.underlying3
  a3 := Tryz.isAgg3
  z3 := Tryz.sizeOf3
  v3 := Tryz.zeroValue3
  t4 := Tryz.underlying4
  a4 := Tryz.isAgg4
  z4 := Tryz.sizeOf4
  v4 := Tryz.zeroValue4
  t5 := Tryz.underlying5
  a5 := Tryz.isAgg5
  z5 := Tryz.sizeOf5
  v5 := Tryz.zeroValue5
  t9 := Tryz.underlying9
  a9 := Tryz.isAgg9
  z9 := Tryz.sizeOf9
  v9 := Tryz.zeroValue9
  t20 := Tryz.underlying20
  a20 := Tryz.isAgg20
  z20 := Tryz.sizeOf20
  v20 := Tryz.zeroValue20
  t37 := Tryz.underlying98
  a37 := Tryz.isAgg98
  z37 := Tryz.sizeOf98
  v37 := Tryz.zeroValue98
  t46 := Tryz.underlying142
  a46 := Tryz.isAgg142
  z46 := Tryz.sizeOf142
  v46 := Tryz.zeroValue142
  t51 := Tryz.underlying177
  a51 := Tryz.isAgg177
  z51 := Tryz.sizeOf177
  v51 := Tryz.zeroValue177
  t53 := Tryz.underlying130
  a53 := Tryz.isAgg130
  z53 := Tryz.sizeOf130
  v53 := Tryz.zeroValue130
  t171 := Tryz.underlying185
  a171 := Tryz.isAgg185
  z171 := Tryz.sizeOf185
  v171 := Tryz.zeroValue185
  t173 := Tryz.underlying187
  a173 := Tryz.isAgg187
  z173 := Tryz.sizeOf187
  v173 := Tryz.zeroValue187
  t212 := Tryz.underlying202
  a212 := Tryz.isAgg202
  z212 := Tryz.sizeOf202
  v212 := Tryz.zeroValue202
  t213 := Tryz.underlying203
  a213 := Tryz.isAgg203
  z213 := Tryz.sizeOf203
  t232 := Tryz.underlying216
  a232 := Tryz.isAgg216
  z232 := Tryz.sizeOf216
  v232 := Tryz.zeroValue216
  t233 := Tryz.underlying217
  a233 := Tryz.isAgg217
  z233 := Tryz.sizeOf217
  v233 := Tryz.zeroValue217
  g17 := by kernel_rfl
  g18 := by kernel_rfl
  g19 := by kernel_rfl }
open Go.RowKit Go.Sort Go.Lib in
theorem Tryz.strconv_FormatInt_10_small (i : Nat) (hi : i < 100) (w : World) :
    Calls Tryz.prog 114 #[.int .i64 i, .int .i64 10] w fun e w' => e = .returned (.string ⟨(Lib.decDigits i).toArray⟩) ∧ w' = w := Any.strconv_FormatInt_10_small Tryz.lays173 i hi w
def Tryz.lays189_ren : Go.Shelf.Ren := ⟨fun | 189 => 66 | 125 => 95 | 257 => 94 | 128 => 132 | 129 => 133 | 294 => 123 | 295 => 124 | 296 => 125 | 297 => 126 | 298 => 127 | 299 => 128 | 216 => 129 | 300 => 130 | 301 => 131 | 328 => 157 | 329 => 158 | 330 => 159 | 331 => 160 | 332 => 161 | 215 => 142 | 343 => 180 | n => n, fun | 28 => 80 | 3 => 3 | 46 => 142 | 0 => 0 | 51 => 177 | 53 => 130 | 4 => 4 | 183 => 169 | 182 => 168 | 131 => 174 | 5 => 5 | 9 => 9 | 218 => 191 | 222 => 195 | 228 => 210 | 229 => 211 | n => n, fun | n => n⟩
theorem Tryz.lays189 : Go.Proofs.Lays.n189 Tryz.prog Tryz.lays189_ren := {
  mixed := by kernel_rfl
  f125 := Tryz.func95.trans (congrArg some (by kernel_rfl))
  f128 := Tryz.func132.trans (congrArg some (by kernel_rfl))
  f129 := Tryz.func133.trans (congrArg some (by kernel_rfl))
  f189 := Tryz.func66.trans (congrArg some (by kernel_rfl))
  f215 := Tryz.func142.trans (congrArg some (by kernel_rfl))
  f216 := Tryz.func129.trans (congrArg some (by kernel_rfl))
  f257 := Tryz.func94.trans (congrArg some (by kernel_rfl))
  f294 := Tryz.func123.trans (congrArg some (by kernel_rfl))
  f295 := Tryz.func124.trans (congrArg some (by kernel_rfl))
  f296 := Tryz.func125.trans (congrArg some (by kernel_rfl))
  f297 := Tryz.func126.trans (congrArg some (by kernel_rfl))
  f298 := Tryz.func127.trans (congrArg some (by kernel_rfl))
  f299 := Tryz.func128.trans (congrArg some (by kernel_rfl))
  f300 := Tryz.func130.trans (congrArg some (by kernel_rfl))
  f301 := Tryz.func131.trans (congrArg some (by kernel_rfl))
  f328 := Tryz.func157.trans (congrArg some (by kernel_rfl))
  f329 := Tryz.func158.trans (congrArg some (by kernel_rfl))
  f330 := Tryz.func159.trans (congrArg some (by kernel_rfl))
  f331 := Tryz.func160.trans (congrArg some (by kernel_rfl))
  f332 := Tryz.func161.trans (congrArg some (by kernel_rfl))
  f343 := Tryz.func180.trans (congrArg some (by kernel_rfl))
  t0 := Tryz.underlying0
  a0 := Tryz.isAgg0
  z0 := Tryz.sizeOf0
  v0 := Tryz.zeroValue0
  t3 := Tryz.underlying3
  a3 := Tryz.isAgg3
  z3 := Tryz.sizeOf3
  v3 := Tryz.zeroValue3
  t4 := Tryz.underlying4
  a4 := Tryz.isAgg4
  z4 := Tryz.sizeOf4
  v4 := Tryz.zeroValue4
  t5 := Tryz.underlying5
  a5 := Tryz.isAgg5
  z5 := Tryz.sizeOf5
  v5 := Tryz.zeroValue5
  t9 := Tryz.underlying9
  a9 := Tryz.isAgg9
  z9 := Tryz.sizeOf9
  v9 := Tryz.zeroValue9
  t28 := Tryz.underlying80
  a28 := Tryz.isAgg80
  z28 := Tryz.sizeOf80
  v28 := Tryz.zeroValue80
  t46 := Tryz.underlying142
  a46 := Tryz.isAgg142
  z46 := Tryz.sizeOf142
  v46 := Tryz.zeroValue142
  t51 := Tryz.underlying177
  a51 := Tryz.isAgg177
  z51 := Tryz.sizeOf177
  v51 := Tryz.zeroValue177
  t53 := Tryz.underlying130
  a53 := Tryz.isAgg130
  z53 := Tryz.sizeOf130
  v53 := Tryz.zeroValue130
  t131 := Tryz.underlying174
  a131 := Tryz.isAgg174
  z131 := Tryz.sizeOf174
  v131 := Tryz.zeroValue174
  t182 := Tryz.underlying168
  a182 := Tryz.isAgg168
  z182 := Tryz.sizeOf168
  v182 := Tryz.zeroValue168
  t183 := Tryz.underlying169
  a183 := Tryz.isAgg169
  z183 := Tryz.sizeOf169
  v183 := Tryz.zeroValue169
  t218 := Tryz.underlying191
  a218 := Tryz.isAgg191
  z218 := Tryz.sizeOf191
  v218 := Tryz.zeroValue191
  t222 := Tryz.underlying195
  a222 := Tryz.isAgg195
  z222 := Tryz.sizeOf195
  v222 := Tryz.zeroValue195
  t228 := Tryz.underlying210
  a228 := Tryz.isAgg210
  z228 := Tryz.sizeOf210
  v228 := Tryz.zeroValue210
  t229 := Tryz.underlying211
  a229 := Tryz.isAgg211
  z229 := Tryz.sizeOf211
  v229 := Tryz.zeroValue211 }
open Go.Sort Go.RowKit in
theorem Tryz.slices_Sort_int (blk off cap : Nat) (zs : List Int) (w : World) (hH : Holds (Value.int .i64) w blk off zs.toArray) (hblk : blk < w.heap.size) (hsz : zs.length < 4611686018427387904) :
    Calls Tryz.prog 66 #[.slice (some ⟨blk, off, none⟩) zs.length cap] w fun e w' =>
      e = .returned (.tuple #[]) ∧ ∃ n os, w' = grow (putRow (Value.int .i64) (Sort.ahead w n) blk off (zs.mergeSort fun x y => decide (x ≤ y)).toArray) os := Any.slices_Sort_int Tryz.lays189 blk off cap zs w hH hblk hsz
def Tryz.lays264_ren : Go.Shelf.Ren := ⟨fun | 264 => 168 | n => n, fun | 53 => 130 | 46 => 142 | n => n, fun | n => n⟩
theorem Tryz.lays264 : Go.Proofs.Lays.n264 Tryz.prog Tryz.lays264_ren := {
  mixed := by kernel_rfl
  f264 := Tryz.func168.trans (congrArg some (by kernel_rfl))
  t46 := Tryz.underlying142
  a46 := Tryz.isAgg142
  z46 := Tryz.sizeOf142
  v46 := Tryz.zeroValue142
  t53 := Tryz.underlying130
  a53 := Tryz.isAgg130
  z53 := Tryz.sizeOf130
  v53 := Tryz.zeroValue130 }
open Go.RowKit Go.Lib in
theorem Tryz.bits_Mul64 (x y : Nat) (hx : x < 18446744073709551616) (hy : y < 18446744073709551616) (w : World) :
    Calls Tryz.prog 168 #[.int .u64 x, .int .u64 y] w fun e w' => e = .returned (.tuple #[.int .u64 ((x * y / 18446744073709551616 : Nat) : Int), .int .u64 ((x * y % 18446744073709551616 : Nat) : Int)]) ∧ w' = w := Any.bits_Mul64 Tryz.lays264 x y hx hy w
def Tryz.laysNm220_ren : Go.Shelf.Ren := ⟨fun | 20 => 67 | n => n, fun | 22 => 80 | 3 => 3 | 4 => 4 | 0 => 0 | n => n, fun | n => n⟩
theorem Tryz.laysNm220 : Go.Proofs.Lays2.n20 Tryz.prog Tryz.laysNm220_ren := {
  mixed := by kernel_rfl
  f20 := Tryz.func67.trans (congrArg some (by kernel_rfl))
  t0 := Tryz.underlying0
  a0 := Tryz.isAgg0
  z0 := Tryz.sizeOf0
  v0 := Tryz.zeroValue0
  t3 := Tryz.underlying3
  a3 := Tryz.isAgg3
  z3 := Tryz.sizeOf3
  v3 := Tryz.zeroValue3
  t4 := Tryz.underlying4
  a4 := Tryz.isAgg4
  z4 := Tryz.sizeOf4
  v4 := Tryz.zeroValue4
  t22 := Tryz.underlying80
  a22 := Tryz.isAgg80
  z22 := Tryz.sizeOf80
  v22 := Tryz.zeroValue80
  i3 := by kernel_rfl }
open Go.RowKit Go.Lib Go.Sort in
theorem Tryz.slices_Compact_int (blk off cap : Nat) (zs : List Int) (w : World) (hH : Holds (Value.int .i64) w blk off zs.toArray) (hsz : zs.length ≤ 9223372036854775807) (hcap : zs.length ≤ cap) :
    Calls Tryz.prog 67 #[.slice (some ⟨blk, off, none⟩) zs.length cap] w fun e w' => e = .returned (.slice (some ⟨blk, off, none⟩) (Lib.compact zs).length cap) ∧ ∃ q, w' = putRow (Value.int .i64) (Sort.ahead w q) blk off (Lib.compact zs ++ List.replicate (zs.length - (Lib.compact zs).length) 0).toArray := Any.slices_Compact_int Tryz.laysNm220 blk off cap zs w hH hsz hcap
open Go.RowKit Go.Lib Go.Sort in
theorem Tryz.slices_Compact_int_empty (a : Option Addr) (cap : Nat) (w : World) :
    Calls Tryz.prog 67 #[.slice a 0 cap] w fun e w' => e = .returned (.slice a 0 cap) ∧ w' = w := Any.slices_Compact_int_empty Tryz.laysNm220 a cap w
open Go.RowKit Go.Sort in
theorem Tryz.slices_Sort_int_none (p : Option Addr) (cap : Nat) (w : World) :
    Calls Tryz.prog 66 #[.slice p 0 cap] w fun e w' => e = .returned (.tuple #[]) ∧ w' = w := Any.slices_Sort_int_none Tryz.lays189 p cap w
end Go.Proofs
namespace Go.Proofs.YtnnoafgdjjpidaaGreatDoor.M
mutual
inductive Tm where
  | mk (c : Int) (ps : List Pt)
inductive Pt where
  | mk (coef kind var dv : Int) (of : List Tm)
end
@[reducible] def Tm.c : Tm → Int | .mk c _ => c
@[reducible] def Tm.ps : Tm → List Pt | .mk _ ps => ps
@[reducible] def Pt.coef : Pt → Int | .mk a _ _ _ _ => a
@[reducible] def Pt.kind : Pt → Int | .mk _ a _ _ _ => a
@[reducible] def Pt.var : Pt → Int | .mk _ _ a _ _ => a
@[reducible] def Pt.dv : Pt → Int | .mk _ _ _ a _ => a
@[reducible] def Pt.of : Pt → List Tm | .mk _ _ _ _ a => a
mutual
def Tm.dep : Tm → Nat
  | .mk _ ps => depPs ps + 1
def depPs : List Pt → Nat
  | [] => 0
  | p :: r => max p.dep (depPs r)
def Pt.dep : Pt → Nat
  | .mk _ _ _ _ of => depTs of
def depTs : List Tm → Nat
  | [] => 0
  | t :: r => max t.dep (depTs r)
end
mutual
def Tm.cnt : Tm → Nat
  | .mk _ ps => 1 + cntPs ps
def cntPs : List Pt → Nat
  | [] => 0
  | p :: r => 1 + p.cnt + cntPs r
def Pt.cnt : Pt → Nat
  | .mk _ _ _ _ of => cntTs of
def cntTs : List Tm → Nat
  | [] => 0
  | t :: r => t.cnt + cntTs r
end
theorem mem_dep {o : Tm} : ∀ {l : List Tm}, o ∈ l → o.dep ≤ depTs l
  | t :: r, h => by
    rcases List.mem_cons.1 h with rfl | h
    · simp only [depTs]; omega
    · have := mem_dep h; simp only [depTs]; omega
theorem mem_depP {p : Pt} : ∀ {l : List Pt}, p ∈ l → p.dep ≤ depPs l
  | t :: r, h => by
    rcases List.mem_cons.1 h with rfl | h
    · simp only [depPs]; omega
    · have := mem_depP h; simp only [depPs]; omega
theorem dep_of {t : Tm} {p : Pt} {o : Tm} (hp : p ∈ t.ps) (ho : o ∈ p.of) : o.dep < t.dep := by
  cases t with | mk c ps => cases p with | mk a k v b of =>
  have h1 := mem_depP hp
  have h2 := mem_dep ho
  simp only [Tm.dep, Pt.dep, Tm.ps, Pt.of] at *
  omega
theorem Tm.ind {motive : Tm → Prop} (h : ∀ t, (∀ p ∈ t.ps, ∀ o ∈ p.of, motive o) → motive t) (t : Tm) : motive t := by
  have key : ∀ n (t : Tm), t.dep < n → motive t := by
    intro n
    induction n with
    | zero => intro t ht; omega
    | succ n ih => intro t ht; exact h t fun p hp o ho => ih o (by have := dep_of hp ho; omega)
  exact key _ t (Nat.lt_succ_self _)
mutual
def bndT : Tm → Nat
  | .mk c ps => c.natAbs + bndPs ps
def bndPs : List Pt → Nat
  | [] => 0
  | p :: r => p.coef.natAbs * bndP p + bndPs r
def bndP : Pt → Nat
  | .mk _ k _ b of => if k = 1 then 16 else if k = 2 then bndO of / b.toNat + 1 else 2 ^ 31
def bndO : List Tm → Nat
  | [] => 0
  | t :: _ => bndT t
end
theorem cntPs_app {a b : List Pt} : cntPs (a ++ b) = cntPs a + cntPs b := by
  induction a with
  | nil => simp [cntPs]
  | cons p r ih => simp only [List.cons_append, cntPs, ih]; omega
theorem Tm.cnt_eq (t : Tm) : t.cnt = 1 + cntPs t.ps := by cases t; rfl
theorem Pt.cnt_eq (p : Pt) : p.cnt = cntTs p.of := by cases p; rfl
theorem cntPs_take {l : List Pt} {i : Nat} (h : i < l.length) : cntPs (l.take (i + 1)) = cntPs (l.take i) + (1 + cntTs l[i].of) := by
  rw [List.take_succ_eq_append_getElem h, cntPs_app]; simp only [cntPs, Pt.cnt_eq]; omega
theorem bndT_eq (t : Tm) : bndT t = t.c.natAbs + bndPs t.ps := by cases t; rfl
theorem bndP_eq (p : Pt) : bndP p = if p.kind = 1 then 16 else if p.kind = 2 then bndO p.of / p.dv.toNat + 1 else 2 ^ 31 := by cases p; rfl
theorem bndPs_app {a b : List Pt} : bndPs (a ++ b) = bndPs a + bndPs b := by
  induction a with
  | nil => simp [bndPs]
  | cons p r ih => simp only [List.cons_append, bndPs, ih]; omega
theorem bndPs_take {l : List Pt} {i : Nat} (h : i < l.length) : bndPs (l.take (i + 1)) = bndPs (l.take i) + l[i].coef.natAbs * bndP l[i] := by
  rw [List.take_succ_eq_append_getElem h, bndPs_app]; simp only [bndPs]; omega
def smallB (t : Tm) : Bool := decide (t.c.natAbs ≤ 2 ^ 40) && t.ps.all (fun p => decide (p.coef.natAbs ≤ 2 ^ 20)) && decide (bndT t ≤ 2 ^ 60)
def ints (a b : Int) : Int := if a < b then -1 else if b < a then 1 else 0
mutual
def cmpT : Tm → Tm → Int
  | .mk c ps, b => cmpL ps b.ps (ints c b.c)
def cmpL : List Pt → List Pt → Int → Int
  | [], [], e => e
  | [], _ :: _, _ => -1
  | _ :: _, [], _ => 1
  | p :: r, q :: s, e => if cmpP p q ≠ 0 then cmpP p q else if p.coef ≠ q.coef then ints p.coef q.coef else cmpL r s e
def cmpP : Pt → Pt → Int
  | .mk _ k v b of, q => if k ≠ q.kind then ints k q.kind else if v ≠ q.var then ints v q.var else if b ≠ q.dv then ints b q.dv else cmpO of q.of
def cmpO : List Tm → List Tm → Int
  | [], [] => 0
  | [], _ :: _ => -1
  | _ :: _, [] => 1
  | o :: _, o' :: _ => cmpT o o'
end
theorem cmpT_eq (a b : Tm) : cmpT a b = cmpL a.ps b.ps (ints a.c b.c) := by cases a; rw [cmpT]
theorem cmpP_eq (p q : Pt) : cmpP p q = if p.kind ≠ q.kind then ints p.kind q.kind else if p.var ≠ q.var then ints p.var q.var else if p.dv ≠ q.dv then ints p.dv q.dv else cmpO p.of q.of := by cases p; rw [cmpP]
def ascB : List Pt → Bool
  | p :: q :: r => decide (cmpP p q < 0) && ascB (q :: r)
  | _ => true
mutual
def vldT : Tm → Bool
  | .mk c ps => vldPs ps && ascB ps && smallB (.mk c ps)
def vldPs : List Pt → Bool
  | [] => true
  | p :: r => vldP p && vldPs r
def vldP : Pt → Bool
  | .mk a k v b of => decide (a ≠ 0) && if k = 0 ∨ k = 1 then decide (0 ≤ v) && decide (b = 0) && of.isEmpty else decide (k = 2) && decide (v = 0) && decide (2 ≤ b) && decide (b ≤ 1000) && vldO of
def vldO : List Tm → Bool
  | [t] => !t.ps.isEmpty && vldT t
  | _ => false
end
theorem vldT_eq (t : Tm) : vldT t = (vldPs t.ps && ascB t.ps && smallB t) := by cases t; rfl
theorem vldP_eq (p : Pt) : vldP p = (decide (p.coef ≠ 0) && if p.kind = 0 ∨ p.kind = 1 then decide (0 ≤ p.var) && decide (p.dv = 0) && p.of.isEmpty else decide (p.kind = 2) && decide (p.var = 0) && decide (2 ≤ p.dv) && decide (p.dv ≤ 1000) && vldO p.of) := by cases p; rfl
theorem vldPs_iff {l : List Pt} : vldPs l = true ↔ ∀ p ∈ l, vldP p = true := by
  induction l with
  | nil => simp [vldPs]
  | cons p r ih => simp [vldPs, ih]
mutual
def finT : Tm → Prop
  | .mk _ ps => finPs ps
def finPs : List Pt → Prop
  | [] => True
  | p :: r => finP p ∧ finPs r
def finP : Pt → Prop
  | .mk _ k _ _ of => (of = [] ↔ k ≠ 2) ∧ finTs of
def finTs : List Tm → Prop
  | [] => True
  | t :: r => finT t ∧ finTs r
end
theorem finPs_iff {l : List Pt} : finPs l ↔ ∀ p ∈ l, finP p := by
  induction l with
  | nil => simp [finPs]
  | cons p r ih => simp [finPs, ih]
theorem finTs_iff {l : List Tm} : finTs l ↔ ∀ p ∈ l, finT p := by
  induction l with
  | nil => simp [finTs]
  | cons p r ih => simp [finTs, ih]
theorem finT_eq (t : Tm) : finT t ↔ ∀ p ∈ t.ps, finP p := by cases t; simp only [finT, finPs_iff]
theorem finP_eq (p : Pt) : finP p ↔ (p.of = [] ↔ p.kind ≠ 2) ∧ ∀ o ∈ p.of, finT o := by cases p; simp only [finP, finTs_iff]
theorem cntPs_mem {l : List Pt} {p : Pt} (h : p ∈ l) : 1 + p.cnt ≤ cntPs l := by
  induction l with
  | nil => cases h
  | cons q r ih =>
    simp only [cntPs]
    rcases List.mem_cons.1 h with rfl | h
    · omega
    · have := ih h; omega
theorem cntTs_mem {l : List Tm} {p : Tm} (h : p ∈ l) : p.cnt ≤ cntTs l := by
  induction l with
  | nil => cases h
  | cons q r ih =>
    simp only [cntTs]
    rcases List.mem_cons.1 h with rfl | h
    · omega
    · have := ih h; omega
theorem Tm.cnt_pos (t : Tm) : 1 ≤ t.cnt := by rw [Tm.cnt_eq]; omega
theorem cntPs_len (l : List Pt) : l.length ≤ cntPs l := by
  induction l with
  | nil => simp
  | cons q r ih => simp only [cntPs, List.length_cons]; omega
theorem cnt_of {t : Tm} {p : Pt} {o : Tm} (hp : p ∈ t.ps) (ho : o ∈ p.of) : o.cnt < t.cnt := by
  have h1 := cntPs_mem hp
  have h2 := cntTs_mem ho
  rw [Pt.cnt_eq] at h1
  rw [Tm.cnt_eq t]; omega
theorem len_ps (t : Tm) : t.ps.length < t.cnt := by rw [Tm.cnt_eq]; have := cntPs_len t.ps; omega
theorem vldP_fin {p : Pt} (h : vldP p = true) (hf : ∀ o ∈ p.of, vldT o = true → finT o) : finP p := by
  rw [vldP_eq] at h
  rw [finP_eq]
  split at h
  · rename_i hk
    simp only [Bool.and_eq_true, List.isEmpty_iff, decide_eq_true_eq] at h
    exact ⟨⟨fun _ => by omega, fun _ => h.2.2⟩, by rw [h.2.2]; simp⟩
  · simp only [Bool.and_eq_true, decide_eq_true_eq] at h
    obtain ⟨_, ⟨⟨h1, _⟩, h2⟩⟩ := h
    cases ho : p.of with
    | nil => rw [ho] at h2; simp [vldO] at h2
    | cons o r =>
      cases r with
      | cons o2 r2 => rw [ho] at h2; simp [vldO] at h2
      | nil =>
        rw [ho] at h2 hf
        simp only [vldO, Bool.and_eq_true] at h2
        refine ⟨by simp; omega, fun x hx => hf x hx ?_⟩
        simp at hx; subst hx; exact h2.2
theorem vldT_fin (t : Tm) : vldT t = true → finT t := by
  induction t using Tm.ind with
  | h t ih =>
    intro h
    rw [vldT_eq] at h
    simp only [Bool.and_eq_true] at h
    rw [finT_eq]
    intro p hp
    exact vldP_fin (vldPs_iff.1 h.1.1 p hp) fun o ho hv => ih p hp o ho hv
theorem ints_zero {a b : Int} : ints a b = 0 ↔ a = b := by unfold ints; split <;> (try split) <;> omega
def orI : List Int → Int
  | [] => 0
  | a :: r => if a ≠ 0 then a else orI r
theorem orI_at {l : List Int} {i : Nat} (h : i < l.length) (h0 : ∀ x ∈ l.take i, x = 0) (hi : l[i] ≠ 0) : orI l = l[i] := by
  induction l generalizing i with
  | nil => simp at h
  | cons a r ih =>
    cases i with
    | zero => simp only [List.getElem_cons_zero] at hi ⊢; simp only [orI, if_pos hi]
    | succ i =>
      have : a = 0 := h0 a (by simp)
      simp only [orI, this, ne_eq, not_true_eq_false, if_false, List.getElem_cons_succ]
      exact ih (by simpa using h) (fun x hx => h0 x (by simp [hx])) (by simpa using hi)
theorem orI_none {l : List Int} (h0 : ∀ x ∈ l, x = 0) : orI l = 0 := by
  induction l with
  | nil => rfl
  | cons a r ih =>
    have : a = 0 := h0 a (by simp)
    simp only [orI, this, ne_eq, not_true_eq_false, if_false]
    exact ih fun x hx => h0 x (by simp [hx])
theorem cmpL_step {a b : List Pt} {i : Nat} {e : Int} (ha : i < a.length) (hb : i < b.length) : cmpL (a.drop i) (b.drop i) e = if cmpP a[i] b[i] ≠ 0 then cmpP a[i] b[i] else if a[i].coef ≠ b[i].coef then ints a[i].coef b[i].coef else cmpL (a.drop (i + 1)) (b.drop (i + 1)) e := by
  rw [List.drop_eq_getElem_cons ha, List.drop_eq_getElem_cons hb, cmpL]
theorem cmpL_end {a b : List Pt} {i : Nat} {e : Int} (ha : i ≤ a.length) (hb : i ≤ b.length) (h : i = a.length ∨ i = b.length) : cmpL (a.drop i) (b.drop i) e = if (a.length : Int) ≠ b.length then ints a.length b.length else e := by
  rcases Nat.lt_trichotomy a.length b.length with hl | hl | hl
  · have hi : i = a.length := by omega
    subst hi
    rw [List.drop_length, List.drop_eq_getElem_cons (by omega), cmpL, if_pos (by omega)]
    unfold ints; rw [if_pos (by omega)]
  · have hi : i = a.length := by omega
    subst hi
    rw [List.drop_length, hl, List.drop_length, cmpL, if_neg (by omega)]
  · have hi : i = b.length := by omega
    subst hi
    rw [List.drop_length, List.drop_eq_getElem_cons (by omega), cmpL, if_pos (by omega)]
    unfold ints; rw [if_neg (by omega), if_pos (by omega)]
def cap (n : Nat) : Nat := min n (2 ^ 60 + 1)
theorem cap_le (n : Nat) : cap n ≤ 2 ^ 60 + 1 := Nat.min_le_right _ _
theorem cap_add (a b : Nat) : cap (cap a + cap b) = cap (a + b) := by unfold cap; omega
def bokP (p : Pt) : Prop := p.kind = 2 → (1 ≤ p.dv ∧ p.dv ≤ 1000) ∧ ∃ h : 0 < p.of.length, vldT p.of[0] = true
theorem vldP_bok {p : Pt} (h : vldP p = true) : bokP p := by
  intro hk
  rw [vldP_eq, if_neg (by omega)] at h
  simp only [Bool.and_eq_true, decide_eq_true_eq] at h
  obtain ⟨_, ⟨⟨_, h1⟩, h2⟩, h3⟩ := h
  refine ⟨⟨by omega, by omega⟩, ?_⟩
  cases ho : p.of with
  | nil => rw [ho] at h3; simp [vldO] at h3
  | cons o r =>
    cases r with
    | cons o2 r2 => rw [ho] at h3; simp [vldO] at h3
    | nil =>
      rw [ho] at h3
      simp only [vldO, Bool.and_eq_true] at h3
      exact ⟨by simp, h3.2⟩
structure bokT (t : Tm) : Prop where
  c : -9223372036854775808 ≤ t.c ∧ t.c ≤ 9223372036854775807
  coef : ∀ p ∈ t.ps, -9223372036854775808 ≤ p.coef ∧ p.coef ≤ 9223372036854775807
  part : ∀ p ∈ t.ps, bokP p
theorem vldT_small {t : Tm} (h : vldT t = true) : smallB t = true := by rw [vldT_eq] at h; simp only [Bool.and_eq_true] at h; exact h.2
theorem smallB_iff {t : Tm} : smallB t = true ↔ t.c.natAbs ≤ 2 ^ 40 ∧ (∀ p ∈ t.ps, p.coef.natAbs ≤ 2 ^ 20) ∧ bndT t ≤ 2 ^ 60 := by
  unfold smallB; simp [List.all_eq_true, and_assoc]
theorem vldT_bok {t : Tm} (h : vldT t = true) : bokT t := by
  have h1 := smallB_iff.1 (vldT_small h)
  rw [vldT_eq] at h
  simp only [Bool.and_eq_true] at h
  exact ⟨by omega, fun p hp => by have := h1.2.1 p hp; omega, fun p hp => vldP_bok (vldPs_iff.1 h.1.1 p hp)⟩
theorem bndO_eq {l : List Tm} (h : 0 < l.length) : bndO l = bndT l[0] := by
  cases l with
  | nil => simp at h
  | cons o r => rfl
theorem bokP_bnd {p : Pt} (h : bokP p) (hk : p.kind = 2) : ∃ h : 0 < p.of.length, bndT p.of[0] ≤ 2 ^ 60 ∧ bndP p = bndT p.of[0] / p.dv.toNat + 1 := by
  obtain ⟨_, h1, h2⟩ := h hk
  exact ⟨h1, (smallB_iff.1 (vldT_small h2)).2.2, by rw [bndP_eq, if_neg (by omega), if_pos hk, bndO_eq h1]⟩
theorem bokP_le {p : Pt} (h : bokP p) : bndP p ≤ 2 ^ 60 + 1 := by
  by_cases hk : p.kind = 2
  · obtain ⟨_, h1, h2⟩ := bokP_bnd h hk
    have := Nat.div_le_self (bndT p.of[0]) p.dv.toNat
    omega
  · rw [bndP_eq]; split <;> (try rw [if_neg hk]) <;> omega
abbrev Rg (n : Int) : Prop := -9223372036854775808 ≤ n ∧ n ≤ 9223372036854775807
mutual
def rgT : Tm → Prop
  | .mk c ps => (Rg c ∧ ps.length ≤ 2 ^ 60) ∧ rgPs ps
def rgPs : List Pt → Prop
  | [] => True
  | p :: r => rgP p ∧ rgPs r
def rgP : Pt → Prop
  | .mk a k v b of => Rg a ∧ Rg k ∧ Rg v ∧ (Rg b ∧ of.length ≤ 2 ^ 60) ∧ rgTs of
def rgTs : List Tm → Prop
  | [] => True
  | t :: r => rgT t ∧ rgTs r
end
theorem vldP_fin' {p : Pt} (h : vldP p = true) : finP p := vldP_fin h fun o _ hv => vldT_fin o hv
structure RV where
  k : Int
  n : Int
  s : ByteArray
def lex (a b : Int) : Int := if a ≠ 0 then a else b
theorem lex_neg (a b : Int) : lex (-a) (-b) = -lex a b := by unfold lex; split <;> split <;> omega
theorem ints_neg (a b : Int) : ints b a = -ints a b := by unfold ints; split <;> split <;> (try split) <;> omega
structure C3 (a b c : Int) : Prop where
  le : a ≤ 0 → b ≤ 0 → c ≤ 0
  ge : 0 ≤ a → 0 ≤ b → 0 ≤ c
  lt : a < 0 → b ≤ 0 → c < 0
  tl : a ≤ 0 → b < 0 → c < 0
  gt : 0 < a → 0 ≤ b → 0 < c
  tg : 0 ≤ a → 0 < b → 0 < c
theorem C3.lex {a b c a' b' c' : Int} (h : C3 a b c) (h' : C3 a' b' c') : C3 (M.lex a a') (M.lex b b') (M.lex c c') := by
  obtain ⟨h1, h2, h3, h4, h5, h6⟩ := h
  obtain ⟨k1, k2, k3, k4, k5, k6⟩ := h'
  unfold M.lex
  constructor <;> (split <;> split <;> split <;> omega)
theorem C3.ints (a b c : Int) : C3 (M.ints a b) (M.ints b c) (M.ints a c) := by
  unfold M.ints
  constructor <;> (split <;> (try split) <;> (try split) <;> (try split) <;> (try split) <;> (try split) <;> omega)
theorem cmpP_lex (p q : Pt) : cmpP p q = lex (ints p.kind q.kind) (lex (ints p.var q.var) (lex (ints p.dv q.dv) (cmpO p.of q.of))) := by
  rw [cmpP_eq]
  unfold lex
  by_cases h1 : p.kind = q.kind
  · by_cases h2 : p.var = q.var
    · by_cases h3 : p.dv = q.dv
      · simp [h1, h2, h3, ints_zero.2]
      · have := mt ints_zero.1 h3
        simp [h1, h2, h3, ints_zero.2, this]
    · have := mt ints_zero.1 h2
      simp [h1, h2, ints_zero.2, this]
  · have := mt ints_zero.1 h1
    simp [h1, this]
theorem cmpL_lex (p q : Pt) (r s : List Pt) (e : Int) : cmpL (p :: r) (q :: s) e = lex (cmpP p q) (lex (ints p.coef q.coef) (cmpL r s e)) := by
  rw [cmpL]
  unfold lex
  by_cases h2 : p.coef = q.coef
  · simp [h2, ints_zero.2]
  · have := mt ints_zero.1 h2
    simp [h2, this]
theorem cmpL_neg {l m : List Pt} (h : ∀ p ∈ l, ∀ q, cmpP q p = -cmpP p q) (e : Int) : cmpL m l (-e) = -cmpL l m e := by
  induction l generalizing m with
  | nil => cases m with
    | nil => rw [cmpL, cmpL]
    | cons q s => rw [cmpL, cmpL]; rfl
  | cons p r ih => cases m with
    | nil => rw [cmpL, cmpL]
    | cons q s => rw [cmpL_lex, cmpL_lex, h p (by simp), ints_neg p.coef, ih (fun x hx => h x (by simp [hx])), lex_neg, lex_neg]
theorem cmpO_neg {l m : List Tm} (h : ∀ o ∈ l, ∀ b, cmpT b o = -cmpT o b) : cmpO m l = -cmpO l m := by
  cases l with
  | nil => cases m with
    | nil => rw [cmpO]; rfl
    | cons q s => rw [cmpO, cmpO]; rfl
  | cons p r => cases m with
    | nil => rw [cmpO, cmpO]
    | cons q s => rw [cmpO, cmpO]; exact h p (by simp) q
theorem cmpT_neg (a : Tm) : ∀ b, cmpT b a = -cmpT a b := by
  induction a using Tm.ind with
  | h a ih =>
    intro b
    rw [cmpT_eq, cmpT_eq, ints_neg a.c b.c]
    refine cmpL_neg (fun p hp q => ?_) _
    rw [cmpP_lex, cmpP_lex, ints_neg p.kind, ints_neg p.var, ints_neg p.dv, cmpO_neg (fun o ho b => ih p hp o ho b), lex_neg, lex_neg, lex_neg]
theorem cmpL_C {l : List Pt} (h : ∀ p ∈ l, ∀ q u, C3 (cmpP p q) (cmpP q u) (cmpP p u)) {m n : List Pt} {e f g : Int} (he : C3 e f g) : C3 (cmpL l m e) (cmpL m n f) (cmpL l n g) := by
  induction l generalizing m n with
  | nil =>
    cases m with
    | nil =>
      cases n with
      | nil => rw [cmpL, cmpL, cmpL]; exact he
      | cons u w => rw [cmpL, cmpL, cmpL]; constructor <;> omega
    | cons q s =>
      cases n with
      | nil => rw [cmpL, cmpL, cmpL]; constructor <;> omega
      | cons u w => rw [cmpL, cmpL]; constructor <;> omega
  | cons p r ih =>
    cases m with
    | nil =>
      cases n with
      | nil => rw [cmpL, cmpL, cmpL]; constructor <;> omega
      | cons u w => rw [cmpL, cmpL]; constructor <;> omega
    | cons q s =>
      cases n with
      | nil => rw [cmpL_lex, cmpL, cmpL]; constructor <;> omega
      | cons u w =>
        rw [cmpL_lex, cmpL_lex, cmpL_lex]
        exact (h p (by simp) q u).lex ((C3.ints _ _ _).lex (ih fun x hx => h x (by simp [hx])))
theorem cmpO_C {l m n : List Tm} (h : ∀ o ∈ l, ∀ b c, C3 (cmpT o b) (cmpT b c) (cmpT o c)) : C3 (cmpO l m) (cmpO m n) (cmpO l n) := by
  cases l with
  | nil =>
    cases m with
    | nil =>
      cases n with
      | nil => rw [cmpO]; constructor <;> omega
      | cons u w => rw [cmpO, cmpO]; constructor <;> omega
    | cons q s =>
      cases n with
      | nil => rw [cmpO, cmpO, cmpO]; constructor <;> omega
      | cons u w => rw [cmpO, cmpO, cmpO]; constructor <;> omega
  | cons p r =>
    cases m with
    | nil =>
      cases n with
      | nil => rw [cmpO, cmpO]; constructor <;> omega
      | cons u w => rw [cmpO, cmpO, cmpO]; constructor <;> omega
    | cons q s =>
      cases n with
      | nil => rw [cmpO, cmpO, cmpO]; constructor <;> omega
      | cons u w => rw [cmpO, cmpO, cmpO]; exact h p (by simp) q u
theorem cmpT_C (a : Tm) : ∀ b c, C3 (cmpT a b) (cmpT b c) (cmpT a c) := by
  induction a using Tm.ind with
  | h a ih =>
    intro b c
    rw [cmpT_eq, cmpT_eq, cmpT_eq]
    refine cmpL_C (fun p hp q u => ?_) (C3.ints _ _ _)
    rw [cmpP_lex, cmpP_lex, cmpP_lex]
    exact (C3.ints _ _ _).lex ((C3.ints _ _ _).lex ((C3.ints _ _ _).lex (cmpO_C fun o ho b c => ih p hp o ho b c)))
end Go.Proofs.YtnnoafgdjjpidaaGreatDoor.M
namespace Go.Proofs.YtnnoafgdjjpidaaGreatDoor.E
open Go.RowKit
section
variable {P : Program} {all : Array Oper} {o : Oper} {K : S → Prop} {rest : List Oper} {n d : Nat} {t : Nat → X} {L : Nat → Option AO} {H : Heap} {cd : Code} {Q : Exit → S → Prop} {s : S}
theorem sM {y : Operand} {z : C} (k : SeqK P all K rest ⟨n, upd t d (.c z), L, H⟩) (ho : o.op = .move y := by exact rfl) (hy : S.eval ⟨n, t, L, H⟩ y = .c z := by exact rfl) (hg : o.guard = none := by exact rfl) (hdst : o.dst = some d := by exact rfl) (hd : Nat.blt d n = true := by exact rfl) : SeqK P all K (o :: rest) ⟨n, t, L, H⟩ := SeqK.q (q_mvC ho hy) hg hdst hd k
theorem sA {y : Operand} {z : C} (k : SeqK P all K rest ⟨n, upd t d (.c z), L, H⟩) (ho : o.op = .assign y := by exact rfl) (hy : S.eval ⟨n, t, L, H⟩ y = .c z := by exact rfl) (hg : o.guard = none := by exact rfl) (hdst : o.dst = some d := by exact rfl) (hd : Nat.blt d n = true := by exact rfl) : SeqK P all K (o :: rest) ⟨n, t, L, H⟩ := SeqK.q (q_asC ho hy) hg hdst hd k
theorem sR {id : Nat} {l : List Oper} (h : SeqK P l.toArray ((Eth (AW P cd Q) Q) .normal) l s) : AW P (.seq (.region id l.toArray false) cd) Q s := AW.seq (AW.reg h)
end
section
variable {P : Program} {Q : X → Heap → Prop} {all : Array Oper} {K : S → Prop} {o : Oper} {n d : Nat} {t : Nat → X} {L : Nat → Option AO} {H : Heap}
theorem sB {y : Operand} {z : C} (k : K ⟨n, upd t d (.c z), L, H⟩) (ho : o.op = .assign y := by exact rfl) (hy : S.eval ⟨n, t, L, H⟩ y = .c z := by exact rfl) (hg : o.guard = none := by exact rfl) (hdst : o.dst = some d := by exact rfl) (hd : Nat.blt d n = true := by exact rfl) : SeqK P all K [o] ⟨n, t, L, H⟩ := sA (SeqK.nil k) ho hy hg hdst hd
theorem f1 {s : S} {fn : Func} {z : C} (h : Res P s fn.results.toList [z] := by exact .tmp rfl .nil) (q : Q (.c z) s.H) : Fin P fn Q .ret s := fin_x (x := .c _) s.H h rfl (fun _ _ h => h) q
theorem f2 {s : S} {fn : Func} {z w : C} (h : Res P s fn.results.toList [z, w]) (q : Q (.tup [z, w]) s.H) : Fin P fn Q .ret s := fin_x (x := .tup [_, _]) s.H h rfl (fun _ _ h => h) q
theorem cD {P : Program} {Q : Exit → S → Prop} {s : S} {cnd : Operand} {x y : Code} {p : Prop} [Decidable p] (ht : p → AW P x Q s) (hf : ¬ p → AW P y Q s) (hv : s.eval cnd = .c (.a (.t (.v (.bool (decide p))))) := by exact rfl) : AW P (.cond cnd x y) Q s := AW.condD hv ht hf
theorem relOn {P : Program} {all : Array Oper} {K : S → Prop} {o : Oper} {rest : List Oper} {n d : Nat} {t : Nat → X} {L : Nat → Option AO} {H : Heap} {f : FuncId} {ys : Array Operand} {ts : Array TypeId} {args : List C} {j i : Nat} {g : Bool} {p : Prop} (hf : fnB P f = true) (h : Spec P f args H fun x H' => ∃ b : Bool, x = .c (.a (.t (.v (.bool b)))) ∧ (b = true → p) ∧ H' = H) (k : ∀ b : Bool, (b = true → p) → SeqK P all K rest ⟨n, upd t d (.c (.a (.t (.v (.bool b))))), L, H⟩) (ho : o.op = .call { callee := .value (.func f), args := ys, argTypes := ts } := by exact rfl) (hg : o.guard = some (j, g) := by exact rfl) (hj : (all[j]?).bind (·.dst) = some i := by exact rfl) (hb : t i = tv (.bool g) := by exact rfl) (hdst : o.dst = some d := by exact rfl) (hd : Nat.blt d n = true := by exact rfl) (ha : argsX ⟨n, t, L, H⟩ ys.toList = some args := by exact rfl) : SeqK P all K (o :: rest) ⟨n, t, L, H⟩ :=
  SeqK.callOn ho hg hj hb hdst hd hf ha h (fun _ _ h => by obtain ⟨b, hb, _⟩ := h; rw [hb]; rfl) fun x H' q => by
    obtain ⟨b, rfl, q, hH⟩ := q
    subst hH
    exact k b q
theorem aR {P : Program} {Q : Exit → S → Prop} {s : S} (h : Q .ret s) : AW P .ret Q s := AW.ret h
theorem oF {rest : List Oper} {j i : Nat} {b b' : Bool} (k : SeqK P all K rest ⟨n, upd t d (.tup []), L, H⟩) (hg : o.guard = some (j, b) := by exact rfl) (hj : (all[j]?).bind (·.dst) = some i := by exact rfl) (hb : t i = tv (.bool b') := by exact rfl) (hne : (b' == b) = false := by exact rfl) (hdst : o.dst = some d := by exact rfl) (hd : Nat.blt d n = true := by exact rfl) : SeqK P all K (o :: rest) ⟨n, t, L, H⟩ := SeqK.off hg hj hb hne hdst hd k
theorem oU {rest : List Oper} {j i : Nat} {b : Bool} (k : SeqK P all K rest ⟨n, upd t d (.tup []), L, H⟩) (hg : o.guard = some (j, b) := by exact rfl) (hj : (all[j]?).bind (·.dst) = some i := by exact rfl) (hb : t i = .tup [] := by exact rfl) (hdst : o.dst = some d := by exact rfl) (hd : Nat.blt d n = true := by exact rfl) : SeqK P all K (o :: rest) ⟨n, t, L, H⟩ := SeqK.offU hg hj hb hdst hd k
end
section
variable {v0 : Program} {v1 : Array Oper} {v2 : Oper} {v3 : S → Prop} {v4 : List Oper} {v5 v6 v10 v15 v16 v18 v19 v24 v25 : Nat} {v7 : Nat → X} {v8 : Nat → Option AO} {v9 : Heap} {v11 : A} {v12 v30 : TypeId} {v13 v20 v23 : Operand} {v14 v22 : Bool} {v17 : List A} {v21 : C} {v26 : List C} {v27 : S} {v28 v29 v39 : Int} {v31 : IntKind} {v32 : Array (Nat × Operand)} {v33 : Value} {v34 : List (Nat × List A)} {v35 v46 : X} {v36 : FuncId} {v37 : Array Operand} {v38 : Array TypeId} {v40 v45 : List T} {v41 : Nz} {v42 : List (List T)} {v43 : Prop} {v44 : List Fp}
theorem Z0 (a2 : tyB v0 v12 v14 v15 = true) (k10 : SeqK v0 v1 v3 v4 (S.mk v6 (upd v7 v10 (X.c (C.a v11))) v8 v9)) (h1 : v2.op = Op.load v12 v13 := by exact rfl) (h3 : (S.mk v6 v7 v8 v9).eval v13 = X.lp v5 v16 := by exact rfl) (h4 : v8 v5 = some (AO.box v17) := by exact rfl) (h5 : mkC v14 (List.take v15 (List.drop v16 v17)) = C.a v11 := by exact rfl) (h6 : (v16 + v15).ble v17.length = true := by exact rfl) (h7 : v2.dst = some v10 := by exact rfl) (h8 : v10.blt v6 = true := by exact rfl) (h9 : v2.guard = none := by exact rfl) : SeqK v0 v1 v3 (v2 :: v4) (S.mk v6 v7 v8 v9) := SeqK.r (b_load (r := .a _) h1 a2 h3 h4 h5 h6 h7 h8) h9 k10
theorem Z1 (a2 : fldB v0 v12 v16 v18 = true) (k8 : SeqK v0 v1 v3 v4 (S.mk v5 (upd v7 v6 (X.lp v10 v15)) v8 v9)) (h1 : v2.op = Op.fieldAddr v12 v13 v16 := by exact rfl) (h3 : (S.mk v5 v7 v8 v9).eval v13 = X.lp v10 v19 := by exact rfl) (h4 : v19 + v18 = v15 := by exact rfl) (h5 : v2.guard = none := by exact rfl) (h6 : v2.dst = some v6 := by exact rfl) (h7 : v6.blt v5 = true := by exact rfl) : SeqK v0 v1 v3 (v2 :: v4) (S.mk v5 v7 v8 v9) := SeqK.q (q_fieldL _ h1 a2 h3 h4) h5 h6 h7 k8
theorem Z2 {r : List A} (a4 : tyB v0 v12 v14 v10 = true) (k12 : SeqK v0 v1 v3 v4 (S.mk v6 v7 (upd v8 v5 (some (AO.box r))) v9)) (h2 : v2.op = Op.store v12 v13 v20 := by exact rfl) (h3 : v2.dst = none := by exact rfl) (h5 : (S.mk v6 v7 v8 v9).eval v13 = X.lp v5 v15 := by exact rfl) (h6 : (S.mk v6 v7 v8 v9).eval v20 = X.c v21 := by exact rfl) (h7 : v8 v5 = some (AO.box v17) := by exact rfl) (h8 : splice v17 v15 v21.cells = r := by exact rfl) (h9 : v21.cells.length = v10 := by exact rfl) (h10 : (v15 + v10).ble v17.length = true := by exact rfl) (h11 : v2.guard = none := by exact rfl) : SeqK v0 v1 v3 (v2 :: v4) (S.mk v6 v7 v8 v9) := SeqK.r (b_store (r := r) h2 h3 a4 h5 h6 h7 h8 h9 h10) h11 k12
theorem Z3 (a2 : tyB v0 v12 v22 v18 = true) (k12 : SeqK v0 v1 v3 v4 (S.mk v6 (upd v7 v10 (X.c (C.a v11))) v8 v9)) (h1 : v2.op = Op.load v12 v13 := by exact rfl) (h3 : (S.mk v6 v7 v8 v9).eval v13 = X.lp v5 v19 := by exact rfl) (h4 : v8 v5 = some (AO.box v17) := by exact rfl) (h5 : mkC v22 (List.take v18 (List.drop v19 v17)) = C.a v11 := by exact rfl) (h6 : (v19 + v18).ble v17.length = true := by exact rfl) (h7 : v2.dst = some v10 := by exact rfl) (h8 : v10.blt v6 = true := by exact rfl) (h9 : v2.guard = some (v15, v14) := by exact rfl) (h10 : (v1[v15]?.bind fun x ↦ x.dst) = some v16 := by exact rfl) (h11 : v7 v16 = tv (Value.bool v14) := by exact rfl) : SeqK v0 v1 v3 (v2 :: v4) (S.mk v6 v7 v8 v9) := SeqK.rOn (b_load (r := .a _) h1 a2 h3 h4 h5 h6 h7 h8) h9 h10 h11 k12
theorem Z4 (k7 : SeqK v0 v1 v3 v4 (S.mk v5 (upd v7 v6 (X.c v21)) v8 v9)) (h1 : v2.op = Op.pick v13 v20 v23 := by exact rfl) (h2 : (S.mk v5 v7 v8 v9).eval v13 = bX false := by exact rfl) (h3 : (S.mk v5 v7 v8 v9).eval v23 = X.c v21 := by exact rfl) (h4 : v2.guard = none := by exact rfl) (h5 : v2.dst = some v6 := by exact rfl) (h6 : v6.blt v5 = true := by exact rfl) : SeqK v0 v1 v3 (v2 :: v4) (S.mk v5 v7 v8 v9) := SeqK.q (q_pkF h1 h2 h3) h4 h5 h6 k7
theorem Z5 (a2 : fldB v0 v12 v19 v24 = true) (k10 : SeqK v0 v1 v3 v4 (S.mk v5 (upd v7 v6 (X.lp v10 v15)) v8 v9)) (h1 : v2.op = Op.fieldAddr v12 v13 v19 := by exact rfl) (h3 : (S.mk v5 v7 v8 v9).eval v13 = X.lp v10 v25 := by exact rfl) (h4 : v25 + v24 = v15 := by exact rfl) (h5 : v2.guard = some (v16, v14) := by exact rfl) (h6 : (v1[v16]?.bind fun x ↦ x.dst) = some v18 := by exact rfl) (h7 : v7 v18 = tv (Value.bool v14) := by exact rfl) (h8 : v2.dst = some v6 := by exact rfl) (h9 : v6.blt v5 = true := by exact rfl) : SeqK v0 v1 v3 (v2 :: v4) (S.mk v5 v7 v8 v9) := SeqK.on (q_fieldL _ h1 a2 h3 h4) h5 h6 h7 h8 h9 k10
theorem Z6 (k7 : SeqK v0 v1 v3 v4 (S.mk v5 (upd v7 v6 (X.c v21)) v8 v9)) (h1 : v2.op = Op.extract v13 v10 := by exact rfl) (h2 : (S.mk v5 v7 v8 v9).eval v13 = X.tup v26 := by exact rfl) (h3 : v26[v10]? = some v21 := by exact rfl) (h4 : v2.guard = none := by exact rfl) (h5 : v2.dst = some v6 := by exact rfl) (h6 : v6.blt v5 = true := by exact rfl) : SeqK v0 v1 v3 (v2 :: v4) (S.mk v5 v7 v8 v9) := SeqK.q (q_extract _ h1 h2 h3) h4 h5 h6 k7
theorem Z7 (k1 : v3 v27) : SeqK v0 v1 v3 [] v27 := SeqK.nil k1
theorem Z8 (k7 : SeqK v0 v1 v3 v4 (S.mk v5 (upd v7 v6 (X.c v21)) v8 v9)) (h1 : v2.op = Op.pick v13 v20 v23 := by exact rfl) (h2 : (S.mk v5 v7 v8 v9).eval v13 = bX true := by exact rfl) (h3 : (S.mk v5 v7 v8 v9).eval v20 = X.c v21 := by exact rfl) (h4 : v2.guard = none := by exact rfl) (h5 : v2.dst = some v6 := by exact rfl) (h6 : v6.blt v5 = true := by exact rfl) : SeqK v0 v1 v3 (v2 :: v4) (S.mk v5 v7 v8 v9) := SeqK.q (q_pkT h1 h2 h3) h4 h5 h6 k7
theorem Z9 (k7 : SeqK v0 v1 v3 v4 (S.mk v5 (upd v7 v6 (bX (decide (v28 = v29)))) v8 v9)) (h1 : v2.op = Op.binOp BinOp.eql v12 v13 v20 v30 := by exact rfl) (h2 : (S.mk v5 v7 v8 v9).eval v13 = iX v31 v28 := by exact rfl) (h3 : (S.mk v5 v7 v8 v9).eval v20 = iX v31 v29 := by exact rfl) (h4 : v2.guard = none := by exact rfl) (h5 : v2.dst = some v6 := by exact rfl) (h6 : v6.blt v5 = true := by exact rfl) : SeqK v0 v1 v3 (v2 :: v4) (S.mk v5 v7 v8 v9) := SeqK.q (q_eql h1 h2 h3) h4 h5 h6 k7
theorem Z10 {r : C} (a3 : tyB v0 v12 v14 v15 = true) (k11 : SeqK v0 v1 v3 v4 (S.mk v6 (upd v7 v10 (X.c r)) v8 v9)) (h2 : v2.op = Op.load v12 v13 := by exact rfl) (h4 : (S.mk v6 v7 v8 v9).eval v13 = X.lp v5 v16 := by exact rfl) (h5 : v8 v5 = some (AO.box v17) := by exact rfl) (h6 : mkC v14 (List.take v15 (List.drop v16 v17)) = r := by exact rfl) (h7 : (v16 + v15).ble v17.length = true := by exact rfl) (h8 : v2.dst = some v10 := by exact rfl) (h9 : v10.blt v6 = true := by exact rfl) (h10 : v2.guard = none := by exact rfl) : SeqK v0 v1 v3 (v2 :: v4) (S.mk v6 v7 v8 v9) := SeqK.r (b_load (r := r) h2 a3 h4 h5 h6 h7 h8 h9) h10 k11
theorem Z11 {r : List A} {zs : List A} (a3 : List (Nat × Nat)) (a5 : zeroIs v0 v12 v33) (a7 : bplB v0 v12 a3 = true) (k15 : SeqK v0 v1 v3 v4 (S.mk v5 (upd v7 v6 (X.c (C.g r))) v8 v9)) (h4 : v2.op = Op.build v12 v32 := by exact rfl) (h6 : v33.cells.toList.all Value.oneCell' = true := by exact rfl) (h8 : partsX (S.mk v5 v7 v8 v9) v32.toList = some v34 := by exact rfl) (h9 : List.map litA v33.cells.toList = zs := by exact rfl) (h10 : contB a3 0 zs.length = true := by exact rfl) (h11 : buildA a3 0 zs v34 = some r := by exact rfl) (h12 : v2.guard = none := by exact rfl) (h13 : v2.dst = some v6 := by exact rfl) (h14 : v6.blt v5 = true := by exact rfl) : SeqK v0 v1 v3 (v2 :: v4) (S.mk v5 v7 v8 v9) := SeqK.q (q_build2 (zs := zs) (r := r) a3 _ h4 a5 h6 a7 h8 h9 h10 h11) h12 h13 h14 k15
theorem Z12 (a2 : fnB v0 v36 = true) (a4 : Pure v0 v36 v26 v35) (k9 : SeqK v0 v1 v3 v4 (S.mk v5 (upd v7 v6 v35) v8 v9)) (h1 : v2.op = Op.call { callee := Callee.value (Operand.func v36), args := v37, argTypes := v38 } := by exact rfl) (h3 : argsX (S.mk v5 v7 v8 v9) v37.toList = some v26 := by exact rfl) (h5 : v35.loc = none := by exact rfl) (h6 : v2.guard = none := by exact rfl) (h7 : v2.dst = some v6 := by exact rfl) (h8 : v6.blt v5 = true := by exact rfl) : SeqK v0 v1 v3 (v2 :: v4) (S.mk v5 v7 v8 v9) := SeqK.q (q_call _ h1 a2 h3 a4 h5) h6 h7 h8 k9
theorem Z13 (k8 : SeqK v0 v1 v3 v4 (S.mk v5 (upd v7 v6 (iX v31 v28)) v8 v9)) (h1 : v2.op = Op.binOp BinOp.add v12 v13 v20 v30 := by exact rfl) (h2 : (S.mk v5 v7 v8 v9).eval v13 = iX v31 v29 := by exact rfl) (h3 : (S.mk v5 v7 v8 v9).eval v20 = iX v31 v39 := by exact rfl) (h4 : v31.wrap (v29 + v39) = v28 := by exact w64 (by omega) (by omega)) (h5 : v2.guard = none := by exact rfl) (h6 : v2.dst = some v6 := by exact rfl) (h7 : v6.blt v5 = true := by exact rfl) : SeqK v0 v1 v3 (v2 :: v4) (S.mk v5 v7 v8 v9) := SeqK.q (q_add _ h1 h2 h3 h4) h5 h6 h7 k8
theorem Z14 (k8 : SeqK v0 v1 v3 v4 (S.mk v5 (upd v7 v6 (X.c v21)) v8 v9)) (h1 : v2.op = Op.move v13 := by exact rfl) (h2 : (S.mk v5 v7 v8 v9).eval v13 = X.c v21 := by exact rfl) (h3 : v2.guard = some (v10, v14) := by exact rfl) (h4 : (v1[v10]?.bind fun x ↦ x.dst) = some v15 := by exact rfl) (h5 : v7 v15 = tv (Value.bool v14) := by exact rfl) (h6 : v2.dst = some v6 := by exact rfl) (h7 : v6.blt v5 = true := by exact rfl) : SeqK v0 v1 v3 (v2 :: v4) (S.mk v5 v7 v8 v9) := SeqK.on (q_mvC h1 h2) h3 h4 h5 h6 h7 k8
theorem Z15 (a2 : slB v0 v12 v30 v16 = true) (a6 : v42[v28.toNat]? = some v40) (k12 : SeqK v0 v1 v3 v4 (S.mk v5 (upd v7 v6 (X.pc v40)) v8 v9)) (h1 : v2.op = Op.indexAddr v12 v13 v20 := by exact rfl) (h3 : (S.mk v5 v7 v8 v9).eval v13 = X.c (C.a (A.t (T.sl v41 v16 v42))) := by exact rfl) (h4 : (S.mk v5 v7 v8 v9).eval v20 = iX v31 v28 := by exact rfl) (h5 : 0 ≤ v28 := by omega) (h7 : v2.guard = some (v10, v14) := by exact rfl) (h8 : (v1[v10]?.bind fun x ↦ x.dst) = some v15 := by exact rfl) (h9 : v7 v15 = tv (Value.bool v14) := by exact rfl) (h10 : v2.dst = some v6 := by exact rfl) (h11 : v6.blt v5 = true := by exact rfl) : SeqK v0 v1 v3 (v2 :: v4) (S.mk v5 v7 v8 v9) := SeqK.on (q_index _ h1 a2 h3 h4 h5 a6) h7 h8 h9 h10 h11 k12
theorem Z16 {r : List A} (a4 : zeroIs v0 v12 v33) (k10 : SeqK v0 v1 v3 v4 (S.mk v6 (upd v7 v5 (X.lp v5 0)) (upd v8 v5 (some (AO.box r))) v9)) (h2 : v2.op = Op.alloc v12 := by exact rfl) (h3 : v2.dst = some v5 := by exact rfl) (h5 : v33.cells.toList.all Value.oneCell' = true := by exact rfl) (h6 : List.map litA v33.cells.toList = r := by exact rfl) (h7 : v8 v5 = none := by exact rfl) (h8 : v5.blt v6 = true := by exact rfl) (h9 : v2.guard = none := by exact rfl) : SeqK v0 v1 v3 (v2 :: v4) (S.mk v6 v7 v8 v9) := SeqK.r (b_alloc (r := r) h2 h3 a4 h5 h6 h7 h8) h9 k10
theorem Z17 {v11' : Decidable v43} (a6 : v43 → SeqK v0 v1 v3 v4 (S.mk v5 (upd v7 v6 (bX true)) v8 v9)) (a7 : ¬v43 → SeqK v0 v1 v3 v4 (S.mk v5 (upd v7 v6 (bX false)) v8 v9)) (h1 : v2.op = Op.move v13 := by exact rfl) (h2 : (S.mk v5 v7 v8 v9).eval v13 = X.c (C.a (A.t (T.v (Value.bool (decide v43))))) := by exact rfl) (h3 : v2.guard = none := by exact rfl) (h4 : v2.dst = some v6 := by exact rfl) (h5 : v6.blt v5 = true := by exact rfl) : SeqK v0 v1 v3 (v2 :: v4) (S.mk v5 v7 v8 v9) := SeqK.qD (q_mvC h1 h2) h3 h4 h5 a6 a7
theorem Z18 (a2 : tyB v0 v12 v14 v16 = true) (k10 : LexK v0 v1 v3 v4 (S.mk v10 (upd v7 v15 (X.c (C.a v11))) v8 v9) v5 (v44 ++ [(Loc.b v6 :: lk v2, dstT v2)])) (h1 : v2.op = Op.load v12 v13 := by exact rfl) (h3 : (S.mk v10 v7 v8 v9).eval v13 = X.lp v6 v18 := by exact rfl) (h4 : v8 v6 = some (AO.box v17) := by exact rfl) (h5 : mkC v14 (List.take v16 (List.drop v18 v17)) = C.a v11 := by exact rfl) (h6 : (v18 + v16).ble v17.length = true := by exact rfl) (h7 : v2.dst = some v15 := by exact rfl) (h8 : v15.blt v10 = true := by exact rfl) (h9 : v2.guard = none := by exact rfl) : LexK v0 v1 v3 (v2 :: v4) (S.mk v10 v7 v8 v9) v5 v44 := LexK.r (b_load (r := .a _) h1 a2 h3 h4 h5 h6 h7 h8) h9 k10
theorem Z19 (a1 : C) (a3 : tyB v0 v12 v22 v16 = true) (k12 : SeqK v0 v1 v3 v4 (S.mk v5 (upd v7 v6 (X.c a1)) v8 v9)) (h2 : v2.op = Op.load v12 v13 := by exact rfl) (h4 : (S.mk v5 v7 v8 v9).eval v13 = X.pc v40 := by exact rfl) (h5 : mkC v22 (List.map A.t (List.take v16 v40)) = a1 := by exact rfl) (h6 : v16.ble v40.length = true := by exact rfl) (h7 : v2.guard = some (v10, v14) := by exact rfl) (h8 : (v1[v10]?.bind fun x ↦ x.dst) = some v15 := by exact rfl) (h9 : v7 v15 = tv (Value.bool v14) := by exact rfl) (h10 : v2.dst = some v6 := by exact rfl) (h11 : v6.blt v5 = true := by exact rfl) : SeqK v0 v1 v3 (v2 :: v4) (S.mk v5 v7 v8 v9) := SeqK.on (q_load a1 h2 a3 h4 h5 h6) h7 h8 h9 h10 h11 k12
theorem Z20 {r : List A} (k9 : SeqK v0 v1 v3 v4 (S.mk v6 (upd v7 v5 (X.lp v5 0)) (upd v8 v5 (some (AO.box r))) v9)) (h2 : v2.op = Op.box v12 v13 := by exact rfl) (h3 : v2.dst = some v5 := by exact rfl) (h4 : (S.mk v6 v7 v8 v9).eval v13 = X.c v21 := by exact rfl) (h5 : v21.cells = r := by exact rfl) (h6 : v8 v5 = none := by exact rfl) (h7 : v5.blt v6 = true := by exact rfl) (h8 : v2.guard = none := by exact rfl) : SeqK v0 v1 v3 (v2 :: v4) (S.mk v6 v7 v8 v9) := SeqK.r (b_box (r := r) h2 h3 h4 h5 h6 h7) h8 k9
theorem Z21 (k9 : SeqK v0 v1 v3 v4 (S.mk v5 (upd v7 v6 (bX (decide (v28 = v29)))) v8 v9)) (h1 : v2.op = Op.binOp BinOp.eql v12 v13 v20 v30 := by exact rfl) (h2 : (S.mk v5 v7 v8 v9).eval v13 = iX v31 v28 := by exact rfl) (h3 : (S.mk v5 v7 v8 v9).eval v20 = iX v31 v29 := by exact rfl) (h4 : v2.guard = some (v10, v14) := by exact rfl) (h5 : (v1[v10]?.bind fun x ↦ x.dst) = some v15 := by exact rfl) (h6 : v7 v15 = tv (Value.bool v14) := by exact rfl) (h7 : v2.dst = some v6 := by exact rfl) (h8 : v6.blt v5 = true := by exact rfl) : SeqK v0 v1 v3 (v2 :: v4) (S.mk v5 v7 v8 v9) := SeqK.on (q_eql h1 h2 h3) h4 h5 h6 h7 h8 k9
theorem Z22 (a2 : v0.underlying v12 = some (TypeDesc.slice v30)) (k7 : SeqK v0 v1 v3 v4 (S.mk v5 (upd v7 v6 (iX IntKind.i64 ↑v42.length)) v8 v9)) (h1 : v2.op = Op.call { callee := Callee.builtin Builtin.len, args := #[v13], argTypes := #[v12] } := by exact rfl) (h3 : (S.mk v5 v7 v8 v9).eval v13 = X.c (C.a (A.t (T.sl v41 v10 v42))) := by exact rfl) (h4 : v2.guard = none := by exact rfl) (h5 : v2.dst = some v6 := by exact rfl) (h6 : v6.blt v5 = true := by exact rfl) : SeqK v0 v1 v3 (v2 :: v4) (S.mk v5 v7 v8 v9) := SeqK.q (q_len h1 a2 h3) h4 h5 h6 k7
theorem Z23 (a2 : fldB v0 v12 v18 v19 = true) (k8 : LexK v0 v1 v3 v4 (S.mk v6 (upd v7 v10 (X.lp v15 v16)) v8 v9) v5 (v44 ++ [(lookT v1 v2, dstT v2)])) (h1 : v2.op = Op.fieldAddr v12 v13 v18 := by exact rfl) (h3 : (S.mk v6 v7 v8 v9).eval v13 = X.lp v15 v24 := by exact rfl) (h4 : v24 + v19 = v16 := by exact rfl) (h5 : v2.guard = none := by exact rfl) (h6 : v2.dst = some v10 := by exact rfl) (h7 : v10.blt v6 = true := by exact rfl) : LexK v0 v1 v3 (v2 :: v4) (S.mk v6 v7 v8 v9) v5 v44 := LexK.q (q_fieldL _ h1 a2 h3 h4) h5 h6 h7 k8
theorem Z24 (a2 : slB v0 v12 v30 v10 = true) (a6 : v42[v28.toNat]? = some v40) (k10 : SeqK v0 v1 v3 v4 (S.mk v5 (upd v7 v6 (X.pc v40)) v8 v9)) (h1 : v2.op = Op.indexAddr v12 v13 v20 := by exact rfl) (h3 : (S.mk v5 v7 v8 v9).eval v13 = X.c (C.a (A.t (T.sl v41 v10 v42))) := by exact rfl) (h4 : (S.mk v5 v7 v8 v9).eval v20 = iX v31 v28 := by exact rfl) (h5 : 0 ≤ v28 := by omega) (h7 : v2.guard = none := by exact rfl) (h8 : v2.dst = some v6 := by exact rfl) (h9 : v6.blt v5 = true := by exact rfl) : SeqK v0 v1 v3 (v2 :: v4) (S.mk v5 v7 v8 v9) := SeqK.q (q_index _ h1 a2 h3 h4 h5 a6) h7 h8 h9 k10
theorem Z25 {r : C} (a3 : tyB v0 v12 v22 v18 = true) (k13 : SeqK v0 v1 v3 v4 (S.mk v6 (upd v7 v10 (X.c r)) v8 v9)) (h2 : v2.op = Op.load v12 v13 := by exact rfl) (h4 : (S.mk v6 v7 v8 v9).eval v13 = X.lp v5 v19 := by exact rfl) (h5 : v8 v5 = some (AO.box v17) := by exact rfl) (h6 : mkC v22 (List.take v18 (List.drop v19 v17)) = r := by exact rfl) (h7 : (v19 + v18).ble v17.length = true := by exact rfl) (h8 : v2.dst = some v10 := by exact rfl) (h9 : v10.blt v6 = true := by exact rfl) (h10 : v2.guard = some (v15, v14) := by exact rfl) (h11 : (v1[v15]?.bind fun x ↦ x.dst) = some v16 := by exact rfl) (h12 : v7 v16 = tv (Value.bool v14) := by exact rfl) : SeqK v0 v1 v3 (v2 :: v4) (S.mk v6 v7 v8 v9) := SeqK.rOn (b_load (r := r) h2 a3 h4 h5 h6 h7 h8 h9) h10 h11 h12 k13
theorem Z26 (k7 : SeqK v0 v1 v3 v4 (S.mk v5 (upd v7 v6 (bX (decide (v28 ≠ v29)))) v8 v9)) (h1 : v2.op = Op.binOp BinOp.neq v12 v13 v20 v30 := by exact rfl) (h2 : (S.mk v5 v7 v8 v9).eval v13 = iX v31 v28 := by exact rfl) (h3 : (S.mk v5 v7 v8 v9).eval v20 = iX v31 v29 := by exact rfl) (h4 : v2.guard = none := by exact rfl) (h5 : v2.dst = some v6 := by exact rfl) (h6 : v6.blt v5 = true := by exact rfl) : SeqK v0 v1 v3 (v2 :: v4) (S.mk v5 v7 v8 v9) := SeqK.q (q_neq h1 h2 h3) h4 h5 h6 k7
theorem Z27 (a2 : elB v0 v12 v30 v10 v16 = true) (k9 : SeqK v0 v1 v3 v4 (S.mk v5 (upd v7 v6 (X.c (C.a (A.t (T.sl Nz.nn v10 v42))))) v8 v9)) (h1 : v2.op = Op.buildSlice v12 v15 v32 := by exact rfl) (h3 : v32.size = v15 := by exact rfl) (h4 : v15 * v10 ≤ 16777216 := by decide) (h5 : elemsX (S.mk v5 v7 v8 v9) v10 0 v32.toList = some v42 := by exact rfl) (h6 : v2.guard = none := by exact rfl) (h7 : v2.dst = some v6 := by exact rfl) (h8 : v6.blt v5 = true := by exact rfl) : SeqK v0 v1 v3 (v2 :: v4) (S.mk v5 v7 v8 v9) := SeqK.q (q_buildSlice _ h1 a2 h3 h4 h5) h6 h7 h8 k9
theorem Z28 (a1 : C) (a3 : tyB v0 v12 v14 v10 = true) (k10 : SeqK v0 v1 v3 v4 (S.mk v5 (upd v7 v6 (X.c a1)) v8 v9)) (h2 : v2.op = Op.load v12 v13 := by exact rfl) (h4 : (S.mk v5 v7 v8 v9).eval v13 = X.pc v40 := by exact rfl) (h5 : mkC v14 (List.map A.t (List.take v10 v40)) = a1 := by exact rfl) (h6 : v10.ble v40.length = true := by exact rfl) (h7 : v2.guard = none := by exact rfl) (h8 : v2.dst = some v6 := by exact rfl) (h9 : v6.blt v5 = true := by exact rfl) : SeqK v0 v1 v3 (v2 :: v4) (S.mk v5 v7 v8 v9) := SeqK.q (q_load a1 h2 a3 h4 h5 h6) h7 h8 h9 k10
theorem Z29 (a2 : slB v0 v12 v30 v15 = true) (a6 : v42[v28.toNat]? = some v40) (k10 : LexK v0 v1 v3 v4 (S.mk v6 (upd v7 v10 (X.pc v40)) v8 v9) v5 (v44 ++ [(lookT v1 v2, dstT v2)])) (h1 : v2.op = Op.indexAddr v12 v13 v20 := by exact rfl) (h3 : (S.mk v6 v7 v8 v9).eval v13 = X.c (C.a (A.t (T.sl v41 v15 v42))) := by exact rfl) (h4 : (S.mk v6 v7 v8 v9).eval v20 = iX v31 v28 := by exact rfl) (h5 : 0 ≤ v28 := by omega) (h7 : v2.guard = none := by exact rfl) (h8 : v2.dst = some v10 := by exact rfl) (h9 : v10.blt v6 = true := by exact rfl) : LexK v0 v1 v3 (v2 :: v4) (S.mk v6 v7 v8 v9) v5 v44 := LexK.q (q_index _ h1 a2 h3 h4 h5 a6) h7 h8 h9 k10
theorem Z30 (k7 : SeqK v0 v1 v3 v4 (S.mk v5 (upd v7 v6 (bX (decide (v28 < v29)))) v8 v9)) (h1 : v2.op = Op.binOp BinOp.lss v12 v13 v20 v30 := by exact rfl) (h2 : (S.mk v5 v7 v8 v9).eval v13 = iX v31 v28 := by exact rfl) (h3 : (S.mk v5 v7 v8 v9).eval v20 = iX v31 v29 := by exact rfl) (h4 : v2.guard = none := by exact rfl) (h5 : v2.dst = some v6 := by exact rfl) (h6 : v6.blt v5 = true := by exact rfl) : SeqK v0 v1 v3 (v2 :: v4) (S.mk v5 v7 v8 v9) := SeqK.q (q_lss h1 h2 h3) h4 h5 h6 k7
theorem Z31 (a2 : fldB v0 v12 v16 v18 = true) (k10 : SeqK v0 v1 v3 v4 (S.mk v5 (upd v7 v6 (X.pc v40)) v8 v9)) (h1 : v2.op = Op.fieldAddr v12 v13 v16 := by exact rfl) (h3 : (S.mk v5 v7 v8 v9).eval v13 = X.pc v45 := by exact rfl) (h4 : List.drop v18 v45 = v40 := by exact rfl) (h5 : v2.guard = some (v10, v14) := by exact rfl) (h6 : (v1[v10]?.bind fun x ↦ x.dst) = some v15 := by exact rfl) (h7 : v7 v15 = tv (Value.bool v14) := by exact rfl) (h8 : v2.dst = some v6 := by exact rfl) (h9 : v6.blt v5 = true := by exact rfl) : SeqK v0 v1 v3 (v2 :: v4) (S.mk v5 v7 v8 v9) := SeqK.on (q_fieldP _ h1 a2 h3 h4) h5 h6 h7 h8 h9 k10
theorem Z32 (a1 : C) (a3 : tyB v0 v12 v14 v15 = true) (k10 : LexK v0 v1 v3 v4 (S.mk v6 (upd v7 v10 (X.c a1)) v8 v9) v5 (v44 ++ [(lookT v1 v2, dstT v2)])) (h2 : v2.op = Op.load v12 v13 := by exact rfl) (h4 : (S.mk v6 v7 v8 v9).eval v13 = X.pc v40 := by exact rfl) (h5 : mkC v14 (List.map A.t (List.take v15 v40)) = a1 := by exact rfl) (h6 : v15.ble v40.length = true := by exact rfl) (h7 : v2.guard = none := by exact rfl) (h8 : v2.dst = some v10 := by exact rfl) (h9 : v10.blt v6 = true := by exact rfl) : LexK v0 v1 v3 (v2 :: v4) (S.mk v6 v7 v8 v9) v5 v44 := LexK.q (q_load a1 h2 a3 h4 h5 h6) h7 h8 h9 k10
theorem Z33 (k9 : SeqK v0 v1 v3 v4 (S.mk v5 (upd v7 v6 (X.c v21)) v8 v9)) (h1 : v2.op = Op.pick v13 v20 v23 := by exact rfl) (h2 : (S.mk v5 v7 v8 v9).eval v13 = bX true := by exact rfl) (h3 : (S.mk v5 v7 v8 v9).eval v20 = X.c v21 := by exact rfl) (h4 : v2.guard = some (v10, v14) := by exact rfl) (h5 : (v1[v10]?.bind fun x ↦ x.dst) = some v15 := by exact rfl) (h6 : v7 v15 = tv (Value.bool v14) := by exact rfl) (h7 : v2.dst = some v6 := by exact rfl) (h8 : v6.blt v5 = true := by exact rfl) : SeqK v0 v1 v3 (v2 :: v4) (S.mk v5 v7 v8 v9) := SeqK.on (q_pkT h1 h2 h3) h4 h5 h6 h7 h8 k9
theorem Z34 (k7 : SeqK v0 v1 v3 v4 (S.mk v5 (upd v7 v6 (X.tup [])) v8 v9)) (h1 : v2.guard = some (v10, v14) := by exact rfl) (h2 : (v1[v10]?.bind fun x ↦ x.dst) = some v15 := by exact rfl) (h3 : v7 v15 = tv (Value.bool v22) := by exact rfl) (h4 : (v22 == v14) = false := by exact rfl) (h5 : v2.dst = some v6 := by exact rfl) (h6 : v6.blt v5 = true := by exact rfl) : SeqK v0 v1 v3 (v2 :: v4) (S.mk v5 v7 v8 v9) := SeqK.off h1 h2 h3 h4 h5 h6 k7
theorem Z35 (a2 : fnB v0 v36 = true) (a4 : Pure v0 v36 v26 v35) (k11 : SeqK v0 v1 v3 v4 (S.mk v5 (upd v7 v6 v35) v8 v9)) (h1 : v2.op = Op.call { callee := Callee.value (Operand.func v36), args := v37, argTypes := v38 } := by exact rfl) (h3 : argsX (S.mk v5 v7 v8 v9) v37.toList = some v26 := by exact rfl) (h5 : v35.loc = none := by exact rfl) (h6 : v2.guard = some (v10, v14) := by exact rfl) (h7 : (v1[v10]?.bind fun x ↦ x.dst) = some v15 := by exact rfl) (h8 : v7 v15 = tv (Value.bool v14) := by exact rfl) (h9 : v2.dst = some v6 := by exact rfl) (h10 : v6.blt v5 = true := by exact rfl) : SeqK v0 v1 v3 (v2 :: v4) (S.mk v5 v7 v8 v9) := SeqK.on (q_call _ h1 a2 h3 a4 h5) h6 h7 h8 h9 h10 k11
theorem Z36 (a6 : v14 = true → SeqK v0 v1 v3 v4 (S.mk v5 (upd v7 v6 (bX true)) v8 v9)) (a7 : v14 = false → SeqK v0 v1 v3 v4 (S.mk v5 (upd v7 v6 (bX false)) v8 v9)) (h1 : v2.op = Op.move v13 := by exact rfl) (h2 : (S.mk v5 v7 v8 v9).eval v13 = X.c (C.a (A.t (T.v (Value.bool v14)))) := by exact rfl) (h3 : v2.guard = none := by exact rfl) (h4 : v2.dst = some v6 := by exact rfl) (h5 : v6.blt v5 = true := by exact rfl) : SeqK v0 v1 v3 (v2 :: v4) (S.mk v5 v7 v8 v9) := SeqK.qB (q_mvC h1 h2) h3 h4 h5 a6 a7
theorem Z37 (k9 : SeqK v0 v1 v3 v4 (S.mk v5 (upd v7 v6 (X.c v21)) v8 v9)) (h1 : v2.op = Op.pick v13 v20 v23 := by exact rfl) (h2 : (S.mk v5 v7 v8 v9).eval v13 = bX false := by exact rfl) (h3 : (S.mk v5 v7 v8 v9).eval v23 = X.c v21 := by exact rfl) (h4 : v2.guard = some (v10, v14) := by exact rfl) (h5 : (v1[v10]?.bind fun x ↦ x.dst) = some v15 := by exact rfl) (h6 : v7 v15 = tv (Value.bool v14) := by exact rfl) (h7 : v2.dst = some v6 := by exact rfl) (h8 : v6.blt v5 = true := by exact rfl) : SeqK v0 v1 v3 (v2 :: v4) (S.mk v5 v7 v8 v9) := SeqK.on (q_pkF h1 h2 h3) h4 h5 h6 h7 h8 k9
theorem Z38 (a2 : tyB v0 v12 v14 v10 = true) (k10 : SeqK v0 v1 v3 v4 (S.mk v5 (upd v7 v6 (X.c (C.a v11))) v8 v9)) (h1 : v2.op = Op.load v12 v13 := by exact rfl) (h3 : (S.mk v5 v7 v8 v9).eval v13 = X.c (C.a (A.bp v15 v16)) := by exact rfl) (h4 : v9 v15 = some (AO.box v17) := by (repeat rw [upd_ne _ _ (by first | assumption | exact Ne.symm (by assumption))]); first | assumption | exact upd_same _ _ _) (h5 : mkC v14 (List.take v10 (List.drop v16 v17)) = C.a v11 := by exact rfl) (h6 : (v16 + v10).ble v17.length = true := by exact rfl) (h7 : v2.dst = some v6 := by exact rfl) (h8 : v6.blt v5 = true := by exact rfl) (h9 : v2.guard = none := by exact rfl) : SeqK v0 v1 v3 (v2 :: v4) (S.mk v5 v7 v8 v9) := SeqK.r (g_load (r := .a _) h1 a2 h3 h4 h5 h6 h7 h8) h9 k10
theorem Z39 (k6 : SeqK v0 v1 v3 v4 (S.mk v5 (upd v7 v6 (X.tup v26)) v8 v9)) (h1 : v2.op = Op.move v13 := by exact rfl) (h2 : (S.mk v5 v7 v8 v9).eval v13 = X.tup v26 := by exact rfl) (h3 : v2.guard = none := by exact rfl) (h4 : v2.dst = some v6 := by exact rfl) (h5 : v6.blt v5 = true := by exact rfl) : SeqK v0 v1 v3 (v2 :: v4) (S.mk v5 v7 v8 v9) := SeqK.q (q_mvT h1 h2) h3 h4 h5 k6
theorem Z40 {r : List A} (a4 : tyB v0 v12 v14 v15 = true) (k12 : LexK v0 v1 v3 v4 (S.mk v10 v7 (upd v8 v6 (some (AO.box r))) v9) v5 (v44 ++ [(Loc.b v6 :: lk v2, [Loc.b v6])])) (h2 : v2.op = Op.store v12 v13 v20 := by exact rfl) (h3 : v2.dst = none := by exact rfl) (h5 : (S.mk v10 v7 v8 v9).eval v13 = X.lp v6 v16 := by exact rfl) (h6 : (S.mk v10 v7 v8 v9).eval v20 = X.c v21 := by exact rfl) (h7 : v8 v6 = some (AO.box v17) := by exact rfl) (h8 : splice v17 v16 v21.cells = r := by exact rfl) (h9 : v21.cells.length = v15 := by exact rfl) (h10 : (v16 + v15).ble v17.length = true := by exact rfl) (h11 : v2.guard = none := by exact rfl) : LexK v0 v1 v3 (v2 :: v4) (S.mk v10 v7 v8 v9) v5 v44 := LexK.r (b_store (r := r) h2 h3 a4 h5 h6 h7 h8 h9 h10) h11 k12
theorem Z41 (k8 : SeqK v0 v1 v3 v4 (S.mk v5 (upd v7 v6 (bX !v14)) v8 v9)) (h1 : v2.op = Op.unOp UnOp.not v12 v13 := by exact rfl) (h2 : (S.mk v5 v7 v8 v9).eval v13 = bX v14 := by exact rfl) (h3 : v2.guard = some (v10, v22) := by exact rfl) (h4 : (v1[v10]?.bind fun x ↦ x.dst) = some v15 := by exact rfl) (h5 : v7 v15 = tv (Value.bool v22) := by exact rfl) (h6 : v2.dst = some v6 := by exact rfl) (h7 : v6.blt v5 = true := by exact rfl) : SeqK v0 v1 v3 (v2 :: v4) (S.mk v5 v7 v8 v9) := SeqK.on (q_not h1 h2) h3 h4 h5 h6 h7 k8
theorem Z42 (k9 : SeqK v0 v1 v3 v4 (S.mk v5 (upd v7 v6 (bX (decide (v28 ≠ v29)))) v8 v9)) (h1 : v2.op = Op.binOp BinOp.neq v12 v13 v20 v30 := by exact rfl) (h2 : (S.mk v5 v7 v8 v9).eval v13 = iX v31 v28 := by exact rfl) (h3 : (S.mk v5 v7 v8 v9).eval v20 = iX v31 v29 := by exact rfl) (h4 : v2.guard = some (v10, v14) := by exact rfl) (h5 : (v1[v10]?.bind fun x ↦ x.dst) = some v15 := by exact rfl) (h6 : v7 v15 = tv (Value.bool v14) := by exact rfl) (h7 : v2.dst = some v6 := by exact rfl) (h8 : v6.blt v5 = true := by exact rfl) : SeqK v0 v1 v3 (v2 :: v4) (S.mk v5 v7 v8 v9) := SeqK.on (q_neq h1 h2 h3) h4 h5 h6 h7 h8 k9
theorem Z43 (k7 : SeqK v0 v1 v3 v4 (S.mk v5 (upd v7 v6 (bX (decide (v28 < v29)))) v8 v9)) (h1 : v2.op = Op.binOp BinOp.gtr v12 v13 v20 v30 := by exact rfl) (h2 : (S.mk v5 v7 v8 v9).eval v13 = iX v31 v29 := by exact rfl) (h3 : (S.mk v5 v7 v8 v9).eval v20 = iX v31 v28 := by exact rfl) (h4 : v2.guard = none := by exact rfl) (h5 : v2.dst = some v6 := by exact rfl) (h6 : v6.blt v5 = true := by exact rfl) : SeqK v0 v1 v3 (v2 :: v4) (S.mk v5 v7 v8 v9) := SeqK.q (q_gtr h1 h2 h3) h4 h5 h6 k7
theorem Z44 (k6 : LexK v0 v1 v3 v4 (S.mk v6 (upd v7 v10 (X.c v21)) v8 v9) v5 (v44 ++ [(lookT v1 v2, dstT v2)])) (h1 : v2.op = Op.move v13 := by exact rfl) (h2 : (S.mk v6 v7 v8 v9).eval v13 = X.c v21 := by exact rfl) (h3 : v2.guard = none := by exact rfl) (h4 : v2.dst = some v10 := by exact rfl) (h5 : v10.blt v6 = true := by exact rfl) : LexK v0 v1 v3 (v2 :: v4) (S.mk v6 v7 v8 v9) v5 v44 := LexK.q (q_mvC h1 h2) h3 h4 h5 k6
theorem Z45 (a2 : fnB v0 v36 = true) (a4 : Pure v0 v36 v26 v35) (k9 : LexK v0 v1 v3 v4 (S.mk v6 (upd v7 v10 v35) v8 v9) v5 (v44 ++ [(lookT v1 v2, dstT v2)])) (h1 : v2.op = Op.call { callee := Callee.value (Operand.func v36), args := v37, argTypes := v38 } := by exact rfl) (h3 : argsX (S.mk v6 v7 v8 v9) v37.toList = some v26 := by exact rfl) (h5 : v35.loc = none := by exact rfl) (h6 : v2.guard = none := by exact rfl) (h7 : v2.dst = some v10 := by exact rfl) (h8 : v10.blt v6 = true := by exact rfl) : LexK v0 v1 v3 (v2 :: v4) (S.mk v6 v7 v8 v9) v5 v44 := LexK.q (q_call _ h1 a2 h3 a4 h5) h6 h7 h8 k9
theorem Z46 {v14' : Decidable v43} (a8 : v43 → SeqK v0 v1 v3 v4 (S.mk v5 (upd v7 v6 (bX true)) v8 v9)) (a9 : ¬v43 → SeqK v0 v1 v3 v4 (S.mk v5 (upd v7 v6 (bX false)) v8 v9)) (h1 : v2.op = Op.move v13 := by exact rfl) (h2 : (S.mk v5 v7 v8 v9).eval v13 = X.c (C.a (A.t (T.v (Value.bool (decide v43))))) := by exact rfl) (h3 : v2.guard = some (v10, v14) := by exact rfl) (h4 : (v1[v10]?.bind fun x ↦ x.dst) = some v15 := by exact rfl) (h5 : v7 v15 = tv (Value.bool v14) := by exact rfl) (h6 : v2.dst = some v6 := by exact rfl) (h7 : v6.blt v5 = true := by exact rfl) : SeqK v0 v1 v3 (v2 :: v4) (S.mk v5 v7 v8 v9) := SeqK.onD (q_mvC h1 h2) h3 h4 h5 h6 h7 a8 a9
theorem Z47 (a1 : Nat) (a3 : XW v35 v46) (k4 : SeqK v0 v1 v3 (v2 :: v4) (S.mk v5 (upd v7 a1 v46) v8 v9)) (h2 : v7 a1 = v35 := by exact rfl) : SeqK v0 v1 v3 (v2 :: v4) (S.mk v5 v7 v8 v9) := SeqK.xw a1 h2 a3 k4
theorem Z48 (k2 : v3 v27) (h1 : okFp v1 v5 v44 = true := by kernel_rfl) : LexK v0 v1 v3 [] v27 v5 v44 := LexK.nil h1 k2
theorem Z49 (k6 : SeqK v0 v1 v3 v4 (S.mk v5 (upd v7 v6 (bX !v14)) v8 v9)) (h1 : v2.op = Op.unOp UnOp.not v12 v13 := by exact rfl) (h2 : (S.mk v5 v7 v8 v9).eval v13 = bX v14 := by exact rfl) (h3 : v2.guard = none := by exact rfl) (h4 : v2.dst = some v6 := by exact rfl) (h5 : v6.blt v5 = true := by exact rfl) : SeqK v0 v1 v3 (v2 :: v4) (S.mk v5 v7 v8 v9) := SeqK.q (q_not h1 h2) h3 h4 h5 k6
theorem Z50 (a2 : v0.underlying v12 = some (TypeDesc.slice v30)) (k9 : SeqK v0 v1 v3 v4 (S.mk v5 (upd v7 v6 (iX IntKind.i64 ↑v42.length)) v8 v9)) (h1 : v2.op = Op.call { callee := Callee.builtin Builtin.len, args := #[v13], argTypes := #[v12] } := by exact rfl) (h3 : (S.mk v5 v7 v8 v9).eval v13 = X.c (C.a (A.t (T.sl v41 v16 v42))) := by exact rfl) (h4 : v2.guard = some (v10, v14) := by exact rfl) (h5 : (v1[v10]?.bind fun x ↦ x.dst) = some v15 := by exact rfl) (h6 : v7 v15 = tv (Value.bool v14) := by exact rfl) (h7 : v2.dst = some v6 := by exact rfl) (h8 : v6.blt v5 = true := by exact rfl) : SeqK v0 v1 v3 (v2 :: v4) (S.mk v5 v7 v8 v9) := SeqK.on (q_len h1 a2 h3) h4 h5 h6 h7 h8 k9
theorem Z51 (a2 : tyB v0 v12 v22 v19 = true) (k12 : LexK v0 v1 v3 v4 (S.mk v10 (upd v7 v15 (X.c (C.a v11))) v8 v9) v5 (v44 ++ [(Loc.t v18 :: Loc.b v6 :: lk v2, dstT v2)])) (h1 : v2.op = Op.load v12 v13 := by exact rfl) (h3 : (S.mk v10 v7 v8 v9).eval v13 = X.lp v6 v24 := by exact rfl) (h4 : v8 v6 = some (AO.box v17) := by exact rfl) (h5 : mkC v22 (List.take v19 (List.drop v24 v17)) = C.a v11 := by exact rfl) (h6 : (v24 + v19).ble v17.length = true := by exact rfl) (h7 : v2.dst = some v15 := by exact rfl) (h8 : v15.blt v10 = true := by exact rfl) (h9 : v2.guard = some (v16, v14) := by exact rfl) (h10 : (v1[v16]?.bind fun x ↦ x.dst) = some v18 := by exact rfl) (h11 : v7 v18 = tv (Value.bool v14) := by exact rfl) : LexK v0 v1 v3 (v2 :: v4) (S.mk v10 v7 v8 v9) v5 v44 := LexK.rOn (b_load (r := .a _) h1 a2 h3 h4 h5 h6 h7 h8) h9 h10 h11 k12
theorem Z52 (k6 : LexK v0 v1 v3 v4 (S.mk v6 (upd v7 v10 (X.c v21)) v8 v9) v5 (v44 ++ [(lookT v1 v2, dstT v2)])) (h1 : v2.op = Op.assign v13 := by exact rfl) (h2 : (S.mk v6 v7 v8 v9).eval v13 = X.c v21 := by exact rfl) (h3 : v2.guard = none := by exact rfl) (h4 : v2.dst = some v10 := by exact rfl) (h5 : v10.blt v6 = true := by exact rfl) : LexK v0 v1 v3 (v2 :: v4) (S.mk v6 v7 v8 v9) v5 v44 := LexK.q (q_asC h1 h2) h3 h4 h5 k6
theorem Z53 (a2 : slB v0 v12 v30 v19 = true) (k11 : SeqK v0 v1 v3 v4 (S.mk v5 (upd v7 v6 (X.c (C.a (A.bp v10 v15)))) v8 v9)) (h1 : v2.op = Op.indexAddr v12 v13 v20 := by exact rfl) (h3 : (S.mk v5 v7 v8 v9).eval v13 = X.c (C.a (A.os v10 v16 v18 v19)) := by exact rfl) (h4 : (S.mk v5 v7 v8 v9).eval v20 = iX v31 v28 := by exact rfl) (h5 : 0 ≤ v28 := by omega) (h6 : v28.toNat < v18 := by omega) (h7 : v16 + v28.toNat * v19 = v15 := by exact rfl) (h8 : v2.guard = none := by exact rfl) (h9 : v2.dst = some v6 := by exact rfl) (h10 : v6.blt v5 = true := by exact rfl) : SeqK v0 v1 v3 (v2 :: v4) (S.mk v5 v7 v8 v9) := SeqK.q (q_indexOs _ h1 a2 h3 h4 h5 h6 h7) h8 h9 h10 k11
end
end Go.Proofs.YtnnoafgdjjpidaaGreatDoor.E
namespace Go.Proofs.YtnnoafgdjjpidaaGreatDoor.W
open Go.RowKit E M
abbrev iC (n : Int) : C := .a (.t (.v (.int .i64 n)))
abbrev u64C (n : Nat) : C := .a (.t (.v (.int .u64 (n : Int))))
abbrev bC (b : Bool) : C := .a (.t (.v (.bool b)))
abbrev sC (s : ByteArray) : C := .a (.t (.v (.string s)))
abbrev i64T (n : Int) : List E.T := [.v (.int .i64 n)]
abbrev iL (z : Nz) (l : List Int) : C := .a (.t (.sl z 1 (l.map i64T)))
theorem w64 {n : Int} (h : -9223372036854775808 ≤ n) (h' : n ≤ 9223372036854775807) : IntKind.i64.wrap n = n := IntWalk.i64_in n ⟨h, h'⟩
theorem wu64 {n : Int} (h : 0 ≤ n) (h' : n < 18446744073709551616) : IntKind.u64.wrap n = n := by
  simp only [IntKind.wrap, IntKind.bits, IntKind.signed, Bool.false_and, Bool.false_eq_true, if_false]; omega
theorem wu64n {n : Int} (h : n < 0) (h' : -18446744073709551616 ≤ n) : IntKind.u64.wrap n = n + 18446744073709551616 := by
  simp only [IntKind.wrap, IntKind.bits, IntKind.signed, Bool.false_and, Bool.false_eq_true, if_false]; omega
abbrev R64 (n : Int) : Prop := -9223372036854775808 ≤ n ∧ n ≤ 9223372036854775807
mutual
def tmT : Tm → List E.T
  | .mk c ps => [.v (.int .i64 c), .sl .un 5 (ptsT ps)]
def ptsT : List Pt → List (List E.T)
  | [] => []
  | p :: r => ptT' p :: ptsT r
def ptT' : Pt → List E.T
  | .mk a k v b of => [.v (.int .i64 a), .v (.int .i64 k), .v (.int .i64 v), .v (.int .i64 b), .sl .un 2 (tmsT of)]
def tmsT : List Tm → List (List E.T)
  | [] => []
  | t :: r => tmT t :: tmsT r
end
theorem tmsT_map : ∀ l, tmsT l = l.map tmT
  | [] => rfl
  | t :: r => by rw [tmsT, tmsT_map r, List.map_cons]
abbrev ptT (p : Pt) : List E.T := [.v (.int .i64 p.coef), .v (.int .i64 p.kind), .v (.int .i64 p.var), .v (.int .i64 p.dv), .sl .un 2 (p.of.map tmT)]
theorem ptT_eq (p : Pt) : ptT' p = ptT p := by cases p; rw [ptT', tmsT_map]
theorem ptsT_map : ∀ l, ptsT l = l.map ptT
  | [] => rfl
  | p :: r => by rw [ptsT, ptsT_map r, ptT_eq, List.map_cons]
abbrev tmL (t : Tm) : List E.T := [.v (.int .i64 t.c), .sl .un 5 (t.ps.map ptT)]
theorem tmT_eq (t : Tm) : tmT t = tmL t := by cases t; rw [tmT, ptsT_map]
abbrev ptC (p : Pt) : C := .g [.t (.v (.int .i64 p.coef)), .t (.v (.int .i64 p.kind)), .t (.v (.int .i64 p.var)), .t (.v (.int .i64 p.dv)), .t (.sl .un 2 (p.of.map tmT))]
abbrev tmC (t : Tm) : C := .g [.t (.v (.int .i64 t.c)), .t (.sl .un 5 (t.ps.map ptT))]
theorem idx_map {α : Type} {f : α → List E.T} {l : List α} {i : Nat} (h : i < l.length) : (l.map f)[i]? = some (f l[i]) := by rw [List.getElem?_map, List.getElem?_eq_getElem h]; rfl
theorem idx_tm {l : List Tm} {i : Nat} (h : i < l.length) : (l.map tmT)[i]? = some (tmL l[i]) := by rw [List.getElem?_map, List.getElem?_eq_getElem h, Option.map_some, tmT_eq]
theorem tdiv_np {a b : Int} (ha : a ≤ 0) (hb : 0 ≤ b) : a.tdiv b ≤ 0 := by
  have := Int.tdiv_nonneg (a := -a) (b := b) (by omega) hb
  rw [Int.neg_tdiv] at this; omega
theorem tdiv_mul {a b : Int} (hb : 1 ≤ b) : (a.tdiv b * b).natAbs ≤ a.natAbs ∧ (a.tmod b < 0 ↔ a.tdiv b * b > a) ∧ (a < 0 → a.tdiv b * b ≤ 0) := by
  have h0 : a < 0 → a.tdiv b * b ≤ 0 := fun h => by
    have := Int.mul_le_mul_of_nonneg_right (tdiv_np (a := a) (b := b) (by omega) (by omega)) (show 0 ≤ b by omega)
    omega
  have h1 := Int.tdiv_mul_add_tmod a b
  have h2 : (a.tdiv b * b).natAbs = a.natAbs / b.natAbs * b.natAbs := by rw [Int.natAbs_mul, Int.natAbs_tdiv]; rfl
  have h3 := Nat.div_mul_le_self a.natAbs b.natAbs
  refine ⟨by omega, by omega, h0⟩
theorem tdiv_R {a b : Int} (hb : 1 ≤ b) (ha : R64 a) : -9223372036854775808 ≤ a.tdiv b ∧ a.tdiv b ≤ 9223372036854775807 ∧ (a.tdiv b * b > a → -9223372036854775808 < a.tdiv b) := by
  have h1 : (a.tdiv b).natAbs = a.natAbs / b.natAbs := Int.natAbs_tdiv _ _
  have h2 := Nat.div_le_self a.natAbs b.natAbs
  have h3 := (tdiv_mul (a := a) hb).1
  refine ⟨by omega, ?_, fun h => ?_⟩
  · by_cases h : a < 0
    · have := tdiv_np (a := a) (b := b) (by omega) (by omega); omega
    · omega
  · by_cases h4 : a < 0
    · by_cases h5 : b < 2
      · have : b = 1 := by omega
        subst this; simp at h
      · have : a.natAbs / b.natAbs < a.natAbs := Nat.div_lt_self (by omega) (by omega)
        omega
    · have := Int.tdiv_nonneg (a := a) (b := b) (by omega) (show 0 ≤ b by omega); omega
theorem tdiv_floor {a b : Int} (hb : 1 ≤ b) : (a.tdiv b * b > a → a.tdiv b - 1 = a / b) ∧ (¬ a.tdiv b * b > a → a.tdiv b = a / b) := by
  have h1 := Int.tdiv_mul_add_tmod a b
  have h2 := Int.ediv_mul_add_emod a b
  have h3 := Int.emod_nonneg a (show b ≠ 0 by omega)
  have h4 := Int.emod_lt_of_pos a (show 0 < b by omega)
  have h5 := Int.tmod_lt_of_pos a (show 0 < b by omega)
  have h6 : -b < a.tmod b := by
    have := Int.lt_tmod_of_pos a (show 0 < b by omega)
    omega
  refine ⟨fun h => ?_, fun h => ?_⟩
  · refine (Int.ediv_eq_iff_of_pos (show 0 < b by omega)).2 ⟨?_, ?_⟩ |>.symm <;> grind
  · refine (Int.ediv_eq_iff_of_pos (show 0 < b by omega)).2 ⟨?_, ?_⟩ |>.symm <;> grind
theorem abs_any (n : Int) (hn : R64 n) : Pure Tryz.prog 86 [iC n] (.c (u64C n.natAbs)) := by
 intro H
 refine Spec.enter Tryz.func86 rfl ?_
 refine AW.wk (Wk.keep 10 [(0, .c (iC n))] [] (H) rfl ⟨rfl, trivial⟩ trivial (fun _ _ h => h) rfl) ?_
 refine sR (sB ?_)
 refine AW.seq (sR (sM ?_))
 refine Z30 ?_
 refine Z7 ?_
 refine cD ?_ ?_ <;> intro h4
 ·
  refine sR (sM ?_)
  refine SeqK.q (q_conv _ rfl Fx.un130 rfl (wu64n h4 (by omega)) ⟨_, Fx.un2⟩) rfl rfl rfl ?_
  refine SeqK.q (q_neg _ rfl rfl ((by rw [wu64n (by omega) (by omega)]; omega : IntKind.u64.wrap _ = ((n.natAbs : Nat) : Int)))) rfl rfl rfl ?_
  refine sB ?_
  exact aR (fin_x (x := .c _) H (.tmp rfl .nil) rfl (fun _ _ h => h) ⟨rfl, rfl⟩)
 refine AW.skip (sR (sM ?_))
 refine SeqK.q (q_conv _ rfl Fx.un130 rfl ((by rw [wu64 (by omega) (by omega)]; omega : IntKind.u64.wrap _ = ((n.natAbs : Nat) : Int))) ⟨_, Fx.un2⟩) rfl rfl rfl ?_
 refine sB ?_
 exact aR (fin_x (x := .c _) H (.tmp rfl .nil) rfl (fun _ _ h => h) ⟨rfl, rfl⟩)
theorem rabs_any (n : Int) (hn : -9223372036854775808 < n ∧ n ≤ 9223372036854775807) : Pure Tryz.prog 177 [iC n] (.c (iC (n.natAbs : Int))) := by
 intro H
 refine Spec.enter Tryz.func177 rfl ?_
 refine AW.wk (Wk.keep 8 [(0, .c (iC n))] [] (H) rfl ⟨rfl, trivial⟩ trivial (fun _ _ h => h) rfl) ?_
 refine sR (sB ?_)
 refine AW.seq (sR (sM ?_))
 refine Z30 ?_
 refine Z7 ?_
 refine cD ?_ ?_ <;> intro h4
 ·
  refine sR (sM ?_)
  refine SeqK.q (q_neg _ rfl rfl ((by rw [w64 (by omega) (by omega)]; omega : IntKind.i64.wrap _ = ((n.natAbs : Nat) : Int)))) rfl rfl rfl ?_
  refine sB ?_
  exact aR (f1 (q := ⟨rfl, rfl⟩))
 refine AW.skip (sR (sM ?_))
 refine sB ?_
 refine AW.ret ?_
 have e : n = (n.natAbs : Int) := by omega
 exact f1 (q := ⟨by rw [← e], rfl⟩)
theorem within_any (n a b : Int) : Pure Tryz.prog 155 [iC n, iC a, iC b] (.c (bC (decide (a ≤ n ∧ n ≤ b)))) := by
 intro H
 refine Spec.enter Tryz.func155 rfl ?_
 refine AW.wk (Wk.keep 15 [(0, .c (iC n)), (1, .c (iC a)), (2, .c (iC b))] [] (H) rfl ⟨rfl, rfl, rfl, trivial⟩ trivial (fun _ _ h => h) rfl) ?_
 refine sR (sB ?_)
 refine sR (sM ?_)
 refine sM ?_
 refine SeqK.q (q_geq rfl rfl rfl) rfl rfl rfl ?_
 refine Z17 ?_ ?_ <;> intro g10
 ·
  refine Z14 ?_
  refine Z14 ?_
  refine SeqK.on (q_leq rfl rfl rfl) rfl rfl rfl rfl rfl ?_
  refine Z8 ?_
  refine sB ?_
  exact aR (f1 (q := ⟨by simp_all <;> omega, rfl⟩))
 iterate 3 refine oF ?_
 refine Z4 ?_
 refine sB ?_
 exact aR (f1 (q := ⟨by simp_all <;> omega, rfl⟩))
theorem rfloor_any (a b : Int) (hn : R64 a) (hb : 1 ≤ b) : Pure Tryz.prog 179 [iC a, iC b] (.c (iC (a / b))) := by
 intro H
 refine Spec.enter Tryz.func179 rfl ?_
 refine AW.wk (Wk.keep 17 [(0, .c (iC a)), (1, .c (iC b))] [] (H) rfl ⟨rfl, rfl, trivial⟩ trivial (fun _ _ h => h) rfl) ?_
 refine sR (sB ?_)
 refine AW.seq ?_
 have hb1 : (0:Int) < b := by omega
 have hq := tdiv_floor (a := a) hb
 have hm := tdiv_mul (a := a) hb
 have hd := tdiv_R (a := a) hb hn
 refine AW.reg (sM ?_)
 refine sM ?_
 refine SeqK.q (q_quo _ rfl rfl rfl (by omega) (w64 (by omega) (by omega))) rfl rfl rfl ?_
 refine sB ?_
 refine AW.seq (sR (sM ?_))
 refine sM ?_
 refine SeqK.q (q_mul _ rfl rfl rfl (w64 (by omega) (by omega))) rfl rfl rfl ?_
 refine sM ?_
 refine Z43 ?_
 refine Z7 ?_
 refine cD ?_ ?_ <;> intro h13
 ·
  refine AW.reg (sM ?_)
  refine SeqK.q (q_sub _ rfl rfl rfl (w64 (by omega) (by omega))) rfl rfl rfl ?_
  refine sB ?_
  refine sR (sM ?_)
  refine sB ?_
  exact aR (f1 (q := ⟨by rw [hq.1 h13], rfl⟩))
 refine AW.skip (sR (sM ?_))
 refine sB ?_
 exact aR (f1 (q := ⟨by rw [hq.2 h13], rfl⟩))
theorem floor_any (a b : Int) (hn : R64 a) (hb : 1 ≤ b) : Pure Tryz.prog 112 [iC a, iC b] (.c (iC (a / b))) := by
 intro H
 refine Spec.enter Tryz.func112 rfl ?_
 refine AW.wk (Wk.keep 16 [(0, .c (iC a)), (1, .c (iC b))] [] (H) rfl ⟨rfl, rfl, trivial⟩ trivial (fun _ _ h => h) rfl) ?_
 refine sR (sB ?_)
 refine AW.seq ?_
 have hb1 : (0:Int) < b := by omega
 have hq := tdiv_floor (a := a) hb
 have hm := tdiv_mul (a := a) hb
 have hd := tdiv_R (a := a) hb hn
 refine AW.reg (sM ?_)
 refine sM ?_
 refine SeqK.q (q_quo _ rfl rfl rfl (by omega) (w64 (by omega) (by omega))) rfl rfl rfl ?_
 refine sB ?_
 refine AW.seq (sR (sM ?_))
 refine sM ?_
 refine SeqK.q (q_rem rfl rfl rfl (by omega)) rfl rfl rfl ?_
 refine Z30 ?_
 refine Z7 ?_
 refine cD ?_ ?_ <;> intro h12
 ·
  refine AW.reg (sM ?_)
  refine SeqK.q (q_sub _ rfl rfl rfl (w64 (by omega) (by omega))) rfl rfl rfl ?_
  refine sB ?_
  refine sR (sM ?_)
  refine sB ?_
  exact aR (f1 (q := ⟨by rw [hq.1 (by omega)], rfl⟩))
 refine AW.skip (sR (sM ?_))
 refine sB ?_
 exact aR (f1 (q := ⟨by rw [hq.2 (by omega)], rfl⟩))
theorem ints_any (a b : Int) : Pure Tryz.prog 194 [iC a, iC b] (.c (iC (ints a b))) := by
 intro H
 refine Spec.enter Tryz.func194 rfl ?_
 refine AW.wk (Wk.keep 11 [(0, .c (iC a)), (1, .c (iC b))] [] (H) rfl ⟨rfl, rfl, trivial⟩ trivial (fun _ _ h => h) rfl) ?_
 refine sR (sB ?_)
 refine AW.seq (sR (sM ?_))
 refine sM ?_
 refine Z30 ?_
 refine Z7 ?_
 refine cD ?_ ?_ <;> intro h7
 ·
  refine sR (sB ?_)
  exact aR (f1 (q := ⟨by simp [ints, *], rfl⟩))
 refine AW.skip (AW.seq (sR (sM ?_)))
 refine sM ?_
 refine Z43 ?_
 refine Z7 ?_
 refine cD ?_ ?_ <;> intro h10
 ·
  refine sR (sB ?_)
  exact aR (f1 (q := ⟨by simp [ints, *], rfl⟩))
 refine AW.skip (sR (sB ?_))
 exact aR (f1 (q := ⟨by simp [ints, *], rfl⟩))
theorem nan2_any (a : Int) : Pure Tryz.prog 143 [iC a] (.c (bC false)) := by
 intro H
 refine Spec.enter Tryz.func143 rfl ?_
 refine AW.wk (Wk.keep 6 [(0, .c (iC a))] [] (H) rfl ⟨rfl, trivial⟩ trivial (fun _ _ h => h) rfl) ?_
 refine sR (sB ?_)
 refine sR (sM ?_)
 refine sM ?_
 refine Z26 ?_
 refine sB ?_
 exact aR (f1 (q := ⟨by simp, rfl⟩))
theorem nan3_any (a : Int) : Pure Tryz.prog 142 [iC a] (.c (bC false)) := by
 intro H
 refine Spec.enter Tryz.func142 rfl ?_
 refine AW.wk (Wk.keep 6 [(0, .c (iC a))] [] (H) rfl ⟨rfl, trivial⟩ trivial (fun _ _ h => h) rfl) ?_
 refine sR (sB ?_)
 refine sR (sM ?_)
 refine sM ?_
 refine Z26 ?_
 refine sB ?_
 exact aR (f1 (q := ⟨by simp, rfl⟩))
theorem cmp2_any (a b : Int) : Pure Tryz.prog 106 [iC a, iC b] (.c (iC (ints a b))) := by
 intro H
 refine Spec.enter Tryz.func106 rfl ?_
 refine AW.wk (Wk.keep 20 [(0, .c (iC a)), (1, .c (iC b))] [] (H) rfl ⟨rfl, rfl, trivial⟩ trivial (fun _ _ h => h) rfl) ?_
 refine sR (sB ?_)
 refine sR (sM ?_)
 refine Z12 Fx.fn143 (nan2_any _) ?_
 refine sB ?_
 refine sR (sM ?_)
 refine Z12 Fx.fn143 (nan2_any _) ?_
 refine sB ?_
 refine AW.seq (sR (sM ?_))
 refine Z7 (AW.condF rfl ?_)
 refine AW.skip (AW.seq (sR (sM ?_)))
 refine Z7 (AW.condF rfl ?_)
 refine AW.skip (AW.seq (sR (sM ?_)))
 refine sM ?_
 refine Z30 ?_
 refine Z7 ?_
 refine cD ?_ ?_ <;> intro h16
 ·
  refine sR (sB ?_)
  exact aR (f1 (q := ⟨by simp [ints, *], rfl⟩))
 refine AW.skip (AW.seq (sR (sM ?_)))
 refine sM ?_
 refine Z43 ?_
 refine Z7 ?_
 refine cD ?_ ?_ <;> intro h19
 ·
  refine sR (sB ?_)
  exact aR (f1 (q := ⟨by simp [ints, *], rfl⟩))
 refine AW.skip (sR (sB ?_))
 exact aR (f1 (q := ⟨by simp [ints, *], rfl⟩))
theorem cmp3_any (a b : Int) : Pure Tryz.prog 105 [iC a, iC b] (.c (iC (ints a b))) := by
 intro H
 refine Spec.enter Tryz.func105 rfl ?_
 refine AW.wk (Wk.keep 20 [(0, .c (iC a)), (1, .c (iC b))] [] (H) rfl ⟨rfl, rfl, trivial⟩ trivial (fun _ _ h => h) rfl) ?_
 refine sR (sB ?_)
 refine sR (sM ?_)
 refine Z12 Fx.fn142 (nan3_any _) ?_
 refine sB ?_
 refine sR (sM ?_)
 refine Z12 Fx.fn142 (nan3_any _) ?_
 refine sB ?_
 refine AW.seq (sR (sM ?_))
 refine Z7 (AW.condF rfl ?_)
 refine AW.skip (AW.seq (sR (sM ?_)))
 refine Z7 (AW.condF rfl ?_)
 refine AW.skip (AW.seq (sR (sM ?_)))
 refine sM ?_
 refine Z30 ?_
 refine Z7 ?_
 refine cD ?_ ?_ <;> intro h16
 ·
  refine sR (sB ?_)
  exact aR (f1 (q := ⟨by simp [ints, *], rfl⟩))
 refine AW.skip (AW.seq (sR (sM ?_)))
 refine sM ?_
 refine Z43 ?_
 refine Z7 ?_
 refine cD ?_ ?_ <;> intro h19
 ·
  refine sR (sB ?_)
  exact aR (f1 (q := ⟨by simp [ints, *], rfl⟩))
 refine AW.skip (sR (sB ?_))
 exact aR (f1 (q := ⟨by simp [ints, *], rfl⟩))
theorem take_zero_step {l : List Int} {i : Nat} (h : i < l.length) (h0 : ∀ x ∈ l.take i, x = 0) (hi : l[i] = 0) : ∀ x ∈ l.take (i + 1), x = 0 := by
  rw [List.take_succ_eq_append_getElem h]
  intro x hx
  rcases List.mem_append.1 hx with h1 | h1
  · exact h0 x h1
  · simp at h1; rw [h1]; exact hi
theorem or_any (l : List Int) (z : Nz) (hl : l.length ≤ 1000) : Pure Tryz.prog 104 [iL z l] (.c (iC (orI l))) := by
 intro H
 refine Spec.enter Tryz.func104 rfl ?_
 refine AW.wk (Wk.keep 18 [(0, .c (iL z l))] [] (H) rfl ⟨rfl, trivial⟩ trivial (fun _ _ h => h) rfl) ?_
 refine sR (sB ?_)
 refine sR (sB ?_)
 refine AW.seq (sR (sM ?_))
 refine Z22 Fx.un80 ?_
 refine sM ?_
 refine Z7 (AW.block ?_)
 refine AW.loop (fun (i : Nat) s => (i ≤ l.length ∧ ∀ x ∈ l.take i, x = 0) ∧ s = ⟨18, sp [(3, .c (iC 0)), (6, .c (iL z l)), (7, iX .i64 (((l.map i64T).length : Nat) : Int)), (8, iX .i64 ((i : Nat) : Int))], lv [], H⟩) (fun i => l.length - i) 0 ⟨_, by exact Wk.keep 18 _ _ _ rfl ⟨rfl, rfl, rfl, rfl, trivial⟩ trivial (fun _ _ h => h) rfl, ⟨Nat.zero_le _, by simp⟩, rfl⟩ (fun i s hs => ?_)
 obtain ⟨⟨hi0, h0⟩, rfl⟩ := hs
 refine sR (Z30 ?_)
 refine Z7 (AW.seq ?_)
 refine cD ?_ ?_ <;> intro h9
 ·
  have hi : i < l.length := by simpa using h9
  refine AW.skip (AW.seq (AW.block (sR (Z24 Fx.sl80 (idx_map (f := i64T) hi) ?_))))
  refine Z28 (.a _) Fx.ty3 ?_
  refine sB ?_
  refine sR (sM ?_)
  refine sM ?_
  refine Z26 ?_
  refine Z7 ?_
  refine cD ?_ ?_ <;> intro h14
  ·
   refine sR (sM ?_)
   refine sB ?_
   exact aR (f1 (q := ⟨by rw [orI_at hi h0 h14], rfl⟩))
  refine AW.skip (AW.reg (Z13 ?_))
  refine sM ?_
  refine Z7 ?_
  exact ⟨i + 1, _, by exact Wk.keep 18 _ _ _ rfl ⟨rfl, rfl, rfl, rfl, trivial⟩ trivial (fun _ _ h => h) rfl, by omega, ⟨hi, take_zero_step hi h0 (Classical.not_not.1 h14)⟩, rfl⟩
 refine AW.exit ?_
 refine eth_e ?_
 refine eth_e ?_
 refine exit_here ?_
 refine sR (sM ?_)
 refine sB ?_
 exact aR (f1 (q := ⟨by rw [orI_none]; intro x hx; exact h0 x (by rw [List.take_of_length_le (by simp at h9; omega)]; exact hx), rfl⟩))
theorem cmpP_prog {p q : Pt} (hp : finP p) (hq : finP q) :
    (orI [ints p.kind q.kind, ints p.var q.var, ints p.dv q.dv] ≠ 0 → cmpP p q = orI [ints p.kind q.kind, ints p.var q.var, ints p.dv q.dv]) ∧
    (orI [ints p.kind q.kind, ints p.var q.var, ints p.dv q.dv] = 0 → cmpP p q = cmpO p.of q.of ∧ (p.of = [] ↔ q.of = [])) := by
  rw [cmpP_eq]
  rw [finP_eq] at hp hq
  simp only [orI]
  by_cases h1 : p.kind = q.kind
  · by_cases h2 : p.var = q.var
    · by_cases h3 : p.dv = q.dv
      · simp [h1, h2, h3, ints_zero.2, hp.1, hq.1]
      · have := mt ints_zero.1 h3
        simp [h1, h2, h3, ints_zero.2, this]
    · have := mt ints_zero.1 h2
      simp [h1, h2, ints_zero.2, this]
  · have := mt ints_zero.1 h1
    simp [h1, this]
abbrev cP (p q : Pt) : Int := orI [ints p.kind q.kind, ints p.var q.var, ints p.dv q.dv]
theorem cmpP_c {p q : Pt} (hp : finP p) (hq : finP q) (h : cP p q ≠ 0 ∨ (p.of.length : Int) = 0 ∨ (q.of.length : Int) = 0) : cmpP p q = cP p q := by
  have hc := cmpP_prog hp hq
  by_cases h0 : cP p q = 0
  · rw [(hc.2 h0).1, h0]
    have h1 : p.of = [] := by
      rcases h with h | h | h
      · exact absurd h0 h
      · exact List.eq_nil_of_length_eq_zero (by omega)
      · exact (hc.2 h0).2.2 (List.eq_nil_of_length_eq_zero (by omega))
    rw [h1, (hc.2 h0).2.1 h1, cmpO]
  · exact hc.1 h0
theorem cmpO_at : ∀ {a b : List Tm} (ha : 0 < a.length) (hb : 0 < b.length), cmpO a b = cmpT a[0] b[0]
  | o :: r, o2 :: r2, _, _ => by simp [cmpO]
theorem cmpP_o {p q : Pt} (hp : finP p) (hq : finP q) (h : cP p q = 0) (hp0 : 0 < p.of.length) (hq0 : 0 < q.of.length) : cmpP p q = cmpT p.of[0] q.of[0] := by
  rw [((cmpP_prog hp hq).2 h).1]
  exact cmpO_at hp0 hq0
theorem cmpPart_of (p q : Pt) (hp : finP p) (hq : finP q) (ih : ∀ o ∈ p.of, ∀ b ∈ q.of, Pure Tryz.prog 107 [tmC o, tmC b] (.c (iC (cmpT o b)))) : Pure Tryz.prog 74 [ptC p, ptC q] (.c (iC (cmpP p q))) := by
 intro H
 refine Spec.enter Tryz.func74 rfl ?_
 refine AW.wk (Wk.keep 47 [(0, .c (ptC p)), (1, .c (ptC q))] [] (H) rfl ⟨rfl, rfl, trivial⟩ trivial (fun _ _ h => h) rfl) ?_
 refine sR (Z20 (r := [_, _, _, _, _]) ?_)
 refine Z20 (r := [_, _, _, _, _]) ?_
 refine sB ?_
 refine AW.seq (AW.draw Fx.mo ?_)
 refine Z23 Fx.fl89_1 ?_
 refine Z18 Fx.ty3 ?_
 refine Z23 Fx.fl89_1 ?_
 refine Z18 Fx.ty3 ?_
 refine Z45 Fx.fn105 (cmp3_any _ _) ?_
 refine Z23 Fx.fl89_2 ?_
 refine Z18 Fx.ty3 ?_
 refine Z23 Fx.fl89_2 ?_
 refine Z18 Fx.ty3 ?_
 refine Z45 Fx.fn105 (cmp3_any _ _) ?_
 refine Z23 Fx.fl89_3 ?_
 refine Z18 Fx.ty2 ?_
 refine Z23 Fx.fl89_3 ?_
 refine Z18 Fx.ty2 ?_
 refine Z45 Fx.fn106 (cmp2_any _ _) ?_
 refine LexK.q (q_buildSlice _ rfl Fx.el80 rfl (by decide) rfl) rfl rfl rfl ?_
 refine LexK.q (q_call _ rfl Fx.fn104 rfl (or_any [ints p.kind q.kind, ints p.var q.var, ints p.dv q.dv] .nn (by simp)) rfl) rfl rfl rfl ?_
 refine Z52 ?_
 refine Z48 ?_
 refine AW.seq (AW.seq ?_)
 obtain ⟨cc, hcc⟩ : ∃ cc, cc = cP p q := ⟨_, rfl⟩
 refine AW.reg (sM ?_)
 refine Z26 ?_
 refine Z17 ?_ ?_ <;> intro g25
 ·
  iterate 4 refine oF ?_
  refine Z8 ?_
  refine sM ?_
  iterate 4 refine oF ?_
  refine Z8 ?_
  refine Z7 (AW.condT rfl ?_)
  refine sR (sM ?_)
  refine sB ?_
  exact aR (f1 (q := ⟨by rw [cmpP_c hp hq (by first | exact .inl (by assumption) | (simp only [List.length_map] at *; omega))], rfl⟩))
 refine Z5 Fx.fl89_4 ?_
 refine Z3 Fx.ty87 ?_
 refine Z50 Fx.un87 ?_
 refine Z21 ?_
 refine Z4 ?_
 refine Z17 ?_ ?_ <;> intro g31
 ·
  iterate 4 refine oF ?_
  refine Z8 ?_
  refine Z7 (AW.condT rfl ?_)
  refine sR (sM ?_)
  refine sB ?_
  exact aR (f1 (q := ⟨by rw [cmpP_c hp hq (by first | exact .inl (by assumption) | (simp only [List.length_map] at *; omega))], rfl⟩))
 refine Z5 Fx.fl89_4 ?_
 refine Z3 Fx.ty87 ?_
 refine Z50 Fx.un87 ?_
 refine Z21 ?_
 refine Z4 ?_
 refine Z7 ?_
 refine cD ?_ ?_ <;> intro h36
 ·
  refine sR (sM ?_)
  refine sB ?_
  exact aR (f1 (q := ⟨by rw [cmpP_c hp hq (by first | exact .inl (by assumption) | (simp only [List.length_map] at *; omega))], rfl⟩))
 refine AW.skip (AW.seq ?_)
 have hp0 : 0 < p.of.length := by rw [List.length_map] at g31; omega
 have hq0 : 0 < q.of.length := by rw [List.length_map] at h36; omega
 refine AW.draw Fx.mo ?_
 refine Z23 Fx.fl89_4 ?_
 refine Z18 Fx.ty87 ?_
 refine Z29 Fx.sl87 (idx_tm hp0) ?_
 refine Z32 (.g [_, _]) Fx.ty32 ?_
 refine Z23 Fx.fl89_4 ?_
 refine Z18 Fx.ty87 ?_
 refine Z29 Fx.sl87 (idx_tm hq0) ?_
 refine Z32 (.g [_, _]) Fx.ty32 ?_
 refine Z45 Fx.fn107 (ih _ (List.getElem_mem hp0) _ (List.getElem_mem hq0)) ?_
 refine Z52 ?_
 refine Z48 ?_
 exact aR (f1 (q := ⟨by rw [cmpP_o hp hq (by first | omega | simp_all) hp0 hq0], rfl⟩))
theorem or2 {x y : Int} : orI [x, y] = if x ≠ 0 then x else y := by
  by_cases h : x = 0 <;> by_cases h2 : y = 0 <;> simp [orI, h, h2]
theorem cmp_stop {a b : Tm} {i : Nat} (hi : i < a.ps.length) (hj : i < b.ps.length) (hI : cmpL (a.ps.drop i) (b.ps.drop i) (ints a.c b.c) = cmpT a b) (h : orI [cmpP a.ps[i] b.ps[i], ints a.ps[i].coef b.ps[i].coef] ≠ 0) : cmpT a b = orI [cmpP a.ps[i] b.ps[i], ints a.ps[i].coef b.ps[i].coef] := by
  rw [← hI, cmpL_step hi hj, or2]
  rw [or2] at h
  by_cases h1 : cmpP a.ps[i] b.ps[i] = 0
  · simp only [h1, ne_eq, not_true_eq_false, if_false] at h ⊢
    rw [if_pos (fun e => h (ints_zero.2 e))]
  · rw [if_pos h1, if_pos h1]
theorem cmp_go {a b : Tm} {i : Nat} (hi : i < a.ps.length) (hj : i < b.ps.length) (hI : cmpL (a.ps.drop i) (b.ps.drop i) (ints a.c b.c) = cmpT a b) (h : orI [cmpP a.ps[i] b.ps[i], ints a.ps[i].coef b.ps[i].coef] = 0) : cmpL (a.ps.drop (i + 1)) (b.ps.drop (i + 1)) (ints a.c b.c) = cmpT a b := by
  rw [← hI, cmpL_step hi hj]
  rw [or2] at h
  by_cases h1 : cmpP a.ps[i] b.ps[i] = 0
  · rw [if_neg (by omega)] at h
    rw [if_neg (by omega), if_neg (fun e => e (ints_zero.1 h))]
  · rw [if_pos h1] at h; exact absurd h h1
theorem cmp_end {a b : Tm} {i : Nat} (hi : i ≤ a.ps.length) (hj : i ≤ b.ps.length) (he : i = a.ps.length ∨ i = b.ps.length) (hI : cmpL (a.ps.drop i) (b.ps.drop i) (ints a.c b.c) = cmpT a b) : cmpT a b = orI [ints a.ps.length b.ps.length, ints a.c b.c] := by
  rw [← hI, cmpL_end hi hj he, or2]
  by_cases h1 : (a.ps.length : Int) = b.ps.length
  · rw [if_neg (by omega), if_neg (by rw [ints_zero.2 h1]; simp)]
  · rw [if_pos h1, if_pos (fun e => h1 (ints_zero.1 e))]
abbrev zTm (x : Tm) : List A := [.t (.v (.int .i64 x.c)), .t (.sl .un 5 (x.ps.map ptT))]
theorem cmp_of (a b : Tm) (ha : finT a) (hb : finT b) (hN : a.cnt ≤ 100000) (ih : ∀ p ∈ a.ps, ∀ o ∈ p.of, ∀ q ∈ b.ps, ∀ o2 ∈ q.of, Pure Tryz.prog 107 [tmC o, tmC o2] (.c (iC (cmpT o o2)))) : Pure Tryz.prog 107 [tmC a, tmC b] (.c (iC (cmpT a b))) := by
 intro H
 refine Spec.enter Tryz.func107 rfl ?_
 refine AW.wk (Wk.keep 57 [(0, .c (tmC a)), (1, .c (tmC b))] [] (H) rfl ⟨rfl, rfl, trivial⟩ trivial (fun _ _ h => h) rfl) ?_
 refine sR (Z20 (r := [_, _]) ?_)
 refine Z20 (r := [_, _]) ?_
 refine sB ?_
 refine AW.seq (AW.seq ?_)
 have hfa := (finT_eq a).1 ha
 have hfb := (finT_eq b).1 hb
 have hla := len_ps a
 obtain ⟨la, hla0⟩ : ∃ la, la = a.ps.length := ⟨_, rfl⟩
 refine AW.reg (Z1 Fx.fl32_1 ?_)
 refine Z0 Fx.ty30 ?_
 refine Z22 Fx.un30 ?_
 refine Z1 Fx.fl32_1 ?_
 refine Z0 Fx.ty30 ?_
 refine Z22 Fx.un30 ?_
 refine SeqK.q (q_min rfl rfl rfl) rfl rfl rfl ?_
 refine sM ?_
 refine Z7 (AW.block ?_)
 refine AW.loop (fun (i : Nat) s => ((i ≤ a.ps.length ∧ i ≤ b.ps.length) ∧ cmpL (a.ps.drop i) (b.ps.drop i) (ints a.c b.c) = cmpT a b) ∧ s = ⟨57, sp [(2, .lp 2 0), (3, .lp 3 0), (15, iX .i64 (min (((a.ps.map ptT).length : Nat) : Int) (((b.ps.map ptT).length : Nat) : Int))), (16, iX .i64 ((i : Nat) : Int))], lv [(2, .box (zTm a)), (3, .box (zTm b))], H⟩) (fun i => a.ps.length - i) 0 ⟨_, by exact Wk.keep 57 _ _ _ rfl ⟨rfl, rfl, rfl, rfl, trivial⟩ ⟨rfl, rfl, trivial⟩ (fun _ _ h => h) rfl, ⟨⟨Nat.zero_le _, Nat.zero_le _⟩, (cmpT_eq a b).symm⟩, rfl⟩ (fun i s hs => ?_)
 obtain ⟨⟨hi0, hI⟩, rfl⟩ := hs
 refine sR (Z30 ?_)
 refine Z7 (AW.seq ?_)
 refine cD ?_ ?_ <;> intro h17
 rotate_left
 ·
  refine AW.exit ?_
  refine eth_e ?_
  refine eth_e ?_
  refine exit_here ?_
  refine AW.seq (AW.draw Fx.mo ?_)
  refine Z23 Fx.fl32_1 ?_
  refine Z18 Fx.ty30 ?_
  refine LexK.q (q_len rfl Fx.un30 rfl) rfl rfl rfl ?_
  refine Z23 Fx.fl32_1 ?_
  refine Z18 Fx.ty30 ?_
  refine LexK.q (q_len rfl Fx.un30 rfl) rfl rfl rfl ?_
  refine Z45 Fx.fn105 (cmp3_any _ _) ?_
  refine Z23 Fx.fl32_0 ?_
  refine Z18 Fx.ty2 ?_
  refine Z23 Fx.fl32_0 ?_
  refine Z18 Fx.ty2 ?_
  refine Z45 Fx.fn106 (cmp2_any _ _) ?_
  refine LexK.q (q_buildSlice _ rfl Fx.el80 rfl (by decide) rfl) rfl rfl rfl ?_
  refine LexK.q (q_call _ rfl Fx.fn104 rfl (or_any [ints ((a.ps.map ptT).length : Nat) ((b.ps.map ptT).length : Nat), ints a.c b.c] .nn (by simp)) rfl) rfl rfl rfl ?_
  refine Z52 ?_
  refine Z48 ?_
  exact aR (f1 (q := ⟨by rw [cmp_end hi0.1 hi0.2 (by rw [List.length_map, List.length_map] at h17; omega) hI, List.length_map, List.length_map], rfl⟩))
 have hij : i < a.ps.length ∧ i < b.ps.length := by rw [List.length_map, List.length_map] at h17; omega
 have hi := hij.1
 have hj := hij.2
 refine AW.skip (AW.seq (AW.block (sR (sM ?_))))
 refine sB ?_
 refine AW.seq (AW.draw Fx.mo ?_)
 refine Z23 Fx.fl32_1 ?_
 refine Z18 Fx.ty30 ?_
 refine Z44 ?_
 refine Z29 Fx.sl30 (idx_map (f := ptT) hi) ?_
 refine Z32 (.g [_, _, _, _, _]) Fx.ty89 ?_
 refine Z23 Fx.fl32_1 ?_
 refine Z18 Fx.ty30 ?_
 refine Z44 ?_
 refine Z29 Fx.sl30 (idx_map (f := ptT) hj) ?_
 refine Z32 (.g [_, _, _, _, _]) Fx.ty89 ?_
 refine LexK.r (b_alloc (r := [_, _, _, _, _]) rfl rfl Fx.ze89 rfl rfl rfl rfl) rfl ?_
 refine LexK.r (b_alloc (r := [_, _, _, _, _]) rfl rfl Fx.ze89 rfl rfl rfl rfl) rfl ?_
 refine Z40 (r := [_, _, _, _, _]) Fx.ty89 ?_
 refine Z40 (r := [_, _, _, _, _]) Fx.ty89 ?_
 refine Z48 ?_
 refine AW.seq (AW.draw Fx.mo ?_)
 refine LexK.r (b_load (r := .g [_, _, _, _, _]) rfl Fx.ty89 rfl rfl rfl rfl rfl rfl) rfl ?_
 refine LexK.r (b_load (r := .g [_, _, _, _, _]) rfl Fx.ty89 rfl rfl rfl rfl rfl rfl) rfl ?_
 refine Z45 Fx.fn74 (cmpPart_of a.ps[i] b.ps[i] (hfa _ (List.getElem_mem hi)) (hfb _ (List.getElem_mem hj)) (fun o ho b2 hb2 => ih _ (List.getElem_mem hi) o ho _ (List.getElem_mem hj) b2 hb2)) ?_
 refine Z23 Fx.fl89_0 ?_
 refine Z18 Fx.ty2 ?_
 refine Z23 Fx.fl89_0 ?_
 refine Z18 Fx.ty2 ?_
 refine Z45 Fx.fn106 (cmp2_any _ _) ?_
 refine LexK.q (q_buildSlice _ rfl Fx.el80 rfl (by decide) rfl) rfl rfl rfl ?_
 refine LexK.q (q_call _ rfl Fx.fn104 rfl (or_any [cmpP a.ps[i] b.ps[i], ints a.ps[i].coef b.ps[i].coef] .nn (by simp)) rfl) rfl rfl rfl ?_
 refine Z52 ?_
 refine Z48 ?_
 refine sR (sM ?_)
 refine Z26 ?_
 refine Z7 ?_
 refine cD ?_ ?_ <;> intro h40
 ·
  refine sR (sM ?_)
  refine sB ?_
  exact aR (f1 (q := ⟨by rw [cmp_stop hi hj hI h40], rfl⟩))
 refine AW.skip (AW.reg (Z13 ?_))
 refine sM ?_
 refine Z7 ?_
 exact ⟨i + 1, _, by exact Wk.keep 57 _ _ _ rfl ⟨rfl, rfl, rfl, rfl, trivial⟩ ⟨rfl, rfl, trivial⟩ (fun _ _ h => h) rfl, by omega, ⟨⟨hi, hj⟩, cmp_go hi hj hI (Classical.not_not.1 h40)⟩, rfl⟩
theorem cmp_any (a : Tm) : finT a → a.cnt ≤ 100000 → ∀ b, finT b → Pure Tryz.prog 107 [tmC a, tmC b] (.c (iC (cmpT a b))) := by
  induction a using Tm.ind with
  | h a ih =>
    intro ha hN b hb
    exact cmp_of a b ha hb hN fun p hp o ho q hq o2 ho2 => ih p hp o ho (((finP_eq p).1 ((finT_eq a).1 ha p hp)).2 o ho) (by have := cnt_of hp ho; omega) o2 (((finP_eq q).1 ((finT_eq b).1 hb q hq)).2 o2 ho2)
theorem cmpPart_any (p q : Pt) (hp : finP p) (hq : finP q) (hN : p.cnt ≤ 100000) : Pure Tryz.prog 74 [ptC p, ptC q] (.c (iC (cmpP p q))) :=
  cmpPart_of p q hp hq fun o ho b hb => cmp_any o (((finP_eq p).1 hp).2 o ho) (by rw [Pt.cnt_eq] at hN; have := cntTs_mem ho; omega) b (((finP_eq q).1 hq).2 b hb)
theorem cmpO_none {a b : List Tm} (h : (a.length : Int) = 0 ∨ (b.length : Int) = 0) : cmpO a b = ints a.length b.length := by
  match a, b, h with
  | [], [], _ => simp [cmpO, ints]
  | [], _ :: _, _ => simp [cmpO, ints]
  | _ :: _, [], _ => simp [cmpO, ints]; omega
  | _ :: _, _ :: _, h => simp at h; omega
theorem rparts_of (p q : Pt) (ih : ∀ o ∈ p.of, ∀ b ∈ q.of, Pure Tryz.prog 195 [tmC o, tmC b] (.c (iC (cmpT o b)))) : Pure Tryz.prog 189 [ptC p, ptC q] (.c (iC (cmpP p q))) := by
 intro H
 refine Spec.enter Tryz.func189 rfl ?_
 refine AW.wk (Wk.keep 61 [(0, .c (ptC p)), (1, .c (ptC q))] [] (H) rfl ⟨rfl, rfl, trivial⟩ trivial (fun _ _ h => h) rfl) ?_
 refine sR (Z20 (r := [_, _, _, _, _]) ?_)
 refine Z20 (r := [_, _, _, _, _]) ?_
 refine sB ?_
 refine AW.seq (sR (Z1 Fx.fl89_1 ?_))
 refine Z0 Fx.ty3 ?_
 refine Z1 Fx.fl89_1 ?_
 refine Z0 Fx.ty3 ?_
 refine Z26 ?_
 refine Z7 ?_
 refine cD ?_ ?_ <;> intro h9
 ·
  refine sR (Z1 Fx.fl89_1 ?_)
  refine Z0 Fx.ty3 ?_
  refine Z1 Fx.fl89_1 ?_
  refine Z0 Fx.ty3 ?_
  refine Z12 Fx.fn194 (ints_any _ _) ?_
  refine sB ?_
  exact aR (f1 (q := ⟨by rw [cmpP_eq, if_pos h9], rfl⟩))
 refine AW.skip (AW.seq (sR (Z1 Fx.fl89_2 ?_)))
 refine Z0 Fx.ty3 ?_
 refine Z1 Fx.fl89_2 ?_
 refine Z0 Fx.ty3 ?_
 refine Z26 ?_
 refine Z7 ?_
 refine cD ?_ ?_ <;> intro h19
 ·
  refine sR (Z1 Fx.fl89_2 ?_)
  refine Z0 Fx.ty3 ?_
  refine Z1 Fx.fl89_2 ?_
  refine Z0 Fx.ty3 ?_
  refine Z12 Fx.fn194 (ints_any _ _) ?_
  refine sB ?_
  exact aR (f1 (q := ⟨by rw [cmpP_eq, if_neg h9, if_pos h19], rfl⟩))
 refine AW.skip (AW.seq (sR (Z1 Fx.fl89_3 ?_)))
 refine Z0 Fx.ty2 ?_
 refine Z1 Fx.fl89_3 ?_
 refine Z0 Fx.ty2 ?_
 refine Z26 ?_
 refine Z7 ?_
 refine cD ?_ ?_ <;> intro h29
 ·
  refine sR (Z1 Fx.fl89_3 ?_)
  refine Z0 Fx.ty2 ?_
  refine Z1 Fx.fl89_3 ?_
  refine Z0 Fx.ty2 ?_
  refine Z12 Fx.fn194 (ints_any _ _) ?_
  refine sB ?_
  exact aR (f1 (q := ⟨by rw [cmpP_eq, if_neg h9, if_neg h19, if_pos h29], rfl⟩))
 refine AW.skip (AW.seq (sR (Z1 Fx.fl89_4 ?_)))
 refine Z0 Fx.ty87 ?_
 refine Z22 Fx.un87 ?_
 refine Z9 ?_
 refine Z17 ?_ ?_ <;> intro g39
 ·
  iterate 4 refine oF ?_
  refine Z8 ?_
  refine Z7 (AW.condT rfl ?_)
  refine sR (Z1 Fx.fl89_4 ?_)
  refine Z0 Fx.ty87 ?_
  refine Z22 Fx.un87 ?_
  refine Z1 Fx.fl89_4 ?_
  refine Z0 Fx.ty87 ?_
  refine Z22 Fx.un87 ?_
  refine Z12 Fx.fn194 (ints_any _ _) ?_
  refine sB ?_
  exact aR (f1 (q := ⟨by simp only [List.length_map] at *; rw [cmpP_eq, if_neg h9, if_neg h19, if_neg h29, cmpO_none (by omega)], rfl⟩))
 refine Z5 Fx.fl89_4 ?_
 refine Z3 Fx.ty87 ?_
 refine Z50 Fx.un87 ?_
 refine Z21 ?_
 refine Z4 ?_
 refine Z7 ?_
 refine cD ?_ ?_ <;> intro h44
 ·
  refine sR (Z1 Fx.fl89_4 ?_)
  refine Z0 Fx.ty87 ?_
  refine Z22 Fx.un87 ?_
  refine Z1 Fx.fl89_4 ?_
  refine Z0 Fx.ty87 ?_
  refine Z22 Fx.un87 ?_
  refine Z12 Fx.fn194 (ints_any _ _) ?_
  refine sB ?_
  exact aR (f1 (q := ⟨by simp only [List.length_map] at *; rw [cmpP_eq, if_neg h9, if_neg h19, if_neg h29, cmpO_none (by omega)], rfl⟩))
 refine AW.skip (AW.seq ?_)
 have hp0 : 0 < p.of.length := by rw [List.length_map] at g39; omega
 have hq0 : 0 < q.of.length := by rw [List.length_map] at h44; omega
 refine AW.draw Fx.mo ?_
 refine Z23 Fx.fl89_4 ?_
 refine Z18 Fx.ty87 ?_
 refine Z29 Fx.sl87 (idx_tm hp0) ?_
 refine Z32 (.g [_, _]) Fx.ty32 ?_
 refine Z23 Fx.fl89_4 ?_
 refine Z18 Fx.ty87 ?_
 refine Z29 Fx.sl87 (idx_tm hq0) ?_
 refine Z32 (.g [_, _]) Fx.ty32 ?_
 refine Z45 Fx.fn195 (ih _ (List.getElem_mem hp0) _ (List.getElem_mem hq0)) ?_
 refine Z52 ?_
 refine Z48 ?_
 exact aR (f1 (q := ⟨by rw [cmpP_eq, if_neg h9, if_neg h19, if_neg h29, cmpO_at hp0 hq0], rfl⟩))
theorem rcmp_stop {a b : Tm} {i : Nat} (hi : i < a.ps.length) (hj : i < b.ps.length) (hI : cmpL (a.ps.drop i) (b.ps.drop i) (ints a.c b.c) = cmpT a b) (h : cmpP a.ps[i] b.ps[i] ≠ 0) : cmpT a b = cmpP a.ps[i] b.ps[i] := by
  rw [← hI, cmpL_step hi hj, if_pos h]
theorem rcmp_coef {a b : Tm} {i : Nat} (hi : i < a.ps.length) (hj : i < b.ps.length) (hI : cmpL (a.ps.drop i) (b.ps.drop i) (ints a.c b.c) = cmpT a b) (h : ¬ cmpP a.ps[i] b.ps[i] ≠ 0) (h2 : a.ps[i].coef ≠ b.ps[i].coef) : cmpT a b = ints a.ps[i].coef b.ps[i].coef := by
  rw [← hI, cmpL_step hi hj, if_neg h, if_pos h2]
theorem rcmp_go {a b : Tm} {i : Nat} (hi : i < a.ps.length) (hj : i < b.ps.length) (hI : cmpL (a.ps.drop i) (b.ps.drop i) (ints a.c b.c) = cmpT a b) (h : ¬ cmpP a.ps[i] b.ps[i] ≠ 0) (h2 : ¬ a.ps[i].coef ≠ b.ps[i].coef) : cmpL (a.ps.drop (i + 1)) (b.ps.drop (i + 1)) (ints a.c b.c) = cmpT a b := by
  rw [← hI, cmpL_step hi hj, if_neg h, if_neg h2]
theorem rcmp_end {a b : Tm} {i : Nat} (hi : i ≤ a.ps.length) (hj : i ≤ b.ps.length) (he : i = a.ps.length ∨ i = b.ps.length) (hI : cmpL (a.ps.drop i) (b.ps.drop i) (ints a.c b.c) = cmpT a b) : cmpT a b = if (a.ps.length : Int) ≠ b.ps.length then ints a.ps.length b.ps.length else ints a.c b.c := by
  rw [← hI, cmpL_end hi hj he]
theorem rcmp_of (a b : Tm) (hN : a.cnt ≤ 100000) (ih : ∀ p ∈ a.ps, ∀ o ∈ p.of, ∀ q ∈ b.ps, ∀ o2 ∈ q.of, Pure Tryz.prog 195 [tmC o, tmC o2] (.c (iC (cmpT o o2)))) : Pure Tryz.prog 195 [tmC a, tmC b] (.c (iC (cmpT a b))) := by
 intro H
 refine Spec.enter Tryz.func195 rfl ?_
 refine AW.wk (Wk.keep 80 [(0, .c (tmC a)), (1, .c (tmC b))] [] (H) rfl ⟨rfl, rfl, trivial⟩ trivial (fun _ _ h => h) rfl) ?_
 refine sR (Z20 (r := [_, _]) ?_)
 refine Z20 (r := [_, _]) ?_
 refine sB ?_
 refine AW.seq (AW.seq ?_)
 have hla := len_ps a
 refine AW.reg (sB ?_)
 refine AW.block ?_
 refine AW.loop (fun (i : Nat) s => ((i ≤ a.ps.length ∧ i ≤ b.ps.length) ∧ cmpL (a.ps.drop i) (b.ps.drop i) (ints a.c b.c) = cmpT a b) ∧ s = ⟨80, sp [(2, .lp 2 0), (3, .lp 3 0), (4, .c (iC 0)), (5, iX .i64 ((i : Nat) : Int))], lv [(2, .box (zTm a)), (3, .box (zTm b))], H⟩) (fun i => a.ps.length - i) 0 ⟨_, by exact Wk.keep 80 _ _ _ rfl ⟨rfl, rfl, rfl, rfl, trivial⟩ ⟨rfl, rfl, trivial⟩ (fun _ _ h => h) rfl, ⟨⟨Nat.zero_le _, Nat.zero_le _⟩, (cmpT_eq a b).symm⟩, rfl⟩ (fun i s hs => ?_)
 obtain ⟨⟨hi0, hI⟩, rfl⟩ := hs
 refine AW.seq (sR (sM ?_))
 refine Z1 Fx.fl32_1 ?_
 refine Z0 Fx.ty30 ?_
 refine Z22 Fx.un30 ?_
 refine Z30 ?_
 refine Z17 ?_ ?_ <;> intro g12
 rotate_left
 ·
  iterate 5 refine oF ?_
  refine Z4 ?_
  refine Z7 (AW.condF rfl ?_)
  refine AW.exit ?_
  refine eth_e ?_
  refine eth_e ?_
  refine exit_here ?_
  refine AW.seq (sR (Z1 Fx.fl32_1 ?_))
  refine Z0 Fx.ty30 ?_
  refine Z22 Fx.un30 ?_
  refine Z1 Fx.fl32_1 ?_
  refine Z0 Fx.ty30 ?_
  refine Z22 Fx.un30 ?_
  refine Z26 ?_
  refine Z7 ?_
  refine cD ?_ ?_ <;> intro h67
  ·
   refine sR (Z1 Fx.fl32_1 ?_)
   refine Z0 Fx.ty30 ?_
   refine Z22 Fx.un30 ?_
   refine Z1 Fx.fl32_1 ?_
   refine Z0 Fx.ty30 ?_
   refine Z22 Fx.un30 ?_
   refine Z12 Fx.fn194 (ints_any _ _) ?_
   refine sB ?_
   exact aR (f1 (q := ⟨by rw [rcmp_end hi0.1 hi0.2 (by simp only [List.length_map] at *; omega) hI, if_pos (by simp only [List.length_map] at *; omega), List.length_map, List.length_map], rfl⟩))
  refine AW.skip (sR (Z1 Fx.fl32_0 ?_))
  refine Z0 Fx.ty2 ?_
  refine Z1 Fx.fl32_0 ?_
  refine Z0 Fx.ty2 ?_
  refine Z12 Fx.fn194 (ints_any _ _) ?_
  refine sB ?_
  exact aR (f1 (q := ⟨by rw [rcmp_end hi0.1 hi0.2 (by simp only [List.length_map] at *; omega) hI, if_neg (by simp only [List.length_map] at *; omega)], rfl⟩))
 refine Z14 ?_
 refine Z5 Fx.fl32_1 ?_
 refine Z3 Fx.ty30 ?_
 refine Z50 Fx.un30 ?_
 refine SeqK.on (q_lss rfl rfl rfl) rfl rfl rfl rfl rfl ?_
 refine Z8 ?_
 refine Z7 ?_
 refine cD ?_ ?_ <;> intro h18
 rotate_left
 ·
  refine AW.exit ?_
  refine eth_e ?_
  refine eth_e ?_
  refine exit_here ?_
  refine AW.seq (sR (Z1 Fx.fl32_1 ?_))
  refine Z0 Fx.ty30 ?_
  refine Z22 Fx.un30 ?_
  refine Z1 Fx.fl32_1 ?_
  refine Z0 Fx.ty30 ?_
  refine Z22 Fx.un30 ?_
  refine Z26 ?_
  refine Z7 ?_
  refine cD ?_ ?_ <;> intro h67
  ·
   refine sR (Z1 Fx.fl32_1 ?_)
   refine Z0 Fx.ty30 ?_
   refine Z22 Fx.un30 ?_
   refine Z1 Fx.fl32_1 ?_
   refine Z0 Fx.ty30 ?_
   refine Z22 Fx.un30 ?_
   refine Z12 Fx.fn194 (ints_any _ _) ?_
   refine sB ?_
   exact aR (f1 (q := ⟨by rw [rcmp_end hi0.1 hi0.2 (by simp only [List.length_map] at *; omega) hI, if_pos (by simp only [List.length_map] at *; omega), List.length_map, List.length_map], rfl⟩))
  refine AW.skip (sR (Z1 Fx.fl32_0 ?_))
  refine Z0 Fx.ty2 ?_
  refine Z1 Fx.fl32_0 ?_
  refine Z0 Fx.ty2 ?_
  refine Z12 Fx.fn194 (ints_any _ _) ?_
  refine sB ?_
  exact aR (f1 (q := ⟨by rw [rcmp_end hi0.1 hi0.2 (by simp only [List.length_map] at *; omega) hI, if_neg (by simp only [List.length_map] at *; omega)], rfl⟩))
 have hij : i < a.ps.length ∧ i < b.ps.length := by simp only [List.length_map] at g12 h18; omega
 have hi := hij.1
 have hj := hij.2
 refine AW.skip (AW.seq (AW.block (AW.seq (AW.seq (AW.draw Fx.mo ?_)))))
 refine Z23 Fx.fl32_1 ?_
 refine Z18 Fx.ty30 ?_
 refine Z44 ?_
 refine Z29 Fx.sl30 (idx_map (f := ptT) hi) ?_
 refine Z32 (.g [_, _, _, _, _]) Fx.ty89 ?_
 refine Z23 Fx.fl32_1 ?_
 refine Z18 Fx.ty30 ?_
 refine Z44 ?_
 refine Z29 Fx.sl30 (idx_map (f := ptT) hj) ?_
 refine Z32 (.g [_, _, _, _, _]) Fx.ty89 ?_
 refine Z45 Fx.fn189 (rparts_of a.ps[i] b.ps[i] (fun o ho b2 hb2 => ih _ (List.getElem_mem hi) o ho _ (List.getElem_mem hj) b2 hb2)) ?_
 refine Z52 ?_
 refine Z48 ?_
 refine sR (sM ?_)
 refine Z26 ?_
 refine Z7 ?_
 refine cD ?_ ?_ <;> intro h33
 ·
  refine sR (sM ?_)
  refine sB ?_
  exact aR (f1 (q := ⟨by rw [rcmp_stop hi hj hI h33], rfl⟩))
 refine AW.skip (AW.seq (AW.draw Fx.mo ?_))
 refine Z23 Fx.fl32_1 ?_
 refine Z18 Fx.ty30 ?_
 refine Z44 ?_
 refine Z29 Fx.sl30 (idx_map (f := ptT) hi) ?_
 refine LexK.q (q_fieldP _ rfl Fx.fl89_0 rfl rfl) rfl rfl rfl ?_
 refine Z32 (.a _) Fx.ty2 ?_
 refine Z23 Fx.fl32_1 ?_
 refine Z18 Fx.ty30 ?_
 refine Z44 ?_
 refine Z29 Fx.sl30 (idx_map (f := ptT) hj) ?_
 refine LexK.q (q_fieldP _ rfl Fx.fl89_0 rfl rfl) rfl rfl rfl ?_
 refine Z32 (.a _) Fx.ty2 ?_
 refine LexK.q (q_neq rfl rfl rfl) rfl rfl rfl ?_
 refine Z48 ?_
 refine cD ?_ ?_ <;> intro h47
 ·
  refine AW.seq (AW.draw Fx.mo ?_)
  refine Z23 Fx.fl32_1 ?_
  refine Z18 Fx.ty30 ?_
  refine Z44 ?_
  refine Z29 Fx.sl30 (idx_map (f := ptT) hi) ?_
  refine LexK.q (q_fieldP _ rfl Fx.fl89_0 rfl rfl) rfl rfl rfl ?_
  refine Z32 (.a _) Fx.ty2 ?_
  refine Z23 Fx.fl32_1 ?_
  refine Z18 Fx.ty30 ?_
  refine Z44 ?_
  refine Z29 Fx.sl30 (idx_map (f := ptT) hj) ?_
  refine LexK.q (q_fieldP _ rfl Fx.fl89_0 rfl rfl) rfl rfl rfl ?_
  refine Z32 (.a _) Fx.ty2 ?_
  refine Z45 Fx.fn194 (ints_any _ _) ?_
  refine Z52 ?_
  refine Z48 ?_
  exact aR (f1 (q := ⟨by rw [rcmp_coef hi hj hI h33 h47], rfl⟩))
 refine AW.skip (AW.reg (sM ?_))
 refine Z13 ?_
 refine sB ?_
 exact ⟨i + 1, _, by exact Wk.keep 80 _ _ _ rfl ⟨rfl, rfl, rfl, rfl, trivial⟩ ⟨rfl, rfl, trivial⟩ (fun _ _ h => h) rfl, by omega, ⟨⟨hi, hj⟩, rcmp_go hi hj hI h33 h47⟩, rfl⟩
theorem rcmp_any (a : Tm) : a.cnt ≤ 100000 → ∀ b, Pure Tryz.prog 195 [tmC a, tmC b] (.c (iC (cmpT a b))) := by
  induction a using Tm.ind with
  | h a ih =>
    intro hN b
    exact rcmp_of a b hN fun p hp o ho q hq o2 ho2 => ih p hp o ho (by have := cnt_of hp ho; omega) o2
theorem rparts_any (p q : Pt) (hN : p.cnt ≤ 100000) : Pure Tryz.prog 189 [ptC p, ptC q] (.c (iC (cmpP p q))) :=
  rparts_of p q fun o ho b hb => rcmp_any o (by rw [Pt.cnt_eq] at hN; have := cntTs_mem ho; omega) b
end Go.Proofs.YtnnoafgdjjpidaaGreatDoor.W
