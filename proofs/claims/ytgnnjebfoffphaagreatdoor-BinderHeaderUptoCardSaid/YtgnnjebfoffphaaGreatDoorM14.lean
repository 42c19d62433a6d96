import Derived.Test.YtgnnjebfoffphaaGreatDoorM13
import Derived.Shelf.Strings.Builder1
import Derived.Shelf.Strings.Builder2
import Derived.Shelf.Small.Wraps
import Derived.Shelf.Strings.BuilderF
import Derived.Shelf.Strings.BuilderK
import Derived.Shelf.Utf8.RuneCount
import Derived.Shelf.Strings.Builder2Cap
import Derived.Shelf.Strconv.Itoa0
import Derived.Shelf.Strconv.Itoa1
import Derived.Shelf.LaysM
import Derived.Shelf.Strconv.Itoa2
import Derived.Shelf.Strconv.Itoa3
import Derived.Shelf.Strconv.Itoa4
import Derived.Shelf.Strings.Search1
import Derived.Shelf.Strings.Search2
import Derived.Shelf.Strings.Search3
import Derived.Shelf.Strings.Count
import Derived.Shelf.Strings.Shaped
import Derived.Shelf.Strings.Split
import Derived.Shelf.Strings.Replace
import Derived.Shelf.Strings.SplitShaped
import Derived.Shelf.Unicode.Decode
import Derived.Shelf.Strings.RuneCount
import Derived.Shelf.Bits.Mul64
import Derived.Shelf.Unicode.DecodeSlow
import Derived.Shelf.Unicode.DecodeAny
import Derived.Shelf.Slices.SearchI
import Derived.Test.YtgnnjebfoffphaaGreatDoorProg
set_option maxRecDepth 20000
set_option linter.unusedSectionVars false
set_option linter.unusedSimpArgs false
set_option linter.unusedVariables false
namespace Go.Proofs
open Go.Shelf
def Tryz.laysM173_ren : Go.Shelf.Ren := ⟨fun | 173 => 192 | 246 => 206 | 283 => 219 | 284 => 220 | 285 => 221 | 286 => 222 | 129 => 240 | 317 => 239 | 318 => 241 | 319 => 242 | 320 => 243 | 337 => 251 | 338 => 252 | n => n, fun | 2 => 2 | 3 => 3 | 9 => 9 | 4 => 4 | 171 => 254 | 0 => 0 | 53 => 232 | 37 => 204 | 5 => 5 | 173 => 257 | 212 => 269 | 51 => 270 | 20 => 20 | 213 => 271 | 46 => 263 | 232 => 284 | 233 => 285 | n => n, fun | 17 => 1 | 18 => 4 | 19 => 5 | n => n⟩
theorem Tryz.laysM173 : Go.Proofs.LaysM.n173 Tryz.prog Tryz.laysM173_ren := {
  mixed := by kernel_rfl
  f129 := Tryz.func240.trans (congrArg some (by kernel_rfl))
  f173 := Tryz.func192.trans (congrArg some (by kernel_rfl))
  f246 := Tryz.func206.trans (congrArg some (by kernel_rfl))
  f283 := Tryz.func219.trans (congrArg some (by kernel_rfl))
  f284 := Tryz.func220.trans (congrArg some (by kernel_rfl))
  f285 := Tryz.func221.trans (congrArg some (by kernel_rfl))
  f286 := Tryz.func222.trans (congrArg some (by kernel_rfl))
  f317 := Tryz.func239.trans (congrArg some (by kernel_rfl))
  f318 := Tryz.func241.trans (congrArg some (by kernel_rfl))
  f319 := Tryz.func242.trans (congrArg some (by kernel_rfl))
  f320 := Tryz.func243.trans (congrArg some (by kernel_rfl))
  f337 := Tryz.func251.trans (congrArg some (by kernel_rfl))
  f338 := Tryz.func252.trans (congrArg some (by kernel_rfl))
  t0 := Tryz.underlying0
  a0 := Tryz.isAgg0
  z0 := Tryz.sizeOf0
  v0 := Tryz.zeroValue0
  t2 := Tryz.underlying2
  a2 := Tryz.isAgg2
  z2 := Tryz.sizeOf2
  v2 := Tryz.zeroValue2
  t3 := Tryz.underlying3
  a3 := Tryz.isAgg3
  z3 := Tryz.sizeOf3
  v3 := Tryz.zeroValue3
  t4 := Tryz.underlying4
  a4 := Tryz.isAgg4
  z4 := Tryz.sizeOf4
  v4 := Tryz.zeroValue4
  t5 := Tryz.underlying5
  a5 := Tryz.isAgg5
  z5 := Tryz.sizeOf5
  v5 := Tryz.zeroValue5
  t9 := Tryz.underlying9
  a9 := Tryz.isAgg9
  z9 := Tryz.sizeOf9
  v9 := Tryz.zeroValue9
  t20 := Tryz.underlying20
  a20 := Tryz.isAgg20
  z20 := Tryz.sizeOf20
  v20 := Tryz.zeroValue20
  t37 := Tryz.underlying204
  a37 := Tryz.isAgg204
  z37 := Tryz.sizeOf204
  v37 := Tryz.zeroValue204
  t46 := Tryz.underlying263
  a46 := Tryz.isAgg263
  z46 := Tryz.sizeOf263
  v46 := Tryz.zeroValue263
  t51 := Tryz.underlying270
  a51 := Tryz.isAgg270
  z51 := Tryz.sizeOf270
  v51 := Tryz.zeroValue270
  t53 := Tryz.underlying232
  a53 := Tryz.isAgg232
  z53 := Tryz.sizeOf232
  v53 := Tryz.zeroValue232
  t171 := Tryz.underlying254
  a171 := Tryz.isAgg254
  z171 := Tryz.sizeOf254
  v171 := Tryz.zeroValue254
  t173 := Tryz.underlying257
  a173 := Tryz.isAgg257
  z173 := Tryz.sizeOf257
  v173 := Tryz.zeroValue257
  t212 := Tryz.underlying269
  a212 := Tryz.isAgg269
  z212 := Tryz.sizeOf269
  v212 := Tryz.zeroValue269
  t213 := Tryz.underlying271
  a213 := Tryz.isAgg271
  z213 := Tryz.sizeOf271
  t232 := Tryz.underlying284
  a232 := Tryz.isAgg284
  z232 := Tryz.sizeOf284
  v232 := Tryz.zeroValue284
  t233 := Tryz.underlying285
  a233 := Tryz.isAgg285
  z233 := Tryz.sizeOf285
  v233 := Tryz.zeroValue285
  g17 := by kernel_rfl
  g18 := by kernel_rfl
  g19 := by kernel_rfl
  i0 := by kernel_rfl
  i2 := by kernel_rfl
  i3 := by kernel_rfl
  i4 := by kernel_rfl
  i5 := by kernel_rfl
  i9 := by kernel_rfl
  i20 := by kernel_rfl
  i37 := by kernel_rfl
  i46 := by kernel_rfl
  i51 := by kernel_rfl
  i53 := by kernel_rfl
  i171 := by kernel_rfl
  i173 := by kernel_rfl
  i212 := by kernel_rfl
  i232 := by kernel_rfl
  i233 := by kernel_rfl
  m17 := by kernel_rfl
  m18 := by kernel_rfl
  m19 := by kernel_rfl }
open Go.RowKit Go.Sort Go.Lib in
theorem Tryz.strconv_FormatInt_10 (n : Int) (h0 : -9223372036854775808 ≤ n) (h1 : n ≤ 9223372036854775807) (w : World) (htab : Lib.TabIs Tryz.prog w "internal/strconv.uint64pow10" .u64 Lib.pow10Tab) :
    Calls Tryz.prog 192 #[.int .i64 n, .int .i64 10] w fun e w' => e = .returned (.string ⟨(Lib.itoa n).toArray⟩) ∧ ∃ k os, w' = grow (w.drewN k) os := Any.strconv_FormatInt_10 Tryz.laysM173 n h0 h1 w htab
def Tryz.lays144_ren : Go.Shelf.Ren := ⟨fun | 144 => 189 | 143 => 205 | 219 => 218 | 217 => 235 | 225 => 236 | 224 => 237 | 267 => 238 | 266 => 249 | 314 => 250 | n => n, fun | 9 => 9 | 4 => 4 | 3 => 3 | 5 => 5 | 46 => 263 | 146 => 280 | 51 => 270 | n => n, fun | 1 => 0 | n => n⟩
theorem Tryz.lays144 : Go.Proofs.Lays.n144 Tryz.prog Tryz.lays144_ren := {
  mixed := by kernel_rfl
  f143 := Tryz.func205.trans (congrArg some (by kernel_rfl))
  f144 := Tryz.func189.trans (congrArg some (by kernel_rfl))
  f217 := Tryz.func235.trans (congrArg some (by kernel_rfl))
  f219 := Tryz.func218.trans (congrArg some (by kernel_rfl))
  f224 := Tryz.func237.trans (congrArg some (by kernel_rfl))
  f225 := Tryz.func236.trans (congrArg some (by kernel_rfl))
  f266 := Tryz.func249.trans (congrArg some (by kernel_rfl))
  f267 := Tryz.func238.trans (congrArg some (by kernel_rfl))
  f314 := Tryz.func250.trans (congrArg some (by kernel_rfl))
  t3 := Tryz.underlying3
  a3 := Tryz.isAgg3
  z3 := Tryz.sizeOf3
  v3 := Tryz.zeroValue3
  t4 := Tryz.underlying4
  a4 := Tryz.isAgg4
  z4 := Tryz.sizeOf4
  v4 := Tryz.zeroValue4
  t5 := Tryz.underlying5
  a5 := Tryz.isAgg5
  z5 := Tryz.sizeOf5
  v5 := Tryz.zeroValue5
  t9 := Tryz.underlying9
  a9 := Tryz.isAgg9
  z9 := Tryz.sizeOf9
  v9 := Tryz.zeroValue9
  t46 := Tryz.underlying263
  a46 := Tryz.isAgg263
  z46 := Tryz.sizeOf263
  v46 := Tryz.zeroValue263
  t51 := Tryz.underlying270
  a51 := Tryz.isAgg270
  z51 := Tryz.sizeOf270
  v51 := Tryz.zeroValue270
  t146 := Tryz.underlying280
  a146 := Tryz.isAgg280
  z146 := Tryz.sizeOf280
  v146 := Tryz.zeroValue280
  g1 := by kernel_rfl }
open Go.RowKit Go.Lib in
theorem Tryz.strings_Contains (s sub : ByteArray) (m : Int) (w : World) (hs : s.size < 4294967281) (hm : w.cell? ⟨0, 0, none⟩ = some (.int .i64 m)) :
    Calls Tryz.prog 189 #[.string s, .string sub] w fun e w' => e = .returned (.bool (Lib.contains s.data.toList sub.data.toList)) ∧ w' = w := Any.strings_Contains Tryz.lays144 s sub m w hs hm
def Tryz.lays155_ren : Go.Shelf.Ren := ⟨fun | 155 => 176 | 154 => 193 | 138 => 207 | 165 => 208 | 143 => 205 | 166 => 209 | 197 => 210 | 169 => 211 | 195 => 223 | 218 => 224 | 240 => 225 | 241 => 226 | 219 => 218 | 260 => 227 | 276 => 244 | 277 => 245 | 217 => 235 | 225 => 236 | 224 => 237 | 267 => 238 | 266 => 249 | 314 => 250 | n => n, fun | 9 => 9 | 3 => 3 | 4 => 4 | 72 => 242 | 0 => 0 | 76 => 246 | 105 => 248 | 21 => 21 | 5 => 5 | 70 => 240 | 20 => 20 | 37 => 204 | 75 => 245 | 127 => 261 | 164 => 273 | 46 => 263 | 119 => 276 | 139 => 279 | 138 => 278 | 146 => 280 | 51 => 270 | 80 => 213 | n => n, fun | 1 => 0 | 3 => 2 | 4 => 3 | n => n⟩
theorem Tryz.lays155 : Go.Proofs.Lays.n155 Tryz.prog Tryz.lays155_ren := {
  mixed := by kernel_rfl
  f138 := Tryz.func207.trans (congrArg some (by kernel_rfl))
  f143 := Tryz.func205.trans (congrArg some (by kernel_rfl))
  f154 := Tryz.func193.trans (congrArg some (by kernel_rfl))
  f155 := Tryz.func176.trans (congrArg some (by kernel_rfl))
  f165 := Tryz.func208.trans (congrArg some (by kernel_rfl))
  f166 := Tryz.func209.trans (congrArg some (by kernel_rfl))
  f169 := Tryz.func211.trans (congrArg some (by kernel_rfl))
  f195 := Tryz.func223.trans (congrArg some (by kernel_rfl))
  f197 := Tryz.func210.trans (congrArg some (by kernel_rfl))
  f217 := Tryz.func235.trans (congrArg some (by kernel_rfl))
  f218 := Tryz.func224.trans (congrArg some (by kernel_rfl))
  f219 := Tryz.func218.trans (congrArg some (by kernel_rfl))
  f224 := Tryz.func237.trans (congrArg some (by kernel_rfl))
  f225 := Tryz.func236.trans (congrArg some (by kernel_rfl))
  f240 := Tryz.func225.trans (congrArg some (by kernel_rfl))
  f241 := Tryz.func226.trans (congrArg some (by kernel_rfl))
  f260 := Tryz.func227.trans (congrArg some (by kernel_rfl))
  f266 := Tryz.func249.trans (congrArg some (by kernel_rfl))
  f267 := Tryz.func238.trans (congrArg some (by kernel_rfl))
  f276 := Tryz.func244.trans (congrArg some (by kernel_rfl))
  f277 := Tryz.func245.trans (congrArg some (by kernel_rfl))
  f314 := Tryz.func250.trans (congrArg some (by kernel_rfl))
  t0 := Tryz.underlying0
  a0 := Tryz.isAgg0
  z0 := Tryz.sizeOf0
  v0 := Tryz.zeroValue0
  t3 := Tryz.underlying3
  a3 := Tryz.isAgg3
  z3 := Tryz.sizeOf3
  v3 := Tryz.zeroValue3
  t4 := Tryz.underlying4
  a4 := Tryz.isAgg4
  z4 := Tryz.sizeOf4
  v4 := Tryz.zeroValue4
  t5 := Tryz.underlying5
  a5 := Tryz.isAgg5
  z5 := Tryz.sizeOf5
  v5 := Tryz.zeroValue5
  t9 := Tryz.underlying9
  a9 := Tryz.isAgg9
  z9 := Tryz.sizeOf9
  v9 := Tryz.zeroValue9
  t20 := Tryz.underlying20
  a20 := Tryz.isAgg20
  z20 := Tryz.sizeOf20
  v20 := Tryz.zeroValue20
  t21 := Tryz.underlying21
  a21 := Tryz.isAgg21
  z21 := Tryz.sizeOf21
  v21 := Tryz.zeroValue21
  t37 := Tryz.underlying204
  a37 := Tryz.isAgg204
  z37 := Tryz.sizeOf204
  v37 := Tryz.zeroValue204
  t46 := Tryz.underlying263
  a46 := Tryz.isAgg263
  z46 := Tryz.sizeOf263
  v46 := Tryz.zeroValue263
  t51 := Tryz.underlying270
  a51 := Tryz.isAgg270
  z51 := Tryz.sizeOf270
  v51 := Tryz.zeroValue270
  t70 := Tryz.underlying240
  a70 := Tryz.isAgg240
  z70 := Tryz.sizeOf240
  v70 := Tryz.zeroValue240
  t72 := Tryz.underlying242
  a72 := Tryz.isAgg242
  z72 := Tryz.sizeOf242
  v72 := Tryz.zeroValue242
  t75 := Tryz.underlying245
  a75 := Tryz.isAgg245
  z75 := Tryz.sizeOf245
  v75 := Tryz.zeroValue245
  t76 := Tryz.underlying246
  a76 := Tryz.isAgg246
  z76 := Tryz.sizeOf246
  v76 := Tryz.zeroValue246
  t105 := Tryz.underlying248
  a105 := Tryz.isAgg248
  z105 := Tryz.sizeOf248
  v105 := Tryz.zeroValue248
  t119 := Tryz.underlying276
  a119 := Tryz.isAgg276
  z119 := Tryz.sizeOf276
  t127 := Tryz.underlying261
  a127 := Tryz.isAgg261
  z127 := Tryz.sizeOf261
  v127 := Tryz.zeroValue261
  t138 := Tryz.underlying278
  a138 := Tryz.isAgg278
  z138 := Tryz.sizeOf278
  v138 := Tryz.zeroValue278
  t139 := Tryz.underlying279
  a139 := Tryz.isAgg279
  z139 := Tryz.sizeOf279
  v139 := Tryz.zeroValue279
  t146 := Tryz.underlying280
  a146 := Tryz.isAgg280
  z146 := Tryz.sizeOf280
  v146 := Tryz.zeroValue280
  t164 := Tryz.underlying273
  a164 := Tryz.isAgg273
  z164 := Tryz.sizeOf273
  v164 := Tryz.zeroValue273
  g1 := by kernel_rfl
  g3 := by kernel_rfl
  g4 := by kernel_rfl }
theorem Tryz.Builder_Extra_155 : Builder.Extra Tryz.prog Tryz.lays155_ren := {
  sizeBuilder := by kernel_rfl
  liesBuilder := by kernel_rfl
  t5 := Tryz.underlying5
  a5 := Tryz.isAgg5
  z5 := Tryz.sizeOf5
  v5 := Tryz.zeroValue5
  infoByte := by kernel_rfl
  cellsByte := by kernel_rfl
  sizeByte := by kernel_rfl
  neB5 := by decide }
open Go.RowKit Go.Lib in
theorem Tryz.strings_ReplaceAll (s old new : ByteArray) (m : Int) (w : World) (hs : s.size < 4294967281) (hm : w.cell? ⟨0, 0, none⟩ = some (.int .i64 m)) (h1 : 1 ≤ old.size) (hlen : s.size + Lib.countB s old * new.size ≤ 140737488355328) :
    Calls Tryz.prog 176 #[.string s, .string old, .string new] w fun e w' =>
      e = .returned (.string ⟨(Lib.replaceAll s.data.toList old.data.toList new.data.toList).toArray⟩) ∧ Below w.heap.size w w' := Any.strings_ReplaceAll Tryz.lays155 Tryz.Builder_Extra_155 s old new m w hs hm h1 hlen
def Tryz.lays264_ren : Go.Shelf.Ren := ⟨fun | 264 => 213 | n => n, fun | 53 => 232 | 46 => 263 | n => n, fun | n => n⟩
theorem Tryz.lays264 : Go.Proofs.Lays.n264 Tryz.prog Tryz.lays264_ren := {
  mixed := by kernel_rfl
  f264 := Tryz.func213.trans (congrArg some (by kernel_rfl))
  t46 := Tryz.underlying263
  a46 := Tryz.isAgg263
  z46 := Tryz.sizeOf263
  v46 := Tryz.zeroValue263
  t53 := Tryz.underlying232
  a53 := Tryz.isAgg232
  z53 := Tryz.sizeOf232
  v53 := Tryz.zeroValue232 }
open Go.RowKit Go.Lib in
theorem Tryz.bits_Mul64 (x y : Nat) (hx : x < 18446744073709551616) (hy : y < 18446744073709551616) (w : World) :
    Calls Tryz.prog 213 #[.int .u64 x, .int .u64 y] w fun e w' => e = .returned (.tuple #[.int .u64 ((x * y / 18446744073709551616 : Nat) : Int), .int .u64 ((x * y % 18446744073709551616 : Nat) : Int)]) ∧ w' = w := Any.bits_Mul64 Tryz.lays264 x y hx hy w
end Go.Proofs
namespace Go.Proofs.YtgnnjebfoffphaaGreatDoor.M
mutual
inductive Tm where
  | mk (c : Int) (ps : List Pt)
inductive Pt where
  | mk (coef kind var dv : Int) (of : List Tm)
end
@[reducible] def Tm.c : Tm → Int | .mk c _ => c
@[reducible] def Tm.ps : Tm → List Pt | .mk _ ps => ps
@[reducible] def Pt.coef : Pt → Int | .mk a _ _ _ _ => a
@[reducible] def Pt.kind : Pt → Int | .mk _ a _ _ _ => a
@[reducible] def Pt.var : Pt → Int | .mk _ _ a _ _ => a
@[reducible] def Pt.dv : Pt → Int | .mk _ _ _ a _ => a
@[reducible] def Pt.of : Pt → List Tm | .mk _ _ _ _ a => a
mutual
def Tm.dep : Tm → Nat
  | .mk _ ps => depPs ps + 1
def depPs : List Pt → Nat
  | [] => 0
  | p :: r => max p.dep (depPs r)
def Pt.dep : Pt → Nat
  | .mk _ _ _ _ of => depTs of
def depTs : List Tm → Nat
  | [] => 0
  | t :: r => max t.dep (depTs r)
end
mutual
def Tm.cnt : Tm → Nat
  | .mk _ ps => 1 + (ps.length + mxPs ps)
def mxPs : List Pt → Nat
  | [] => 0
  | p :: r => max p.cnt (mxPs r)
def Pt.cnt : Pt → Nat
  | .mk _ _ _ _ of => cntTs of
def cntTs : List Tm → Nat
  | [] => 0
  | t :: r => t.cnt + cntTs r
end
def cntPs (l : List Pt) : Nat := l.length + mxPs l
theorem mx_mem {l : List Pt} {p : Pt} (h : p ∈ l) : p.cnt ≤ mxPs l := by
  induction l with
  | nil => cases h
  | cons q r ih =>
    rw [mxPs]
    rcases jD.1 h with rfl | h
    · omega
    · have := ih h; omega
theorem mx_le {l : List Pt} {n : Nat} (h : ∀ p ∈ l, p.cnt ≤ n) : mxPs l ≤ n := by
  induction l with
  | nil => rw [mxPs]; omega
  | cons q r ih =>
    rw [mxPs]
    have h1 := h q (by simp)
    have h2 := ih fun p hp => h p (by simp [hp])
    omega
theorem mem_dep {o : Tm} : ∀ {l : List Tm}, o ∈ l → o.dep ≤ depTs l
  | t :: r, h => by
    rcases jD.1 h with rfl | h
    · simp only [depTs]; omega
    · have := mem_dep h; simp only [depTs]; omega
theorem mem_depP {p : Pt} : ∀ {l : List Pt}, p ∈ l → p.dep ≤ depPs l
  | t :: r, h => by
    rcases jD.1 h with rfl | h
    · simp only [depPs]; omega
    · have := mem_depP h; simp only [depPs]; omega
theorem dep_of {t : Tm} {p : Pt} {o : Tm} (hp : p ∈ t.ps) (ho : o ∈ p.of) : o.dep < t.dep := by
  cases t with | mk c ps => cases p with | mk a k v b of =>
  have h1 := mem_depP hp
  have h2 := mem_dep ho
  simp only [Tm.dep, Pt.dep, Tm.ps, Pt.of] at *
  omega
theorem Tm.ind {motive : Tm → Prop} (h : ∀ t, (∀ p ∈ t.ps, ∀ o ∈ p.of, motive o) → motive t) (t : Tm) : motive t := by
  have key : ∀ n (t : Tm), t.dep < n → motive t := by
    intro n
    induction n with
    | zero => intro t ht; omega
    | succ n ih => intro t ht; exact h t fun p hp o ho => ih o (by have := dep_of hp ho; omega)
  exact key _ t (Nat.lt_succ_self _)
mutual
def bndT : Tm → Nat
  | .mk c ps => c.natAbs + bndPs ps
def bndPs : List Pt → Nat
  | [] => 0
  | p :: r => p.coef.natAbs * bndP p + bndPs r
def bndP : Pt → Nat
  | .mk _ k _ b of => if k = 1 then 16 else if k = 2 then bndO of / b.toNat + 1 else 2 ^ 31
def bndO : List Tm → Nat
  | [] => 0
  | t :: _ => bndT t
end
theorem Tm.cnt_eq (t : Tm) : t.cnt = 1 + cntPs t.ps := by cases t; rfl
theorem Pt.cnt_eq (p : Pt) : p.cnt = cntTs p.of := by cases p; rfl
theorem bndT_eq (t : Tm) : bndT t = t.c.natAbs + bndPs t.ps := by cases t; rfl
theorem bndP_eq (p : Pt) : bndP p = if p.kind = 1 then 16 else if p.kind = 2 then bndO p.of / p.dv.toNat + 1 else 2 ^ 31 := by cases p; rfl
theorem bndPs_app {a b : List Pt} : bndPs (a ++ b) = bndPs a + bndPs b := by
  induction a with
  | nil => simp [bndPs]
  | cons p r ih => simp only [List.cons_append, bndPs, ih]; omega
theorem bndPs_take {l : List Pt} {i : Nat} (h : i < l.length) : bndPs (l.take (i + 1)) = bndPs (l.take i) + l[i].coef.natAbs * bndP l[i] := by
  rw [qJ h, bndPs_app]; simp only [bndPs]; omega
def smallB (t : Tm) : Bool := decide (t.c.natAbs ≤ 2 ^ 40) && t.ps.all (fun p => decide (p.coef.natAbs ≤ 2 ^ 20)) && decide (bndT t ≤ 2 ^ 60)
def ints (a b : Int) : Int := if a < b then -1 else if b < a then 1 else 0
mutual
def cmpT : Tm → Tm → Int
  | .mk c ps, b => cmpL ps b.ps (ints c b.c)
def cmpL : List Pt → List Pt → Int → Int
  | [], [], e => e
  | [], _ :: _, _ => -1
  | _ :: _, [], _ => 1
  | p :: r, q :: s, e => if cmpP p q ≠ 0 then cmpP p q else if p.coef ≠ q.coef then ints p.coef q.coef else cmpL r s e
def cmpP : Pt → Pt → Int
  | .mk _ k v b of, q => if k ≠ q.kind then ints k q.kind else if v ≠ q.var then ints v q.var else if b ≠ q.dv then ints b q.dv else cmpO of q.of
def cmpO : List Tm → List Tm → Int
  | [], [] => 0
  | [], _ :: _ => -1
  | _ :: _, [] => 1
  | o :: _, o' :: _ => cmpT o o'
end
theorem cmpT_eq (a b : Tm) : cmpT a b = cmpL a.ps b.ps (ints a.c b.c) := by cases a; rw [cmpT]
theorem cmpP_eq (p q : Pt) : cmpP p q = if p.kind ≠ q.kind then ints p.kind q.kind else if p.var ≠ q.var then ints p.var q.var else if p.dv ≠ q.dv then ints p.dv q.dv else cmpO p.of q.of := by cases p; rw [cmpP]
def ascB : List Pt → Bool
  | p :: q :: r => decide (cmpP p q < 0) && ascB (q :: r)
  | _ => true
mutual
def vldT : Tm → Bool
  | .mk c ps => vldPs ps && ascB ps && smallB (.mk c ps)
def vldPs : List Pt → Bool
  | [] => true
  | p :: r => vldP p && vldPs r
def vldP : Pt → Bool
  | .mk a k v b of => decide (a ≠ 0) && if k = 0 ∨ k = 1 then decide (0 ≤ v) && decide (b = 0) && of.isEmpty else decide (k = 2) && decide (v = 0) && decide (2 ≤ b) && decide (b ≤ 1000) && vldO of
def vldO : List Tm → Bool
  | [t] => !t.ps.isEmpty && vldT t
  | _ => false
end
theorem vldT_eq (t : Tm) : vldT t = (vldPs t.ps && ascB t.ps && smallB t) := by cases t; rfl
theorem vldP_eq (p : Pt) : vldP p = (decide (p.coef ≠ 0) && if p.kind = 0 ∨ p.kind = 1 then decide (0 ≤ p.var) && decide (p.dv = 0) && p.of.isEmpty else decide (p.kind = 2) && decide (p.var = 0) && decide (2 ≤ p.dv) && decide (p.dv ≤ 1000) && vldO p.of) := by cases p; rfl
theorem vldPs_iff {l : List Pt} : vldPs l = true ↔ ∀ p ∈ l, vldP p = true := by
  induction l with
  | nil => simp [vldPs]
  | cons p r ih => simp [vldPs, ih]
mutual
def finT : Tm → Prop
  | .mk _ ps => finPs ps
def finPs : List Pt → Prop
  | [] => True
  | p :: r => finP p ∧ finPs r
def finP : Pt → Prop
  | .mk _ k _ _ of => (of = [] ↔ k ≠ 2) ∧ finTs of
def finTs : List Tm → Prop
  | [] => True
  | t :: r => finT t ∧ finTs r
end
theorem cntPs_mem {l : List Pt} {p : Pt} (h : p ∈ l) : 1 + p.cnt ≤ cntPs l := by
  have h1 := mx_mem h
  have h2 := List.length_pos_of_mem h
  unfold cntPs; omega
theorem cntTs_mem {l : List Tm} {p : Tm} (h : p ∈ l) : p.cnt ≤ cntTs l := by
  induction l with
  | nil => cases h
  | cons q r ih =>
    simp only [cntTs]
    rcases jD.1 h with rfl | h
    · omega
    · have := ih h; omega
theorem Tm.cnt_pos (t : Tm) : 1 ≤ t.cnt := by rw [Tm.cnt_eq]; omega
theorem cntPs_len (l : List Pt) : l.length ≤ cntPs l := by unfold cntPs; omega
theorem cnt_of {t : Tm} {p : Pt} {o : Tm} (hp : p ∈ t.ps) (ho : o ∈ p.of) : o.cnt < t.cnt := by
  have h1 := cntPs_mem hp
  have h2 := cntTs_mem ho
  rw [Pt.cnt_eq] at h1
  rw [Tm.cnt_eq t]; omega
theorem len_ps (t : Tm) : t.ps.length < t.cnt := by rw [Tm.cnt_eq]; have := cntPs_len t.ps; omega
theorem ints_zero {a b : Int} : ints a b = 0 ↔ a = b := by unfold ints; split <;> (try split) <;> omega
theorem cmpL_step {a b : List Pt} {i : Nat} {e : Int} (ha : i < a.length) (hb : i < b.length) : cmpL (a.drop i) (b.drop i) e = if cmpP a[i] b[i] ≠ 0 then cmpP a[i] b[i] else if a[i].coef ≠ b[i].coef then ints a[i].coef b[i].coef else cmpL (a.drop (i + 1)) (b.drop (i + 1)) e := by
  rw [qH ha, qH hb, cmpL]
theorem cmpL_end {a b : List Pt} {i : Nat} {e : Int} (ha : i ≤ a.length) (hb : i ≤ b.length) (h : i = a.length ∨ i = b.length) : cmpL (a.drop i) (b.drop i) e = if (a.length : Int) ≠ b.length then ints a.length b.length else e := by
  rcases Nat.lt_trichotomy a.length b.length with hl | hl | hl
  · have hi : i = a.length := by omega
    subst hi
    rw [List.drop_length, qH (by omega), cmpL, if_pos (by omega)]
    unfold ints; rw [if_pos (by omega)]
  · have hi : i = a.length := by omega
    subst hi
    rw [List.drop_length, hl, List.drop_length, cmpL, if_neg (by omega)]
  · have hi : i = b.length := by omega
    subst hi
    rw [List.drop_length, qH (by omega), cmpL, if_pos (by omega)]
    unfold ints; rw [if_neg (by omega), if_pos (by omega)]
def cap (n : Nat) : Nat := min n (2 ^ 60 + 1)
def bokP (p : Pt) : Prop := p.kind = 2 → (1 ≤ p.dv ∧ p.dv ≤ 1000) ∧ ∃ h : 0 < p.of.length, vldT p.of[0] = true
theorem vldP_bok {p : Pt} (h : vldP p = true) : bokP p := by
  intro hk
  rw [vldP_eq, if_neg (by omega)] at h
  simp only [jG, decide_eq_true_eq] at h
  obtain ⟨_, ⟨⟨_, h1⟩, h2⟩, h3⟩ := h
  refine ⟨⟨by omega, by omega⟩, ?_⟩
  cases ho : p.of with
  | nil => rw [ho] at h3; simp [vldO] at h3
  | cons o r =>
    cases r with
    | cons o2 r2 => rw [ho] at h3; simp [vldO] at h3
    | nil =>
      rw [ho] at h3
      simp only [vldO, jG] at h3
      exact ⟨by simp, h3.2⟩
structure bokT (t : Tm) : Prop where
  c : -9223372036854775808 ≤ t.c ∧ t.c ≤ 9223372036854775807
  coef : ∀ p ∈ t.ps, -9223372036854775808 ≤ p.coef ∧ p.coef ≤ 9223372036854775807
  part : ∀ p ∈ t.ps, bokP p
theorem vldT_small {t : Tm} (h : vldT t = true) : smallB t = true := by rw [vldT_eq] at h; simp only [jG] at h; exact h.2
theorem smallB_iff {t : Tm} : smallB t = true ↔ t.c.natAbs ≤ 2 ^ 40 ∧ (∀ p ∈ t.ps, p.coef.natAbs ≤ 2 ^ 20) ∧ bndT t ≤ 2 ^ 60 := by
  unfold smallB; simp [List.all_eq_true, and_assoc]
theorem vldT_bok {t : Tm} (h : vldT t = true) : bokT t := by
  have h1 := smallB_iff.1 (vldT_small h)
  rw [vldT_eq] at h
  simp only [jG] at h
  exact ⟨by omega, fun p hp => by have := h1.2.1 p hp; omega, fun p hp => vldP_bok (vldPs_iff.1 h.1.1 p hp)⟩
theorem bndO_eq {l : List Tm} (h : 0 < l.length) : bndO l = bndT l[0] := by
  cases l with
  | nil => simp at h
  | cons o r => rfl
theorem bokP_bnd {p : Pt} (h : bokP p) (hk : p.kind = 2) : ∃ h : 0 < p.of.length, bndT p.of[0] ≤ 2 ^ 60 ∧ bndP p = bndT p.of[0] / p.dv.toNat + 1 := by
  obtain ⟨_, h1, h2⟩ := h hk
  exact ⟨h1, (smallB_iff.1 (vldT_small h2)).2.2, by rw [bndP_eq, if_neg (by omega), if_pos hk, bndO_eq h1]⟩
theorem bokP_le {p : Pt} (h : bokP p) : bndP p ≤ 2 ^ 60 + 1 := by
  by_cases hk : p.kind = 2
  · obtain ⟨_, h1, h2⟩ := bokP_bnd h hk
    have := Nat.div_le_self (bndT p.of[0]) p.dv.toNat
    omega
  · rw [bndP_eq]; split <;> (try rw [if_neg hk]) <;> omega
abbrev Rg (n : Int) : Prop := -9223372036854775808 ≤ n ∧ n ≤ 9223372036854775807
mutual
def rgT : Tm → Prop
  | .mk c ps => (Rg c ∧ ps.length ≤ 2 ^ 60) ∧ rgPs ps
def rgPs : List Pt → Prop
  | [] => True
  | p :: r => rgP p ∧ rgPs r
def rgP : Pt → Prop
  | .mk a k v b of => Rg a ∧ Rg k ∧ Rg v ∧ (Rg b ∧ of.length ≤ 2 ^ 60) ∧ rgTs of
def rgTs : List Tm → Prop
  | [] => True
  | t :: r => rgT t ∧ rgTs r
end
structure RV where
  k : Int
  n : Int
  s : ByteArray
def lex (a b : Int) : Int := if a ≠ 0 then a else b
theorem lex_neg (a b : Int) : lex (-a) (-b) = -lex a b := by unfold lex; split <;> split <;> omega
theorem ints_neg (a b : Int) : ints b a = -ints a b := by unfold ints; split <;> split <;> (try split) <;> omega
structure C3 (a b c : Int) : Prop where
  le : a ≤ 0 → b ≤ 0 → c ≤ 0
  ge : 0 ≤ a → 0 ≤ b → 0 ≤ c
  lt : a < 0 → b ≤ 0 → c < 0
  tl : a ≤ 0 → b < 0 → c < 0
  gt : 0 < a → 0 ≤ b → 0 < c
  tg : 0 ≤ a → 0 < b → 0 < c
theorem C3.lex {a b c a' b' c' : Int} (h : C3 a b c) (h' : C3 a' b' c') : C3 (M.lex a a') (M.lex b b') (M.lex c c') := by
  obtain ⟨h1, h2, h3, h4, h5, h6⟩ := h
  obtain ⟨k1, k2, k3, k4, k5, k6⟩ := h'
  unfold M.lex
  constructor <;> (split <;> split <;> split <;> omega)
theorem C3.ints (a b c : Int) : C3 (M.ints a b) (M.ints b c) (M.ints a c) := by
  unfold M.ints
  constructor <;> (split <;> (try split) <;> (try split) <;> (try split) <;> (try split) <;> (try split) <;> omega)
theorem cmpP_lex (p q : Pt) : cmpP p q = lex (ints p.kind q.kind) (lex (ints p.var q.var) (lex (ints p.dv q.dv) (cmpO p.of q.of))) := by
  rw [cmpP_eq]
  unfold lex
  by_cases h1 : p.kind = q.kind
  · by_cases h2 : p.var = q.var
    · by_cases h3 : p.dv = q.dv
      · simp [h1, h2, h3, ints_zero.2]
      · have := mt ints_zero.1 h3
        simp [h1, h2, h3, ints_zero.2, this]
    · have := mt ints_zero.1 h2
      simp [h1, h2, ints_zero.2, this]
  · have := mt ints_zero.1 h1
    simp [h1, this]
theorem cmpL_lex (p q : Pt) (r s : List Pt) (e : Int) : cmpL (p :: r) (q :: s) e = lex (cmpP p q) (lex (ints p.coef q.coef) (cmpL r s e)) := by
  rw [cmpL]
  unfold lex
  by_cases h2 : p.coef = q.coef
  · simp [h2, ints_zero.2]
  · have := mt ints_zero.1 h2
    simp [h2, this]
theorem cmpL_neg {l m : List Pt} (h : ∀ p ∈ l, ∀ q, cmpP q p = -cmpP p q) (e : Int) : cmpL m l (-e) = -cmpL l m e := by
  induction l generalizing m with
  | nil => cases m with
    | nil => rw [cmpL, cmpL]
    | cons q s => rw [cmpL, cmpL]; rfl
  | cons p r ih => cases m with
    | nil => rw [cmpL, cmpL]
    | cons q s => rw [cmpL_lex, cmpL_lex, h p (by simp), ints_neg p.coef, ih (fun x hx => h x (by simp [hx])), lex_neg, lex_neg]
theorem cmpO_neg {l m : List Tm} (h : ∀ o ∈ l, ∀ b, cmpT b o = -cmpT o b) : cmpO m l = -cmpO l m := by
  cases l with
  | nil => cases m with
    | nil => rw [cmpO]; rfl
    | cons q s => rw [cmpO, cmpO]; rfl
  | cons p r => cases m with
    | nil => rw [cmpO, cmpO]
    | cons q s => rw [cmpO, cmpO]; exact h p (by simp) q
theorem cmpT_neg (a : Tm) : ∀ b, cmpT b a = -cmpT a b := by
  induction a using Tm.ind with
  | h a ih =>
    intro b
    rw [cmpT_eq, cmpT_eq, ints_neg a.c b.c]
    refine cmpL_neg (fun p hp q => ?_) _
    rw [cmpP_lex, cmpP_lex, ints_neg p.kind, ints_neg p.var, ints_neg p.dv, cmpO_neg (fun o ho b => ih p hp o ho b), lex_neg, lex_neg, lex_neg]
theorem cmpL_C {l : List Pt} (h : ∀ p ∈ l, ∀ q u, C3 (cmpP p q) (cmpP q u) (cmpP p u)) {m n : List Pt} {e f g : Int} (he : C3 e f g) : C3 (cmpL l m e) (cmpL m n f) (cmpL l n g) := by
  induction l generalizing m n with
  | nil =>
    cases m with
    | nil =>
      cases n with
      | nil => rw [cmpL, cmpL, cmpL]; exact he
      | cons u w => rw [cmpL, cmpL, cmpL]; constructor <;> omega
    | cons q s =>
      cases n with
      | nil => rw [cmpL, cmpL, cmpL]; constructor <;> omega
      | cons u w => rw [cmpL, cmpL]; constructor <;> omega
  | cons p r ih =>
    cases m with
    | nil =>
      cases n with
      | nil => rw [cmpL, cmpL, cmpL]; constructor <;> omega
      | cons u w => rw [cmpL, cmpL]; constructor <;> omega
    | cons q s =>
      cases n with
      | nil => rw [cmpL_lex, cmpL, cmpL]; constructor <;> omega
      | cons u w =>
        rw [cmpL_lex, cmpL_lex, cmpL_lex]
        exact (h p (by simp) q u).lex ((C3.ints _ _ _).lex (ih fun x hx => h x (by simp [hx])))
theorem cmpO_C {l m n : List Tm} (h : ∀ o ∈ l, ∀ b c, C3 (cmpT o b) (cmpT b c) (cmpT o c)) : C3 (cmpO l m) (cmpO m n) (cmpO l n) := by
  cases l with
  | nil =>
    cases m with
    | nil =>
      cases n with
      | nil => rw [cmpO]; constructor <;> omega
      | cons u w => rw [cmpO, cmpO]; constructor <;> omega
    | cons q s =>
      cases n with
      | nil => rw [cmpO, cmpO, cmpO]; constructor <;> omega
      | cons u w => rw [cmpO, cmpO, cmpO]; constructor <;> omega
  | cons p r =>
    cases m with
    | nil =>
      cases n with
      | nil => rw [cmpO, cmpO]; constructor <;> omega
      | cons u w => rw [cmpO, cmpO, cmpO]; constructor <;> omega
    | cons q s =>
      cases n with
      | nil => rw [cmpO, cmpO, cmpO]; constructor <;> omega
      | cons u w => rw [cmpO, cmpO, cmpO]; exact h p (by simp) q u
theorem cmpT_C (a : Tm) : ∀ b c, C3 (cmpT a b) (cmpT b c) (cmpT a c) := by
  induction a using Tm.ind with
  | h a ih =>
    intro b c
    rw [cmpT_eq, cmpT_eq, cmpT_eq]
    refine cmpL_C (fun p hp q u => ?_) (C3.ints _ _ _)
    rw [cmpP_lex, cmpP_lex, cmpP_lex]
    exact (C3.ints _ _ _).lex ((C3.ints _ _ _).lex ((C3.ints _ _ _).lex (cmpO_C fun o ho b c => ih p hp o ho b c)))
end Go.Proofs.YtgnnjebfoffphaaGreatDoor.M
namespace Go.Proofs.YtgnnjebfoffphaaGreatDoor.E
open Go.RowKit
section
variable {P : Program} {all : Array Oper} {o : Oper} {K : S → Prop} {rest : List Oper} {n d : Nat} {t : Nat → X} {L : Nat → Option AO} {H : Heap} {cd : Code} {Q : Exit → S → Prop} {s : S}
theorem sM {y : Operand} {z : C} (k : SeqK P all K rest ⟨n, upd t d (.c z), L, H⟩) (ho : o.op = .move y := by exact rfl) (hy : S.eval ⟨n, t, L, H⟩ y = .c z := by exact rfl) (hg : o.guard = none := by exact rfl) (hdst : o.dst = some d := by exact rfl) (hd : Nat.blt d n = true := by exact rfl) : SeqK P all K (o :: rest) ⟨n, t, L, H⟩ := SeqK.q (q_mvC ho hy) hg hdst hd k
theorem sA {y : Operand} {z : C} (k : SeqK P all K rest ⟨n, upd t d (.c z), L, H⟩) (ho : o.op = .assign y := by exact rfl) (hy : S.eval ⟨n, t, L, H⟩ y = .c z := by exact rfl) (hg : o.guard = none := by exact rfl) (hdst : o.dst = some d := by exact rfl) (hd : Nat.blt d n = true := by exact rfl) : SeqK P all K (o :: rest) ⟨n, t, L, H⟩ := SeqK.q (q_asC ho hy) hg hdst hd k
theorem sR {id : Nat} {l : List Oper} (h : SeqK P l.toArray ((Eth (AW P cd Q) Q) .normal) l s) : AW P (.seq (.region id l.toArray false) cd) Q s := AW.seq (AW.reg h)
end
section
variable {P : Program} {Q : X → Heap → Prop} {all : Array Oper} {K : S → Prop} {o : Oper} {n d : Nat} {t : Nat → X} {L : Nat → Option AO} {H : Heap}
theorem sB {y : Operand} {z : C} (k : K ⟨n, upd t d (.c z), L, H⟩) (ho : o.op = .assign y := by exact rfl) (hy : S.eval ⟨n, t, L, H⟩ y = .c z := by exact rfl) (hg : o.guard = none := by exact rfl) (hdst : o.dst = some d := by exact rfl) (hd : Nat.blt d n = true := by exact rfl) : SeqK P all K [o] ⟨n, t, L, H⟩ := sA (SeqK.nil k) ho hy hg hdst hd
theorem f1 {s : S} {fn : Func} {z : C} (h : Res P s fn.results.toList [z] := by exact .tmp rfl .nil) (q : Q (.c z) s.H) : Fin P fn Q .ret s := fin_x (x := .c _) s.H h rfl (fun _ _ h => h) q
theorem f2 {s : S} {fn : Func} {z w : C} (h : Res P s fn.results.toList [z, w]) (q : Q (.tup [z, w]) s.H) : Fin P fn Q .ret s := fin_x (x := .tup [_, _]) s.H h rfl (fun _ _ h => h) q
theorem cD {P : Program} {Q : Exit → S → Prop} {s : S} {cnd : Operand} {x y : Code} {p : Prop} [Decidable p] (ht : p → AW P x Q s) (hf : ¬ p → AW P y Q s) (hv : s.eval cnd = .c (.a (.t (.v (.bool (decide p))))) := by exact rfl) : AW P (.cond cnd x y) Q s := AW.condD hv ht hf
theorem relOn {P : Program} {all : Array Oper} {K : S → Prop} {o : Oper} {rest : List Oper} {n d : Nat} {t : Nat → X} {L : Nat → Option AO} {H : Heap} {f : FuncId} {ys : Array Operand} {ts : Array TypeId} {args : List C} {j i : Nat} {g : Bool} {p : Prop} (hf : fnB P f = true) (h : Spec P f args H fun x H' => ∃ b : Bool, x = .c (.a (.t (.v (.bool b)))) ∧ (b = true → p) ∧ H' = H) (k : ∀ b : Bool, (b = true → p) → SeqK P all K rest ⟨n, upd t d (.c (.a (.t (.v (.bool b))))), L, H⟩) (ho : o.op = .call { callee := .value (.func f), args := ys, argTypes := ts } := by exact rfl) (hg : o.guard = some (j, g) := by exact rfl) (hj : (all[j]?).bind (·.dst) = some i := by exact rfl) (hb : t i = tv (.bool g) := by exact rfl) (hdst : o.dst = some d := by exact rfl) (hd : Nat.blt d n = true := by exact rfl) (ha : argsX ⟨n, t, L, H⟩ ys.toList = some args := by exact rfl) : SeqK P all K (o :: rest) ⟨n, t, L, H⟩ :=
  SeqK.callOn ho hg hj hb hdst hd hf ha h (fun _ _ h => by obtain ⟨b, hb, _⟩ := h; rw [hb]; rfl) fun x H' q => by
    obtain ⟨b, rfl, q, hH⟩ := q
    subst hH
    exact k b q
theorem aR {P : Program} {Q : Exit → S → Prop} {s : S} (h : Q .ret s) : AW P .ret Q s := AW.ret h
theorem oF {rest : List Oper} {j i : Nat} {b b' : Bool} (k : SeqK P all K rest ⟨n, upd t d (.tup []), L, H⟩) (hg : o.guard = some (j, b) := by exact rfl) (hj : (all[j]?).bind (·.dst) = some i := by exact rfl) (hb : t i = tv (.bool b') := by exact rfl) (hne : (b' == b) = false := by exact rfl) (hdst : o.dst = some d := by exact rfl) (hd : Nat.blt d n = true := by exact rfl) : SeqK P all K (o :: rest) ⟨n, t, L, H⟩ := SeqK.off hg hj hb hne hdst hd k
theorem oU {rest : List Oper} {j i : Nat} {b : Bool} (k : SeqK P all K rest ⟨n, upd t d (.tup []), L, H⟩) (hg : o.guard = some (j, b) := by exact rfl) (hj : (all[j]?).bind (·.dst) = some i := by exact rfl) (hb : t i = .tup [] := by exact rfl) (hdst : o.dst = some d := by exact rfl) (hd : Nat.blt d n = true := by exact rfl) : SeqK P all K (o :: rest) ⟨n, t, L, H⟩ := SeqK.offU hg hj hb hdst hd k
end
section
variable {v0 : Program} {v1 : Array Oper} {v2 : Oper} {v3 : S → Prop} {v4 : List Oper} {v5 v6 v10 v15 v16 v18 v19 v30 v31 v49 : Nat} {v7 : Nat → X} {v8 : Nat → Option AO} {v9 : Heap} {v11 : A} {v12 v22 : TypeId} {v13 v23 v29 : Operand} {v14 v28 : Bool} {v17 : List A} {v20 : IntKind} {v21 v24 v25 : Int} {v26 : S} {v27 : C} {v32 v46 : List T} {v33 : Nz} {v34 : List (List T)} {v35 : Array (Nat × Operand)} {v36 : Value} {v37 : List (Nat × List A)} {v38 : X} {v39 : FuncId} {v40 : Array Operand} {v41 : Array TypeId} {v42 : List C} {v43 : List Fp} {v44 : Prop} {v45 : Sort _} {v47 : UInt8} {v48 : ByteArray}
theorem Z0 (a2 : tyB v0 v12 v14 v15 = true) (k10 : SeqK v0 v1 v3 v4 (S.mk v6 (upd v7 v10 (X.c (C.a v11))) v8 v9)) (h1 : v2.op = Op.load v12 v13 := by exact rfl) (h3 : (S.mk v6 v7 v8 v9).eval v13 = X.lp v5 v16 := by exact rfl) (h4 : v8 v5 = some (AO.box v17) := by exact rfl) (h5 : mkC v14 (List.take v15 (List.drop v16 v17)) = C.a v11 := by exact rfl) (h6 : (v16 + v15).ble v17.length = true := by exact rfl) (h7 : v2.dst = some v10 := by exact rfl) (h8 : v10.blt v6 = true := by exact rfl) (h9 : v2.guard = none := by exact rfl) : SeqK v0 v1 v3 (v2 :: v4) (S.mk v6 v7 v8 v9) := SeqK.r (b_load (r := .a _) h1 a2 h3 h4 h5 h6 h7 h8) h9 k10
theorem Z1 (a2 : fldB v0 v12 v16 v18 = true) (k8 : SeqK v0 v1 v3 v4 (S.mk v5 (upd v7 v6 (X.lp v10 v15)) v8 v9)) (h1 : v2.op = Op.fieldAddr v12 v13 v16 := by exact rfl) (h3 : (S.mk v5 v7 v8 v9).eval v13 = X.lp v10 v19 := by exact rfl) (h4 : v19 + v18 = v15 := by exact rfl) (h5 : v2.guard = none := by exact rfl) (h6 : v2.dst = some v6 := by exact rfl) (h7 : v6.blt v5 = true := by exact rfl) : SeqK v0 v1 v3 (v2 :: v4) (S.mk v5 v7 v8 v9) := SeqK.q (q_fieldL _ h1 a2 h3 h4) h5 h6 h7 k8
theorem Z2 (k8 : SeqK v0 v1 v3 v4 (S.mk v5 (upd v7 v6 (iX v20 v21)) v8 v9)) (h1 : v2.op = Op.binOp BinOp.add v12 v13 v23 v22 := by exact rfl) (h2 : (S.mk v5 v7 v8 v9).eval v13 = iX v20 v24 := by exact rfl) (h3 : (S.mk v5 v7 v8 v9).eval v23 = iX v20 v25 := by exact rfl) (h4 : v20.wrap (v24 + v25) = v21 := by exact w64 (by omega) (by omega)) (h5 : v2.guard = none := by exact rfl) (h6 : v2.dst = some v6 := by exact rfl) (h7 : v6.blt v5 = true := by exact rfl) : SeqK v0 v1 v3 (v2 :: v4) (S.mk v5 v7 v8 v9) := SeqK.q (q_add _ h1 h2 h3 h4) h5 h6 h7 k8
theorem Z3 (k1 : v3 v26) : SeqK v0 v1 v3 [] v26 := SeqK.nil k1
theorem Z4 {r : List A} (a4 : tyB v0 v12 v14 v10 = true) (k12 : SeqK v0 v1 v3 v4 (S.mk v6 v7 (upd v8 v5 (some (AO.box r))) v9)) (h2 : v2.op = Op.store v12 v13 v23 := by exact rfl) (h3 : v2.dst = none := by exact rfl) (h5 : (S.mk v6 v7 v8 v9).eval v13 = X.lp v5 v15 := by exact rfl) (h6 : (S.mk v6 v7 v8 v9).eval v23 = X.c v27 := by exact rfl) (h7 : v8 v5 = some (AO.box v17) := by exact rfl) (h8 : splice v17 v15 v27.cells = r := by exact rfl) (h9 : v27.cells.length = v10 := by exact rfl) (h10 : (v15 + v10).ble v17.length = true := by exact rfl) (h11 : v2.guard = none := by exact rfl) : SeqK v0 v1 v3 (v2 :: v4) (S.mk v6 v7 v8 v9) := SeqK.r (b_store (r := r) h2 h3 a4 h5 h6 h7 h8 h9 h10) h11 k12
theorem Z5 (a2 : tyB v0 v12 v28 v18 = true) (k12 : SeqK v0 v1 v3 v4 (S.mk v6 (upd v7 v10 (X.c (C.a v11))) v8 v9)) (h1 : v2.op = Op.load v12 v13 := by exact rfl) (h3 : (S.mk v6 v7 v8 v9).eval v13 = X.lp v5 v19 := by exact rfl) (h4 : v8 v5 = some (AO.box v17) := by exact rfl) (h5 : mkC v28 (List.take v18 (List.drop v19 v17)) = C.a v11 := by exact rfl) (h6 : (v19 + v18).ble v17.length = true := by exact rfl) (h7 : v2.dst = some v10 := by exact rfl) (h8 : v10.blt v6 = true := by exact rfl) (h9 : v2.guard = some (v15, v14) := by exact rfl) (h10 : (v1[v15]?.bind fun x ↦ x.dst) = some v16 := by exact rfl) (h11 : v7 v16 = tv (Value.bool v14) := by exact rfl) : SeqK v0 v1 v3 (v2 :: v4) (S.mk v6 v7 v8 v9) := SeqK.rOn (b_load (r := .a _) h1 a2 h3 h4 h5 h6 h7 h8) h9 h10 h11 k12
theorem Z6 (k7 : SeqK v0 v1 v3 v4 (S.mk v5 (upd v7 v6 (X.c v27)) v8 v9)) (h1 : v2.op = Op.pick v13 v23 v29 := by exact rfl) (h2 : (S.mk v5 v7 v8 v9).eval v13 = bX false := by exact rfl) (h3 : (S.mk v5 v7 v8 v9).eval v29 = X.c v27 := by exact rfl) (h4 : v2.guard = none := by exact rfl) (h5 : v2.dst = some v6 := by exact rfl) (h6 : v6.blt v5 = true := by exact rfl) : SeqK v0 v1 v3 (v2 :: v4) (S.mk v5 v7 v8 v9) := SeqK.q (q_pkF h1 h2 h3) h4 h5 h6 k7
theorem Z7 (k7 : SeqK v0 v1 v3 v4 (S.mk v5 (upd v7 v6 (bX (decide (v21 = v24)))) v8 v9)) (h1 : v2.op = Op.binOp BinOp.eql v12 v13 v23 v22 := by exact rfl) (h2 : (S.mk v5 v7 v8 v9).eval v13 = iX v20 v21 := by exact rfl) (h3 : (S.mk v5 v7 v8 v9).eval v23 = iX v20 v24 := by exact rfl) (h4 : v2.guard = none := by exact rfl) (h5 : v2.dst = some v6 := by exact rfl) (h6 : v6.blt v5 = true := by exact rfl) : SeqK v0 v1 v3 (v2 :: v4) (S.mk v5 v7 v8 v9) := SeqK.q (q_eql h1 h2 h3) h4 h5 h6 k7
theorem Z8 (k7 : SeqK v0 v1 v3 v4 (S.mk v5 (upd v7 v6 (X.c v27)) v8 v9)) (h1 : v2.op = Op.pick v13 v23 v29 := by exact rfl) (h2 : (S.mk v5 v7 v8 v9).eval v13 = bX true := by exact rfl) (h3 : (S.mk v5 v7 v8 v9).eval v23 = X.c v27 := by exact rfl) (h4 : v2.guard = none := by exact rfl) (h5 : v2.dst = some v6 := by exact rfl) (h6 : v6.blt v5 = true := by exact rfl) : SeqK v0 v1 v3 (v2 :: v4) (S.mk v5 v7 v8 v9) := SeqK.q (q_pkT h1 h2 h3) h4 h5 h6 k7
theorem Z9 (a2 : fldB v0 v12 v19 v30 = true) (k10 : SeqK v0 v1 v3 v4 (S.mk v5 (upd v7 v6 (X.lp v10 v15)) v8 v9)) (h1 : v2.op = Op.fieldAddr v12 v13 v19 := by exact rfl) (h3 : (S.mk v5 v7 v8 v9).eval v13 = X.lp v10 v31 := by exact rfl) (h4 : v31 + v30 = v15 := by exact rfl) (h5 : v2.guard = some (v16, v14) := by exact rfl) (h6 : (v1[v16]?.bind fun x ↦ x.dst) = some v18 := by exact rfl) (h7 : v7 v18 = tv (Value.bool v14) := by exact rfl) (h8 : v2.dst = some v6 := by exact rfl) (h9 : v6.blt v5 = true := by exact rfl) : SeqK v0 v1 v3 (v2 :: v4) (S.mk v5 v7 v8 v9) := SeqK.on (q_fieldL _ h1 a2 h3 h4) h5 h6 h7 h8 h9 k10
theorem Z10 (a2 : slB v0 v12 v22 v10 = true) (a6 : v34[v21.toNat]? = some v32) (k10 : SeqK v0 v1 v3 v4 (S.mk v5 (upd v7 v6 (X.pc v32)) v8 v9)) (h1 : v2.op = Op.indexAddr v12 v13 v23 := by exact rfl) (h3 : (S.mk v5 v7 v8 v9).eval v13 = X.c (C.a (A.t (T.sl v33 v10 v34))) := by exact rfl) (h4 : (S.mk v5 v7 v8 v9).eval v23 = iX v20 v21 := by exact rfl) (h5 : 0 ≤ v21 := by omega) (h7 : v2.guard = none := by exact rfl) (h8 : v2.dst = some v6 := by exact rfl) (h9 : v6.blt v5 = true := by exact rfl) : SeqK v0 v1 v3 (v2 :: v4) (S.mk v5 v7 v8 v9) := SeqK.q (q_index _ h1 a2 h3 h4 h5 a6) h7 h8 h9 k10
theorem Z11 {r : C} (a3 : tyB v0 v12 v14 v15 = true) (k11 : SeqK v0 v1 v3 v4 (S.mk v6 (upd v7 v10 (X.c r)) v8 v9)) (h2 : v2.op = Op.load v12 v13 := by exact rfl) (h4 : (S.mk v6 v7 v8 v9).eval v13 = X.lp v5 v16 := by exact rfl) (h5 : v8 v5 = some (AO.box v17) := by exact rfl) (h6 : mkC v14 (List.take v15 (List.drop v16 v17)) = r := by exact rfl) (h7 : (v16 + v15).ble v17.length = true := by exact rfl) (h8 : v2.dst = some v10 := by exact rfl) (h9 : v10.blt v6 = true := by exact rfl) (h10 : v2.guard = none := by exact rfl) : SeqK v0 v1 v3 (v2 :: v4) (S.mk v6 v7 v8 v9) := SeqK.r (b_load (r := r) h2 a3 h4 h5 h6 h7 h8 h9) h10 k11
theorem Z12 (a1 : C) (a3 : tyB v0 v12 v14 v10 = true) (k10 : SeqK v0 v1 v3 v4 (S.mk v5 (upd v7 v6 (X.c a1)) v8 v9)) (h2 : v2.op = Op.load v12 v13 := by exact rfl) (h4 : (S.mk v5 v7 v8 v9).eval v13 = X.pc v32 := by exact rfl) (h5 : mkC v14 (List.map A.t (List.take v10 v32)) = a1 := by exact rfl) (h6 : v10.ble v32.length = true := by exact rfl) (h7 : v2.guard = none := by exact rfl) (h8 : v2.dst = some v6 := by exact rfl) (h9 : v6.blt v5 = true := by exact rfl) : SeqK v0 v1 v3 (v2 :: v4) (S.mk v5 v7 v8 v9) := SeqK.q (q_load a1 h2 a3 h4 h5 h6) h7 h8 h9 k10
theorem Z13 (a2 : v0.underlying v12 = some (TypeDesc.slice v22)) (k7 : SeqK v0 v1 v3 v4 (S.mk v5 (upd v7 v6 (iX IntKind.i64 ↑v34.length)) v8 v9)) (h1 : v2.op = Op.call { callee := Callee.builtin Builtin.len, args := #[v13], argTypes := #[v12] } := by exact rfl) (h3 : (S.mk v5 v7 v8 v9).eval v13 = X.c (C.a (A.t (T.sl v33 v10 v34))) := by exact rfl) (h4 : v2.guard = none := by exact rfl) (h5 : v2.dst = some v6 := by exact rfl) (h6 : v6.blt v5 = true := by exact rfl) : SeqK v0 v1 v3 (v2 :: v4) (S.mk v5 v7 v8 v9) := SeqK.q (q_len h1 a2 h3) h4 h5 h6 k7
theorem Z14 (k8 : SeqK v0 v1 v3 v4 (S.mk v5 (upd v7 v6 (X.c v27)) v8 v9)) (h1 : v2.op = Op.move v13 := by exact rfl) (h2 : (S.mk v5 v7 v8 v9).eval v13 = X.c v27 := by exact rfl) (h3 : v2.guard = some (v10, v14) := by exact rfl) (h4 : (v1[v10]?.bind fun x ↦ x.dst) = some v15 := by exact rfl) (h5 : v7 v15 = tv (Value.bool v14) := by exact rfl) (h6 : v2.dst = some v6 := by exact rfl) (h7 : v6.blt v5 = true := by exact rfl) : SeqK v0 v1 v3 (v2 :: v4) (S.mk v5 v7 v8 v9) := SeqK.on (q_mvC h1 h2) h3 h4 h5 h6 h7 k8
theorem Z15 {r : List A} {zs : List A} (a3 : List (Nat × Nat)) (a5 : zeroIs v0 v12 v36) (a7 : bplB v0 v12 a3 = true) (k15 : SeqK v0 v1 v3 v4 (S.mk v5 (upd v7 v6 (X.c (C.g r))) v8 v9)) (h4 : v2.op = Op.build v12 v35 := by exact rfl) (h6 : v36.cells.toList.all Value.oneCell' = true := by exact rfl) (h8 : partsX (S.mk v5 v7 v8 v9) v35.toList = some v37 := by exact rfl) (h9 : List.map litA v36.cells.toList = zs := by exact rfl) (h10 : contB a3 0 zs.length = true := by exact rfl) (h11 : buildA a3 0 zs v37 = some r := by exact rfl) (h12 : v2.guard = none := by exact rfl) (h13 : v2.dst = some v6 := by exact rfl) (h14 : v6.blt v5 = true := by exact rfl) : SeqK v0 v1 v3 (v2 :: v4) (S.mk v5 v7 v8 v9) := SeqK.q (q_build2 (zs := zs) (r := r) a3 _ h4 a5 h6 a7 h8 h9 h10 h11) h12 h13 h14 k15
theorem Z16 (a2 : fnB v0 v39 = true) (a4 : Pure v0 v39 v42 v38) (k9 : SeqK v0 v1 v3 v4 (S.mk v5 (upd v7 v6 v38) v8 v9)) (h1 : v2.op = Op.call { callee := Callee.value (Operand.func v39), args := v40, argTypes := v41 } := by exact rfl) (h3 : argsX (S.mk v5 v7 v8 v9) v40.toList = some v42 := by exact rfl) (h5 : v38.loc = none := by exact rfl) (h6 : v2.guard = none := by exact rfl) (h7 : v2.dst = some v6 := by exact rfl) (h8 : v6.blt v5 = true := by exact rfl) : SeqK v0 v1 v3 (v2 :: v4) (S.mk v5 v7 v8 v9) := SeqK.q (q_call _ h1 a2 h3 a4 h5) h6 h7 h8 k9
theorem Z17 (k7 : SeqK v0 v1 v3 v4 (S.mk v5 (upd v7 v6 (bX (decide (v21 < v24)))) v8 v9)) (h1 : v2.op = Op.binOp BinOp.lss v12 v13 v23 v22 := by exact rfl) (h2 : (S.mk v5 v7 v8 v9).eval v13 = iX v20 v21 := by exact rfl) (h3 : (S.mk v5 v7 v8 v9).eval v23 = iX v20 v24 := by exact rfl) (h4 : v2.guard = none := by exact rfl) (h5 : v2.dst = some v6 := by exact rfl) (h6 : v6.blt v5 = true := by exact rfl) : SeqK v0 v1 v3 (v2 :: v4) (S.mk v5 v7 v8 v9) := SeqK.q (q_lss h1 h2 h3) h4 h5 h6 k7
theorem Z18 (k7 : SeqK v0 v1 v3 v4 (S.mk v5 (upd v7 v6 (X.c v27)) v8 v9)) (h1 : v2.op = Op.extract v13 v10 := by exact rfl) (h2 : (S.mk v5 v7 v8 v9).eval v13 = X.tup v42 := by exact rfl) (h3 : v42[v10]? = some v27 := by exact rfl) (h4 : v2.guard = none := by exact rfl) (h5 : v2.dst = some v6 := by exact rfl) (h6 : v6.blt v5 = true := by exact rfl) : SeqK v0 v1 v3 (v2 :: v4) (S.mk v5 v7 v8 v9) := SeqK.q (q_extract _ h1 h2 h3) h4 h5 h6 k7
theorem Z19 (a2 : tyB v0 v12 v14 v16 = true) (k10 : LexK v0 v1 v3 v4 (S.mk v10 (upd v7 v15 (X.c (C.a v11))) v8 v9) v5 (v43 ++ [(Loc.b v6 :: lk v2, dstT v2)])) (h1 : v2.op = Op.load v12 v13 := by exact rfl) (h3 : (S.mk v10 v7 v8 v9).eval v13 = X.lp v6 v18 := by exact rfl) (h4 : v8 v6 = some (AO.box v17) := by exact rfl) (h5 : mkC v14 (List.take v16 (List.drop v18 v17)) = C.a v11 := by exact rfl) (h6 : (v18 + v16).ble v17.length = true := by exact rfl) (h7 : v2.dst = some v15 := by exact rfl) (h8 : v15.blt v10 = true := by exact rfl) (h9 : v2.guard = none := by exact rfl) : LexK v0 v1 v3 (v2 :: v4) (S.mk v10 v7 v8 v9) v5 v43 := LexK.r (b_load (r := .a _) h1 a2 h3 h4 h5 h6 h7 h8) h9 k10
theorem Z20 {r : List A} (k9 : SeqK v0 v1 v3 v4 (S.mk v6 (upd v7 v5 (X.lp v5 0)) (upd v8 v5 (some (AO.box r))) v9)) (h2 : v2.op = Op.box v12 v13 := by exact rfl) (h3 : v2.dst = some v5 := by exact rfl) (h4 : (S.mk v6 v7 v8 v9).eval v13 = X.c v27 := by exact rfl) (h5 : v27.cells = r := by exact rfl) (h6 : v8 v5 = none := by exact rfl) (h7 : v5.blt v6 = true := by exact rfl) (h8 : v2.guard = none := by exact rfl) : SeqK v0 v1 v3 (v2 :: v4) (S.mk v6 v7 v8 v9) := SeqK.r (b_box (r := r) h2 h3 h4 h5 h6 h7) h8 k9
theorem Z21 (a2 : elB v0 v12 v22 v10 v16 = true) (k9 : SeqK v0 v1 v3 v4 (S.mk v5 (upd v7 v6 (X.c (C.a (A.t (T.sl Nz.nn v10 v34))))) v8 v9)) (h1 : v2.op = Op.buildSlice v12 v15 v35 := by exact rfl) (h3 : v35.size = v15 := by exact rfl) (h4 : v15 * v10 ≤ 16777216 := by decide) (h5 : elemsX (S.mk v5 v7 v8 v9) v10 0 v35.toList = some v34 := by exact rfl) (h6 : v2.guard = none := by exact rfl) (h7 : v2.dst = some v6 := by exact rfl) (h8 : v6.blt v5 = true := by exact rfl) : SeqK v0 v1 v3 (v2 :: v4) (S.mk v5 v7 v8 v9) := SeqK.q (q_buildSlice _ h1 a2 h3 h4 h5) h6 h7 h8 k9
theorem Z22 {v11' : Decidable v44} (a6 : v44 → SeqK v0 v1 v3 v4 (S.mk v5 (upd v7 v6 (bX true)) v8 v9)) (a7 : ¬v44 → SeqK v0 v1 v3 v4 (S.mk v5 (upd v7 v6 (bX false)) v8 v9)) (h1 : v2.op = Op.move v13 := by exact rfl) (h2 : (S.mk v5 v7 v8 v9).eval v13 = X.c (C.a (A.t (T.v (Value.bool (decide v44))))) := by exact rfl) (h3 : v2.guard = none := by exact rfl) (h4 : v2.dst = some v6 := by exact rfl) (h5 : v6.blt v5 = true := by exact rfl) : SeqK v0 v1 v3 (v2 :: v4) (S.mk v5 v7 v8 v9) := SeqK.qD (q_mvC h1 h2) h3 h4 h5 a6 a7
theorem Z23 (k6 : LexK v0 v1 v3 v4 (S.mk v6 (upd v7 v10 (X.c v27)) v8 v9) v5 (v43 ++ [(lookT v1 v2, dstT v2)])) (h1 : v2.op = Op.move v13 := by exact rfl) (h2 : (S.mk v6 v7 v8 v9).eval v13 = X.c v27 := by exact rfl) (h3 : v2.guard = none := by exact rfl) (h4 : v2.dst = some v10 := by exact rfl) (h5 : v10.blt v6 = true := by exact rfl) : LexK v0 v1 v3 (v2 :: v4) (S.mk v6 v7 v8 v9) v5 v43 := LexK.q (q_mvC h1 h2) h3 h4 h5 k6
theorem Z24 {r : List A} (a4 : zeroIs v0 v12 v36) (k10 : SeqK v0 v1 v3 v4 (S.mk v6 (upd v7 v5 (X.lp v5 0)) (upd v8 v5 (some (AO.box r))) v9)) (h2 : v2.op = Op.alloc v12 := by exact rfl) (h3 : v2.dst = some v5 := by exact rfl) (h5 : v36.cells.toList.all Value.oneCell' = true := by exact rfl) (h6 : List.map litA v36.cells.toList = r := by exact rfl) (h7 : v8 v5 = none := by exact rfl) (h8 : v5.blt v6 = true := by exact rfl) (h9 : v2.guard = none := by exact rfl) : SeqK v0 v1 v3 (v2 :: v4) (S.mk v6 v7 v8 v9) := SeqK.r (b_alloc (r := r) h2 h3 a4 h5 h6 h7 h8) h9 k10
theorem Z25 (a2 : fldB v0 v12 v18 v19 = true) (k8 : LexK v0 v1 v3 v4 (S.mk v6 (upd v7 v10 (X.lp v15 v16)) v8 v9) v5 (v43 ++ [(lookT v1 v2, dstT v2)])) (h1 : v2.op = Op.fieldAddr v12 v13 v18 := by exact rfl) (h3 : (S.mk v6 v7 v8 v9).eval v13 = X.lp v15 v30 := by exact rfl) (h4 : v30 + v19 = v16 := by exact rfl) (h5 : v2.guard = none := by exact rfl) (h6 : v2.dst = some v10 := by exact rfl) (h7 : v10.blt v6 = true := by exact rfl) : LexK v0 v1 v3 (v2 :: v4) (S.mk v6 v7 v8 v9) v5 v43 := LexK.q (q_fieldL _ h1 a2 h3 h4) h5 h6 h7 k8
theorem Z26 (a2 : slB v0 v12 v22 v15 = true) (a6 : v34[v21.toNat]? = some v32) (k10 : LexK v0 v1 v3 v4 (S.mk v6 (upd v7 v10 (X.pc v32)) v8 v9) v5 (v43 ++ [(lookT v1 v2, dstT v2)])) (h1 : v2.op = Op.indexAddr v12 v13 v23 := by exact rfl) (h3 : (S.mk v6 v7 v8 v9).eval v13 = X.c (C.a (A.t (T.sl v33 v15 v34))) := by exact rfl) (h4 : (S.mk v6 v7 v8 v9).eval v23 = iX v20 v21 := by exact rfl) (h5 : 0 ≤ v21 := by omega) (h7 : v2.guard = none := by exact rfl) (h8 : v2.dst = some v10 := by exact rfl) (h9 : v10.blt v6 = true := by exact rfl) : LexK v0 v1 v3 (v2 :: v4) (S.mk v6 v7 v8 v9) v5 v43 := LexK.q (q_index _ h1 a2 h3 h4 h5 a6) h7 h8 h9 k10
theorem Z27 (a1 : C) (a3 : tyB v0 v12 v14 v15 = true) (k10 : LexK v0 v1 v3 v4 (S.mk v6 (upd v7 v10 (X.c a1)) v8 v9) v5 (v43 ++ [(lookT v1 v2, dstT v2)])) (h2 : v2.op = Op.load v12 v13 := by exact rfl) (h4 : (S.mk v6 v7 v8 v9).eval v13 = X.pc v32 := by exact rfl) (h5 : mkC v14 (List.map A.t (List.take v15 v32)) = a1 := by exact rfl) (h6 : v15.ble v32.length = true := by exact rfl) (h7 : v2.guard = none := by exact rfl) (h8 : v2.dst = some v10 := by exact rfl) (h9 : v10.blt v6 = true := by exact rfl) : LexK v0 v1 v3 (v2 :: v4) (S.mk v6 v7 v8 v9) v5 v43 := LexK.q (q_load a1 h2 a3 h4 h5 h6) h7 h8 h9 k10
theorem Z28 (k7 : SeqK v0 v1 v3 v4 (S.mk v5 (upd v7 v6 (bX (decide (v21 ≠ v24)))) v8 v9)) (h1 : v2.op = Op.binOp BinOp.neq v12 v13 v23 v22 := by exact rfl) (h2 : (S.mk v5 v7 v8 v9).eval v13 = iX v20 v21 := by exact rfl) (h3 : (S.mk v5 v7 v8 v9).eval v23 = iX v20 v24 := by exact rfl) (h4 : v2.guard = none := by exact rfl) (h5 : v2.dst = some v6 := by exact rfl) (h6 : v6.blt v5 = true := by exact rfl) : SeqK v0 v1 v3 (v2 :: v4) (S.mk v5 v7 v8 v9) := SeqK.q (q_neq h1 h2 h3) h4 h5 h6 k7
theorem Z29 (k9 : SeqK v0 v1 v3 v4 (S.mk v5 (upd v7 v6 (X.c v27)) v8 v9)) (h1 : v2.op = Op.pick v13 v23 v29 := by exact rfl) (h2 : (S.mk v5 v7 v8 v9).eval v13 = bX true := by exact rfl) (h3 : (S.mk v5 v7 v8 v9).eval v23 = X.c v27 := by exact rfl) (h4 : v2.guard = some (v10, v14) := by exact rfl) (h5 : (v1[v10]?.bind fun x ↦ x.dst) = some v15 := by exact rfl) (h6 : v7 v15 = tv (Value.bool v14) := by exact rfl) (h7 : v2.dst = some v6 := by exact rfl) (h8 : v6.blt v5 = true := by exact rfl) : SeqK v0 v1 v3 (v2 :: v4) (S.mk v5 v7 v8 v9) := SeqK.on (q_pkT h1 h2 h3) h4 h5 h6 h7 h8 k9
theorem Z30 (k9 : SeqK v0 v1 v3 v4 (S.mk v5 (upd v7 v6 (X.c v27)) v8 v9)) (h1 : v2.op = Op.pick v13 v23 v29 := by exact rfl) (h2 : (S.mk v5 v7 v8 v9).eval v13 = bX false := by exact rfl) (h3 : (S.mk v5 v7 v8 v9).eval v29 = X.c v27 := by exact rfl) (h4 : v2.guard = some (v10, v14) := by exact rfl) (h5 : (v1[v10]?.bind fun x ↦ x.dst) = some v15 := by exact rfl) (h6 : v7 v15 = tv (Value.bool v14) := by exact rfl) (h7 : v2.dst = some v6 := by exact rfl) (h8 : v6.blt v5 = true := by exact rfl) : SeqK v0 v1 v3 (v2 :: v4) (S.mk v5 v7 v8 v9) := SeqK.on (q_pkF h1 h2 h3) h4 h5 h6 h7 h8 k9
theorem Z31 (a2 : tyB v0 v12 v14 v10 = true) (k10 : SeqK v0 v1 v3 v4 (S.mk v5 (upd v7 v6 (X.c (C.a v11))) v8 v9)) (h1 : v2.op = Op.load v12 v13 := by exact rfl) (h3 : (S.mk v5 v7 v8 v9).eval v13 = X.c (C.a (A.bp v15 v16)) := by exact rfl) (h4 : v9 v15 = some (AO.box v17) := by (repeat rw [upd_ne _ _ (by first | assumption | exact Ne.symm (by assumption))]); first | assumption | exact upd_same _ _ _) (h5 : mkC v14 (List.take v10 (List.drop v16 v17)) = C.a v11 := by exact rfl) (h6 : (v16 + v10).ble v17.length = true := by exact rfl) (h7 : v2.dst = some v6 := by exact rfl) (h8 : v6.blt v5 = true := by exact rfl) (h9 : v2.guard = none := by exact rfl) : SeqK v0 v1 v3 (v2 :: v4) (S.mk v5 v7 v8 v9) := SeqK.r (g_load (r := .a _) h1 a2 h3 h4 h5 h6 h7 h8) h9 k10
theorem Z32 (k6 : SeqK v0 v1 v3 v4 (S.mk v5 (upd v7 v6 (bX !v14)) v8 v9)) (h1 : v2.op = Op.unOp UnOp.not v12 v13 := by exact rfl) (h2 : (S.mk v5 v7 v8 v9).eval v13 = bX v14 := by exact rfl) (h3 : v2.guard = none := by exact rfl) (h4 : v2.dst = some v6 := by exact rfl) (h5 : v6.blt v5 = true := by exact rfl) : SeqK v0 v1 v3 (v2 :: v4) (S.mk v5 v7 v8 v9) := SeqK.q (q_not h1 h2) h3 h4 h5 k6
theorem Z33 (k6 : LexK v0 v1 v3 v4 (S.mk v6 (upd v7 v10 (X.c v27)) v8 v9) v5 (v43 ++ [(lookT v1 v2, dstT v2)])) (h1 : v2.op = Op.assign v13 := by exact rfl) (h2 : (S.mk v6 v7 v8 v9).eval v13 = X.c v27 := by exact rfl) (h3 : v2.guard = none := by exact rfl) (h4 : v2.dst = some v10 := by exact rfl) (h5 : v10.blt v6 = true := by exact rfl) : LexK v0 v1 v3 (v2 :: v4) (S.mk v6 v7 v8 v9) v5 v43 := LexK.q (q_asC h1 h2) h3 h4 h5 k6
theorem Z34 (a2 : fldB v0 v12 v10 v15 = true) (k8 : SeqK v0 v1 v3 v4 (S.mk v5 (upd v7 v6 (X.pc v32)) v8 v9)) (h1 : v2.op = Op.fieldAddr v12 v13 v10 := by exact rfl) (h3 : (S.mk v5 v7 v8 v9).eval v13 = X.pc v46 := by exact rfl) (h4 : List.drop v15 v46 = v32 := by exact rfl) (h5 : v2.guard = none := by exact rfl) (h6 : v2.dst = some v6 := by exact rfl) (h7 : v6.blt v5 = true := by exact rfl) : SeqK v0 v1 v3 (v2 :: v4) (S.mk v5 v7 v8 v9) := SeqK.q (q_fieldP _ h1 a2 h3 h4) h5 h6 h7 k8
theorem Z35 (k7 : SeqK v0 v1 v3 v4 (S.mk v5 (upd v7 v6 (bX (decide (v21 < v24)))) v8 v9)) (h1 : v2.op = Op.binOp BinOp.gtr v12 v13 v23 v22 := by exact rfl) (h2 : (S.mk v5 v7 v8 v9).eval v13 = iX v20 v24 := by exact rfl) (h3 : (S.mk v5 v7 v8 v9).eval v23 = iX v20 v21 := by exact rfl) (h4 : v2.guard = none := by exact rfl) (h5 : v2.dst = some v6 := by exact rfl) (h6 : v6.blt v5 = true := by exact rfl) : SeqK v0 v1 v3 (v2 :: v4) (S.mk v5 v7 v8 v9) := SeqK.q (q_gtr h1 h2 h3) h4 h5 h6 k7
theorem Z36 (k8 : SeqK v0 v1 v3 v4 (S.mk v5 (upd v7 v6 (bX !v14)) v8 v9)) (h1 : v2.op = Op.unOp UnOp.not v12 v13 := by exact rfl) (h2 : (S.mk v5 v7 v8 v9).eval v13 = bX v14 := by exact rfl) (h3 : v2.guard = some (v10, v28) := by exact rfl) (h4 : (v1[v10]?.bind fun x ↦ x.dst) = some v15 := by exact rfl) (h5 : v7 v15 = tv (Value.bool v28) := by exact rfl) (h6 : v2.dst = some v6 := by exact rfl) (h7 : v6.blt v5 = true := by exact rfl) : SeqK v0 v1 v3 (v2 :: v4) (S.mk v5 v7 v8 v9) := SeqK.on (q_not h1 h2) h3 h4 h5 h6 h7 k8
theorem Z37 (k9 : SeqK v0 v1 v3 v4 (S.mk v5 (upd v7 v6 (bX (decide (v21 = v24)))) v8 v9)) (h1 : v2.op = Op.binOp BinOp.eql v12 v13 v23 v22 := by exact rfl) (h2 : (S.mk v5 v7 v8 v9).eval v13 = iX v20 v21 := by exact rfl) (h3 : (S.mk v5 v7 v8 v9).eval v23 = iX v20 v24 := by exact rfl) (h4 : v2.guard = some (v10, v14) := by exact rfl) (h5 : (v1[v10]?.bind fun x ↦ x.dst) = some v15 := by exact rfl) (h6 : v7 v15 = tv (Value.bool v14) := by exact rfl) (h7 : v2.dst = some v6 := by exact rfl) (h8 : v6.blt v5 = true := by exact rfl) : SeqK v0 v1 v3 (v2 :: v4) (S.mk v5 v7 v8 v9) := SeqK.on (q_eql h1 h2 h3) h4 h5 h6 h7 h8 k9
theorem Z38 (k2 : v3 v26) (h1 : okFp v1 v5 v43 = true := by kernel_rfl) : LexK v0 v1 v3 [] v26 v5 v43 := LexK.nil h1 k2
theorem Z39 (k9 : SeqK v0 v1 v3 v4 (S.mk v5 (upd v7 v6 (bX (decide (v21 < v24)))) v8 v9)) (h1 : v2.op = Op.binOp BinOp.gtr v12 v13 v23 v22 := by exact rfl) (h2 : (S.mk v5 v7 v8 v9).eval v13 = iX v20 v24 := by exact rfl) (h3 : (S.mk v5 v7 v8 v9).eval v23 = iX v20 v21 := by exact rfl) (h4 : v2.guard = some (v10, v14) := by exact rfl) (h5 : (v1[v10]?.bind fun x ↦ x.dst) = some v15 := by exact rfl) (h6 : v7 v15 = tv (Value.bool v14) := by exact rfl) (h7 : v2.dst = some v6 := by exact rfl) (h8 : v6.blt v5 = true := by exact rfl) : SeqK v0 v1 v3 (v2 :: v4) (S.mk v5 v7 v8 v9) := SeqK.on (q_gtr h1 h2 h3) h4 h5 h6 h7 h8 k9
theorem Z40 (a2 : fnB v0 v39 = true) (a4 : Pure v0 v39 v42 v38) (k9 : LexK v0 v1 v3 v4 (S.mk v6 (upd v7 v10 v38) v8 v9) v5 (v43 ++ [(lookT v1 v2, dstT v2)])) (h1 : v2.op = Op.call { callee := Callee.value (Operand.func v39), args := v40, argTypes := v41 } := by exact rfl) (h3 : argsX (S.mk v6 v7 v8 v9) v40.toList = some v42 := by exact rfl) (h5 : v38.loc = none := by exact rfl) (h6 : v2.guard = none := by exact rfl) (h7 : v2.dst = some v10 := by exact rfl) (h8 : v10.blt v6 = true := by exact rfl) : LexK v0 v1 v3 (v2 :: v4) (S.mk v6 v7 v8 v9) v5 v43 := LexK.q (q_call _ h1 a2 h3 a4 h5) h6 h7 h8 k9
theorem Z41 (a2 : v0.underlying v12 = some (TypeDesc.slice v22)) (k9 : SeqK v0 v1 v3 v4 (S.mk v5 (upd v7 v6 (iX IntKind.i64 ↑v34.length)) v8 v9)) (h1 : v2.op = Op.call { callee := Callee.builtin Builtin.len, args := #[v13], argTypes := #[v12] } := by exact rfl) (h3 : (S.mk v5 v7 v8 v9).eval v13 = X.c (C.a (A.t (T.sl v33 v16 v34))) := by exact rfl) (h4 : v2.guard = some (v10, v14) := by exact rfl) (h5 : (v1[v10]?.bind fun x ↦ x.dst) = some v15 := by exact rfl) (h6 : v7 v15 = tv (Value.bool v14) := by exact rfl) (h7 : v2.dst = some v6 := by exact rfl) (h8 : v6.blt v5 = true := by exact rfl) : SeqK v0 v1 v3 (v2 :: v4) (S.mk v5 v7 v8 v9) := SeqK.on (q_len h1 a2 h3) h4 h5 h6 h7 h8 k9
theorem Z42 (k7 : LexK v0 v1 v3 v4 (S.mk v6 (upd v7 v10 (X.c v27)) v8 v9) v5 (v43 ++ [(lookT v1 v2, dstT v2)])) (h1 : v2.op = Op.extract v13 v15 := by exact rfl) (h2 : (S.mk v6 v7 v8 v9).eval v13 = X.tup v42 := by exact rfl) (h3 : v42[v15]? = some v27 := by exact rfl) (h4 : v2.guard = none := by exact rfl) (h5 : v2.dst = some v10 := by exact rfl) (h6 : v10.blt v6 = true := by exact rfl) : LexK v0 v1 v3 (v2 :: v4) (S.mk v6 v7 v8 v9) v5 v43 := LexK.q (q_extract _ h1 h2 h3) h4 h5 h6 k7
theorem Z43 (a2 : fnB v0 v39 = true) (a4 : Pure v0 v39 v42 v38) (k11 : SeqK v0 v1 v3 v4 (S.mk v5 (upd v7 v6 v38) v8 v9)) (h1 : v2.op = Op.call { callee := Callee.value (Operand.func v39), args := v40, argTypes := v41 } := by exact rfl) (h3 : argsX (S.mk v5 v7 v8 v9) v40.toList = some v42 := by exact rfl) (h5 : v38.loc = none := by exact rfl) (h6 : v2.guard = some (v10, v14) := by exact rfl) (h7 : (v1[v10]?.bind fun x ↦ x.dst) = some v15 := by exact rfl) (h8 : v7 v15 = tv (Value.bool v14) := by exact rfl) (h9 : v2.dst = some v6 := by exact rfl) (h10 : v6.blt v5 = true := by exact rfl) : SeqK v0 v1 v3 (v2 :: v4) (S.mk v5 v7 v8 v9) := SeqK.on (q_call _ h1 a2 h3 a4 h5) h6 h7 h8 h9 h10 k11
theorem Z44 {v14' : Decidable v44} (a8 : v44 → SeqK v0 v1 v3 v4 (S.mk v5 (upd v7 v6 (bX true)) v8 v9)) (a9 : ¬v44 → SeqK v0 v1 v3 v4 (S.mk v5 (upd v7 v6 (bX false)) v8 v9)) (h1 : v2.op = Op.move v13 := by exact rfl) (h2 : (S.mk v5 v7 v8 v9).eval v13 = X.c (C.a (A.t (T.v (Value.bool (decide v44))))) := by exact rfl) (h3 : v2.guard = some (v10, v14) := by exact rfl) (h4 : (v1[v10]?.bind fun x ↦ x.dst) = some v15 := by exact rfl) (h5 : v7 v15 = tv (Value.bool v14) := by exact rfl) (h6 : v2.dst = some v6 := by exact rfl) (h7 : v6.blt v5 = true := by exact rfl) : SeqK v0 v1 v3 (v2 :: v4) (S.mk v5 v7 v8 v9) := SeqK.onD (q_mvC h1 h2) h3 h4 h5 h6 h7 a8 a9
theorem Z45 (a2 : v0.underlying v12 = some TypeDesc.string) (a6 : v48.data.toList[v21.toNat]? = some v47) (k12 : SeqK v0 v1 v3 v4 (S.mk v5 (upd v7 v6 (iX IntKind.u8 ↑v47.toNat)) v8 v9)) (h1 : v2.op = Op.index v12 v13 v23 := by exact rfl) (h3 : (S.mk v5 v7 v8 v9).eval v13 = sX v48 := by exact rfl) (h4 : (S.mk v5 v7 v8 v9).eval v23 = iX v20 v21 := by exact rfl) (h5 : 0 ≤ v21 := by omega) (h7 : v2.guard = some (v10, v14) := by exact rfl) (h8 : (v1[v10]?.bind fun x ↦ x.dst) = some v15 := by exact rfl) (h9 : v7 v15 = tv (Value.bool v14) := by exact rfl) (h10 : v2.dst = some v6 := by exact rfl) (h11 : v6.blt v5 = true := by exact rfl) : SeqK v0 v1 v3 (v2 :: v4) (S.mk v5 v7 v8 v9) := SeqK.on (q_indexS _ h1 a2 h3 h4 h5 a6) h7 h8 h9 h10 h11 k12
theorem Z46 (k7 : SeqK v0 v1 v3 v4 (S.mk v5 (upd v7 v6 (X.tup [])) v8 v9)) (h1 : v2.guard = some (v10, v14) := by exact rfl) (h2 : (v1[v10]?.bind fun x ↦ x.dst) = some v15 := by exact rfl) (h3 : v7 v15 = tv (Value.bool v28) := by exact rfl) (h4 : (v28 == v14) = false := by exact rfl) (h5 : v2.dst = some v6 := by exact rfl) (h6 : v6.blt v5 = true := by exact rfl) : SeqK v0 v1 v3 (v2 :: v4) (S.mk v5 v7 v8 v9) := SeqK.off h1 h2 h3 h4 h5 h6 k7
theorem Z47 (a2 : slB v0 v12 v22 v16 = true) (a6 : v34[v21.toNat]? = some v32) (k12 : SeqK v0 v1 v3 v4 (S.mk v5 (upd v7 v6 (X.pc v32)) v8 v9)) (h1 : v2.op = Op.indexAddr v12 v13 v23 := by exact rfl) (h3 : (S.mk v5 v7 v8 v9).eval v13 = X.c (C.a (A.t (T.sl v33 v16 v34))) := by exact rfl) (h4 : (S.mk v5 v7 v8 v9).eval v23 = iX v20 v21 := by exact rfl) (h5 : 0 ≤ v21 := by omega) (h7 : v2.guard = some (v10, v14) := by exact rfl) (h8 : (v1[v10]?.bind fun x ↦ x.dst) = some v15 := by exact rfl) (h9 : v7 v15 = tv (Value.bool v14) := by exact rfl) (h10 : v2.dst = some v6 := by exact rfl) (h11 : v6.blt v5 = true := by exact rfl) : SeqK v0 v1 v3 (v2 :: v4) (S.mk v5 v7 v8 v9) := SeqK.on (q_index _ h1 a2 h3 h4 h5 a6) h7 h8 h9 h10 h11 k12
theorem Z48 (a2 : fldB v0 v12 v15 v16 = true) (k8 : LexK v0 v1 v3 v4 (S.mk v6 (upd v7 v10 (X.pc v32)) v8 v9) v5 (v43 ++ [(lookT v1 v2, dstT v2)])) (h1 : v2.op = Op.fieldAddr v12 v13 v15 := by exact rfl) (h3 : (S.mk v6 v7 v8 v9).eval v13 = X.pc v46 := by exact rfl) (h4 : List.drop v16 v46 = v32 := by exact rfl) (h5 : v2.guard = none := by exact rfl) (h6 : v2.dst = some v10 := by exact rfl) (h7 : v10.blt v6 = true := by exact rfl) : LexK v0 v1 v3 (v2 :: v4) (S.mk v6 v7 v8 v9) v5 v43 := LexK.q (q_fieldP _ h1 a2 h3 h4) h5 h6 h7 k8
theorem Z49 (a6 : v14 = true → SeqK v0 v1 v3 v4 (S.mk v5 (upd v7 v6 (bX true)) v8 v9)) (a7 : v14 = false → SeqK v0 v1 v3 v4 (S.mk v5 (upd v7 v6 (bX false)) v8 v9)) (h1 : v2.op = Op.move v13 := by exact rfl) (h2 : (S.mk v5 v7 v8 v9).eval v13 = X.c (C.a (A.t (T.v (Value.bool v14)))) := by exact rfl) (h3 : v2.guard = none := by exact rfl) (h4 : v2.dst = some v6 := by exact rfl) (h5 : v6.blt v5 = true := by exact rfl) : SeqK v0 v1 v3 (v2 :: v4) (S.mk v5 v7 v8 v9) := SeqK.qB (q_mvC h1 h2) h3 h4 h5 a6 a7
theorem Z50 (k6 : SeqK v0 v1 v3 v4 (S.mk v5 (upd v7 v6 (X.tup v42)) v8 v9)) (h1 : v2.op = Op.move v13 := by exact rfl) (h2 : (S.mk v5 v7 v8 v9).eval v13 = X.tup v42 := by exact rfl) (h3 : v2.guard = none := by exact rfl) (h4 : v2.dst = some v6 := by exact rfl) (h5 : v6.blt v5 = true := by exact rfl) : SeqK v0 v1 v3 (v2 :: v4) (S.mk v5 v7 v8 v9) := SeqK.q (q_mvT h1 h2) h3 h4 h5 k6
theorem Z51 (a1 : C) (a3 : tyB v0 v12 v28 v16 = true) (k12 : SeqK v0 v1 v3 v4 (S.mk v5 (upd v7 v6 (X.c a1)) v8 v9)) (h2 : v2.op = Op.load v12 v13 := by exact rfl) (h4 : (S.mk v5 v7 v8 v9).eval v13 = X.pc v32 := by exact rfl) (h5 : mkC v28 (List.map A.t (List.take v16 v32)) = a1 := by exact rfl) (h6 : v16.ble v32.length = true := by exact rfl) (h7 : v2.guard = some (v10, v14) := by exact rfl) (h8 : (v1[v10]?.bind fun x ↦ x.dst) = some v15 := by exact rfl) (h9 : v7 v15 = tv (Value.bool v14) := by exact rfl) (h10 : v2.dst = some v6 := by exact rfl) (h11 : v6.blt v5 = true := by exact rfl) : SeqK v0 v1 v3 (v2 :: v4) (S.mk v5 v7 v8 v9) := SeqK.on (q_load a1 h2 a3 h4 h5 h6) h7 h8 h9 h10 h11 k12
theorem Z52 (k9 : SeqK v0 v1 v3 v4 (S.mk v5 (upd v7 v6 (bX (decide (v21 ≤ v24)))) v8 v9)) (h1 : v2.op = Op.binOp BinOp.leq v12 v13 v23 v22 := by exact rfl) (h2 : (S.mk v5 v7 v8 v9).eval v13 = iX v20 v21 := by exact rfl) (h3 : (S.mk v5 v7 v8 v9).eval v23 = iX v20 v24 := by exact rfl) (h4 : v2.guard = some (v10, v14) := by exact rfl) (h5 : (v1[v10]?.bind fun x ↦ x.dst) = some v15 := by exact rfl) (h6 : v7 v15 = tv (Value.bool v14) := by exact rfl) (h7 : v2.dst = some v6 := by exact rfl) (h8 : v6.blt v5 = true := by exact rfl) : SeqK v0 v1 v3 (v2 :: v4) (S.mk v5 v7 v8 v9) := SeqK.on (q_leq h1 h2 h3) h4 h5 h6 h7 h8 k9
theorem Z53 {r : List A} (a4 : tyB v0 v12 v14 v15 = true) (k12 : LexK v0 v1 v3 v4 (S.mk v10 v7 (upd v8 v6 (some (AO.box r))) v9) v5 (v43 ++ [(Loc.b v6 :: lk v2, [Loc.b v6])])) (h2 : v2.op = Op.store v12 v13 v23 := by exact rfl) (h3 : v2.dst = none := by exact rfl) (h5 : (S.mk v10 v7 v8 v9).eval v13 = X.lp v6 v16 := by exact rfl) (h6 : (S.mk v10 v7 v8 v9).eval v23 = X.c v27 := by exact rfl) (h7 : v8 v6 = some (AO.box v17) := by exact rfl) (h8 : splice v17 v16 v27.cells = r := by exact rfl) (h9 : v27.cells.length = v15 := by exact rfl) (h10 : (v16 + v15).ble v17.length = true := by exact rfl) (h11 : v2.guard = none := by exact rfl) : LexK v0 v1 v3 (v2 :: v4) (S.mk v10 v7 v8 v9) v5 v43 := LexK.r (b_store (r := r) h2 h3 a4 h5 h6 h7 h8 h9 h10) h11 k12
theorem Z54 {r : C} (a3 : tyB v0 v12 v14 v16 = true) (k11 : LexK v0 v1 v3 v4 (S.mk v10 (upd v7 v15 (X.c r)) v8 v9) v5 (v43 ++ [(Loc.b v6 :: lk v2, dstT v2)])) (h2 : v2.op = Op.load v12 v13 := by exact rfl) (h4 : (S.mk v10 v7 v8 v9).eval v13 = X.lp v6 v18 := by exact rfl) (h5 : v8 v6 = some (AO.box v17) := by exact rfl) (h6 : mkC v14 (List.take v16 (List.drop v18 v17)) = r := by exact rfl) (h7 : (v18 + v16).ble v17.length = true := by exact rfl) (h8 : v2.dst = some v15 := by exact rfl) (h9 : v15.blt v10 = true := by exact rfl) (h10 : v2.guard = none := by exact rfl) : LexK v0 v1 v3 (v2 :: v4) (S.mk v10 v7 v8 v9) v5 v43 := LexK.r (b_load (r := r) h2 a3 h4 h5 h6 h7 h8 h9) h10 k11
theorem Z55 (a2 : tyB v0 v12 v28 v19 = true) (k12 : LexK v0 v1 v3 v4 (S.mk v10 (upd v7 v15 (X.c (C.a v11))) v8 v9) v5 (v43 ++ [(Loc.t v18 :: Loc.b v6 :: lk v2, dstT v2)])) (h1 : v2.op = Op.load v12 v13 := by exact rfl) (h3 : (S.mk v10 v7 v8 v9).eval v13 = X.lp v6 v30 := by exact rfl) (h4 : v8 v6 = some (AO.box v17) := by exact rfl) (h5 : mkC v28 (List.take v19 (List.drop v30 v17)) = C.a v11 := by exact rfl) (h6 : (v30 + v19).ble v17.length = true := by exact rfl) (h7 : v2.dst = some v15 := by exact rfl) (h8 : v15.blt v10 = true := by exact rfl) (h9 : v2.guard = some (v16, v14) := by exact rfl) (h10 : (v1[v16]?.bind fun x ↦ x.dst) = some v18 := by exact rfl) (h11 : v7 v18 = tv (Value.bool v14) := by exact rfl) : LexK v0 v1 v3 (v2 :: v4) (S.mk v10 v7 v8 v9) v5 v43 := LexK.rOn (b_load (r := .a _) h1 a2 h3 h4 h5 h6 h7 h8) h9 h10 h11 k12
theorem Z56 (k9 : SeqK v0 v1 v3 v4 (S.mk v5 (upd v7 v6 (bX (decide (v21 ≠ v24)))) v8 v9)) (h1 : v2.op = Op.binOp BinOp.neq v12 v13 v23 v22 := by exact rfl) (h2 : (S.mk v5 v7 v8 v9).eval v13 = iX v20 v21 := by exact rfl) (h3 : (S.mk v5 v7 v8 v9).eval v23 = iX v20 v24 := by exact rfl) (h4 : v2.guard = some (v10, v14) := by exact rfl) (h5 : (v1[v10]?.bind fun x ↦ x.dst) = some v15 := by exact rfl) (h6 : v7 v15 = tv (Value.bool v14) := by exact rfl) (h7 : v2.dst = some v6 := by exact rfl) (h8 : v6.blt v5 = true := by exact rfl) : SeqK v0 v1 v3 (v2 :: v4) (S.mk v5 v7 v8 v9) := SeqK.on (q_neq h1 h2 h3) h4 h5 h6 h7 h8 k9
theorem Z57 (a2 : v0.underlying v12 = some TypeDesc.string) (k7 : SeqK v0 v1 v3 v4 (S.mk v5 (upd v7 v6 (iX IntKind.i64 ↑v48.size)) v8 v9)) (h1 : v2.op = Op.call { callee := Callee.builtin Builtin.len, args := #[v13], argTypes := #[v12] } := by exact rfl) (h3 : (S.mk v5 v7 v8 v9).eval v13 = sX v48 := by exact rfl) (h4 : v2.guard = none := by exact rfl) (h5 : v2.dst = some v6 := by exact rfl) (h6 : v6.blt v5 = true := by exact rfl) : SeqK v0 v1 v3 (v2 :: v4) (S.mk v5 v7 v8 v9) := SeqK.q (q_lenS h1 a2 h3) h4 h5 h6 k7
theorem Z58 {r : C} (a3 : tyB v0 v12 v28 v18 = true) (k13 : SeqK v0 v1 v3 v4 (S.mk v6 (upd v7 v10 (X.c r)) v8 v9)) (h2 : v2.op = Op.load v12 v13 := by exact rfl) (h4 : (S.mk v6 v7 v8 v9).eval v13 = X.lp v5 v19 := by exact rfl) (h5 : v8 v5 = some (AO.box v17) := by exact rfl) (h6 : mkC v28 (List.take v18 (List.drop v19 v17)) = r := by exact rfl) (h7 : (v19 + v18).ble v17.length = true := by exact rfl) (h8 : v2.dst = some v10 := by exact rfl) (h9 : v10.blt v6 = true := by exact rfl) (h10 : v2.guard = some (v15, v14) := by exact rfl) (h11 : (v1[v15]?.bind fun x ↦ x.dst) = some v16 := by exact rfl) (h12 : v7 v16 = tv (Value.bool v14) := by exact rfl) : SeqK v0 v1 v3 (v2 :: v4) (S.mk v6 v7 v8 v9) := SeqK.rOn (b_load (r := r) h2 a3 h4 h5 h6 h7 h8 h9) h10 h11 h12 k13
theorem Z59 (a2 : fldB v0 v12 v30 v31 = true) (k10 : LexK v0 v1 v3 v4 (S.mk v6 (upd v7 v10 (X.lp v15 v16)) v8 v9) v5 (v43 ++ [(lookT v1 v2, dstT v2)])) (h1 : v2.op = Op.fieldAddr v12 v13 v30 := by exact rfl) (h3 : (S.mk v6 v7 v8 v9).eval v13 = X.lp v15 v49 := by exact rfl) (h4 : v49 + v31 = v16 := by exact rfl) (h5 : v2.guard = some (v18, v14) := by exact rfl) (h6 : (v1[v18]?.bind fun x ↦ x.dst) = some v19 := by exact rfl) (h7 : v7 v19 = tv (Value.bool v14) := by exact rfl) (h8 : v2.dst = some v10 := by exact rfl) (h9 : v10.blt v6 = true := by exact rfl) : LexK v0 v1 v3 (v2 :: v4) (S.mk v6 v7 v8 v9) v5 v43 := LexK.on (q_fieldL _ h1 a2 h3 h4) h5 h6 h7 h8 h9 k10
theorem Z60 (k7 : SeqK v0 v1 v3 v4 (S.mk v5 (upd v7 v6 (bX (decide (v21 ≤ v24)))) v8 v9)) (h1 : v2.op = Op.binOp BinOp.geq v12 v13 v23 v22 := by exact rfl) (h2 : (S.mk v5 v7 v8 v9).eval v13 = iX v20 v24 := by exact rfl) (h3 : (S.mk v5 v7 v8 v9).eval v23 = iX v20 v21 := by exact rfl) (h4 : v2.guard = none := by exact rfl) (h5 : v2.dst = some v6 := by exact rfl) (h6 : v6.blt v5 = true := by exact rfl) : SeqK v0 v1 v3 (v2 :: v4) (S.mk v5 v7 v8 v9) := SeqK.q (q_geq h1 h2 h3) h4 h5 h6 k7
end
section
variable {v0 : Program} {v1 : Array Oper} {v2 : Oper} {v3 : S → Prop} {v4 : List Oper} {v5 v6 v10 v15 v16 v18 v19 v30 v31 v49 : Nat} {v7 : Nat → X} {v8 : Nat → Option AO} {v9 : Heap} {v11 : A} {v12 v22 : TypeId} {v13 v23 v29 : Operand} {v14 v28 : Bool} {v17 : List A} {v20 : IntKind} {v21 v24 v25 : Int} {v26 : S} {v27 : C} {v32 v46 : List T} {v33 : Nz} {v34 : List (List T)} {v35 : Array (Nat × Operand)} {v36 : Value} {v37 : List (Nat × List A)} {v38 : X} {v39 : FuncId} {v40 : Array Operand} {v41 : Array TypeId} {v42 : List C} {v43 : List Fp} {v44 : Prop} {v45 : Sort _} {v47 : UInt8} {v48 : ByteArray}
theorem Z90 {p q : ByteArray} {x y : Operand} {u w : TypeId} (k7 : SeqK v0 v1 v3 v4 (S.mk v5 (upd v7 v6 (sX (p ++ q))) v8 v9)) (h1 : v2.op = Op.binOp BinOp.add w x y u := by exact rfl) (h2 : (S.mk v5 v7 v8 v9).eval x = sX p := by exact rfl) (h3 : (S.mk v5 v7 v8 v9).eval y = sX q := by exact rfl) (h4 : p.size + q.size ≤ 9223372036854775807 := by first | omega | (simp only [qE]; omega)) (h5 : v2.guard = none := by exact rfl) (h6 : v2.dst = some v6 := by exact rfl) (h7 : v6.blt v5 = true := by exact rfl) : SeqK v0 v1 v3 (v2 :: v4) (S.mk v5 v7 v8 v9) := SeqK.q (q_addS h1 h2 h3 h4) h5 h6 h7 k7
theorem Z91 {p q : ByteArray} {x y : Operand} {u w : TypeId} (k7 : LexK v0 v1 v3 v4 (S.mk v6 (upd v7 v10 (sX (p ++ q))) v8 v9) v5 (v43 ++ [(lookT v1 v2, dstT v2)])) (h1 : v2.op = Op.binOp BinOp.add w x y u := by exact rfl) (h2 : (S.mk v6 v7 v8 v9).eval x = sX p := by exact rfl) (h3 : (S.mk v6 v7 v8 v9).eval y = sX q := by exact rfl) (h4 : p.size + q.size ≤ 9223372036854775807 := by first | omega | (simp only [qE]; omega)) (h5 : v2.guard = none := by exact rfl) (h6 : v2.dst = some v10 := by exact rfl) (h7 : v10.blt v6 = true := by exact rfl) : LexK v0 v1 v3 (v2 :: v4) (S.mk v6 v7 v8 v9) v5 v43 := LexK.q (q_addS h1 h2 h3 h4) h5 h6 h7 k7
structure Hd (Q : Prop) : Prop where
 q : Q
theorem cL0 {P : Prop} (h : P := by first | (have hse2 := hse (by omega); subst hse2; exact ⟨_, by exact Wk.keep 113 _ _ _ rfl ⟨rfl, rfl, rfl, rfl, (sCe (by first | (unfold ttB; simp [*]; done) | (have h5 : b.st.its[i].ag = 5 := (by omega); unfold ttB; simp [*]; done))), trivial⟩ ⟨rfl, trivial⟩ (fun _ _ h => h) rfl, rfl⟩) | (exact ⟨_, by exact Wk.keep 113 _ _ _ rfl ⟨rfl, rfl, rfl, rfl, (sCe (by first | (unfold ttB; simp [*]; done) | (have h5 : b.st.its[i].ag = 5 := (by omega); unfold ttB; simp [*]; done))), trivial⟩ ⟨rfl, trivial⟩ (fun _ _ h => h) rfl, rfl⟩)) : P := h
theorem cL1 {P : Prop} (h : P := by refine AW.skip (D1 ?_); refine SeqK.xw 112 rfl XW.tm0 ?_; refine G2 ?_; exact aR (fin_x (x := .tup [_, _]) (H) (.cellL rfl rfl ty199 rfl rfl (.tmp rfl .nil)) rfl ((fun j o h => upd_sub hkt j o h)) (⟨by first | (rw [ofE_nolen hlen (by assumption), hop]; rfl) | (rw [ofE_eq e, stepE, if_neg (by omega), if_pos (by assumption), unR_ne (by rw [qA]; simp only [qA] at *; omega), hop]; rfl) | (rw [ofE_eq e, stepE, if_neg (by omega), if_neg (by omega), if_pos (by omega), binR_ne (by rw [qA]; simp only [qA] at *; omega), hop]; rfl) | (by_cases h9 : e.op = 9; rw [ofE_nolen hlen h9, hop]; rfl; rw [ofE_eq e, stepE, if_neg (by omega), if_neg (by omega), if_neg (by omega), hop]; rfl), rfl⟩))) : P := h
theorem cL2 {P : Prop} (h : P := by refine AW.xwL 4 rfl (xr2 (.cons (XW.nilU (sz := 6)) (.cons (XW.nilU (sz := 1)) (.cons (XW.nilU (sz := 3)) (.cons (XW.nilU (sz := 8)) (.cons (XW.nilU (sz := 1)) (.cons (XW.nilU (sz := 10)) (.cons (XW.nilU (sz := 9)) (.cons (XW.nilU (sz := 2)) (xr4 (xr2 (xr1 (.cons (XW.nilU (sz := 8)) (.cons (XW.nilU (sz := 8)) (.cons (XW.nilU (sz := 2)) (xr2 (xr1 (.cons (XW.nilU (sz := 1)) (.cons (XW.nilU (sz := 5)) (.cons (XW.nilU (sz := 1)) .nil)))))))))))))))))))) ?_; exact aR (fin_x (x := .tup [_, _]) (H) (.cellL rfl rfl ty47 rfl rfl (.tmp rfl .nil)) rfl ((fun j o h => upd_sub hkt j o h)) (⟨bd0, _, rfl, fun k => absurd k (by first | decide | assumption), rfl⟩))) : P := h
theorem cL3 {P : Prop} (h : P := by have hl2 : e.args.length = 2 := by simp only [qA] at *; omega; have h01 : 0 < e.args.length := by omega; have h12 : 1 < e.args.length := by omega; have hg0 := hgd _ (qC h01) (hr0 _ (qC h01)); have hg1 := hgd _ (qC h12) (hr0 _ (qC h12)); refine AW.seq (AW.draw mo ?_); refine N3 ?_; refine Z26 sl217 (idx_of h01) ?_; refine N2 ?_; refine Z26 sl217 (idx_of h12) ?_; refine N1 ?_; refine lQ (q_call _ rfl fn167 rfl (binary_any e.op (by omega) _ _ hg0.1 hg1.1 (by omega)) rfl) ?_; refine N4 ?_; refine Z38 ?_; exact aR (fin_x (x := .tup [_, _]) (H) (.cellL rfl rfl ty199 rfl rfl (.tmp rfl .nil)) rfl ((fun j o h => upd_sub hkt j o h)) (⟨by rw [ofE_eq e, stepE, if_neg (by omega), if_neg (by omega), if_pos (by omega), binR_two (by simpa using h01) (by simpa using h12) (by simpa using hl2)]; simp only [qV]; rw [if_neg (by have := hr0 _ (qC h01); omega), if_neg (by have := hr0 _ (qC h12); omega)]; rfl, rfl⟩))) : P := h
theorem cL4 {P : Prop} (h : P := by refine AW.xwL 4 rfl (xr2 (.cons (XW.nilU (sz := 6)) (.cons (XW.nilU (sz := 1)) (.cons (XW.nilU (sz := 3)) (.cons (XW.nilU (sz := 8)) (.cons (XW.nilU (sz := 1)) (.cons (XW.nilU (sz := 10)) (.cons (XW.nilU (sz := 9)) (.cons (XW.nilU (sz := 2)) (xr4 (xr2 (xr1 (.cons (XW.nilU (sz := 8)) (.cons (XW.nilU (sz := 8)) (.cons (XW.nilU (sz := 2)) (xr2 (xr1 (.cons (XW.nilU (sz := 1)) (.cons (XW.nilU (sz := 5)) (.cons (XW.nilU (sz := 1)) .nil)))))))))))))))))))) ?_; exact aR (f2 (.cellL rfl rfl ty47 rfl rfl (.tmp rfl .nil)) (⟨bd0, _, rfl, fun k => absurd k (by first | decide | assumption), rfl⟩))) : P := h
theorem cL5 {P : Prop} (h : P := by refine AW.skip ?_; refine AW.condD rfl (fun _ => ?_) (fun hq => absurd h12 hq); refine D1 ?_; exact aR (fE (e := iCe2 (by unfold opsN; grind)))) : P := h
theorem cL6 {P : Prop} (h : P := by exact aR (fE (e := bCe (by rw [fm_of hA hB]; (try simp only [ne_eq, qY] at *); simp [fmN, Bool.and_assoc, *])))) : P := h
theorem cL7 {P : Prop} (h : P := by refine D1 ?_; exact aR (f1 (q := ⟨_, rfl, fun h => (by cases h), rfl⟩))) : P := h
theorem cL8 {P : Prop} (h : P := by exact ⟨_, by exact Wk.keep 162 _ _ _ rfl ⟨rfl, rfl, rfl, rfl, rfl, rfl, bCe (by first | exact (jI (by omega)).symm | exact (jJ (by omega)).symm | exact dcE (by omega)), trivial⟩ ⟨rfl, trivial⟩ (fun _ _ h => h) rfl, rfl⟩) : P := h
theorem cL9 {P : Prop} (h : P := by refine D1 ?_; exact aR (fE (e := bCe (dF (fun h => by have h9 : (97 ≤ u.data.toList[i].toNat ∧ u.data.toList[i].toNat ≤ 122) ∨ (48 ≤ u.data.toList[i].toNat ∧ u.data.toList[i].toNat ≤ 57) ∨ u.data.toList[i].toNat = 95 := h.2.2.1 i hi; omega))))) : P := h
theorem cL10 {P : Prop} (h : P := by refine D1 ?_; exact aR (fE (e := bCe (dF (fun h => by (have h5 : (97 ≤ u.data.toList[i].toNat ∧ u.data.toList[i].toNat ≤ 122) ∨ (i ≠ 0 ∧ (u.data.toList[i].toNat = 95 ∨ (48 ≤ u.data.toList[i].toNat ∧ u.data.toList[i].toNat ≤ 57))) := (nm_iff.1 h).1 i hi; omega)))))) : P := h
theorem cL11 {P : Prop} (h : P := by refine D1 ?_; exact aR (f1 (q := ⟨by rw [rb, if_neg (by rw [show smallB t = false by first | exact small_no hi (by simp at g45; omega) | exact small_mul hi (by omega) (by omega)]; simp)], rfl⟩))) : P := h
theorem cL12 {P : Prop} (h : P := by exact aR (fE (e := bCe (by first | exact dF2 (fun k => g6 k.1) | exact dF2 (fun k => g11 k.2.1) | exact dF2 (fun k => g16 k.2.2.1) | exact dF2 (fun k => hv k.2.2.2.1) | exact dcE ⟨fun k => ⟨g6, g11, g16, ⟨g22.1.1, g22.1.2, g22.2⟩, by (try simp only [qA] at k); omega⟩, fun k => by have := k.2.2.2.2; (try simp only [qA]); omega⟩)))) : P := h
theorem cL13 {P : Prop} (h : P := by refine D2 ?_; exact aR (f2 (.tmp rfl (.tmp rfl .nil)) (⟨i2e (ru_e (k := 0) (by rw [opI, if_neg (by omega), if_neg (by omega), if_pos (by omega), if_pos ⟨by first | exact al_1 hk2 (fit_t g98) | exact al_2 hk2 (fit_t h102) | exact al_1 hk2 (fit_t (by assumption)) | exact al_2 hk2 (fit_t (by assumption)), by first | exact al_1 hk2 (fit_t g107) | exact al_2 hk2 (fit_t h112) | exact al_2 hk2 (fit_t (by assumption))⟩]) (by decide)), rfl⟩))) : P := h
theorem cL14 {P : Prop} (h : P := by refine G2 ?_; exact aR (fin_x (x := .tup [_, _]) (H) (.cellL rfl rfl ty199 rfl rfl (.tmp rfl .nil)) rfl ((fun j o h => upd_sub hkt j o h)) (⟨by first | (rw [ofE_eq e, stepE, if_pos (by omega), leafE, if_neg (by omega), if_pos (by simp only [qA] at *; omega), hop]; rfl) | (rw [ofE_eq e, stepE, if_pos (by omega), leafE, if_neg (by omega), if_neg (by simp only [qA] at *; omega), if_neg (by omega), if_neg (by omega)]; rfl), rfl⟩))) : P := h
theorem cL15 {P : Prop} (h : P := by refine D5 ?_; refine AW.xw 2 rfl (XW.nilU (sz := 5)) ?_; exact aR (fin_x (x := .tup [_, _, _]) (H) (.tmp rfl (.tmp rfl (.tmp rfl .nil))) rfl ((fun j o h => upd_sub hkt j o h)) (⟨b3e (hI.symm.trans (bld_err hi (by rw [stE, if_neg h22, if_pos (by simp only [qA] at *; omega)]) (by decide))), rfl⟩))) : P := h
theorem cL16 {P : Prop} (h : P := by exact aR (fE (e := bCe (by first | exact dF (fun h => by have := h.2; omega) | exact dI ⟨fun h => ⟨hN, by omega⟩, fun h => by have := h.2; omega⟩)))) : P := h
theorem cL17 {P : Prop} (h : P := by exact aR (fin_x (x := .c _) (H) (.tmp rfl .nil) rfl ((fun j o h => upd_sub hkt j o h)) (⟨_, rfl, by (try simp only [qE]); omega, rfl⟩))) : P := h
theorem cL18 {P : Prop} (h : P := by iterate 6 refine oF ?_; refine Z6 ?_; refine Z3 (AW.condF rfl ?_); refine AW.skip ?_; exact ⟨_, by exact wK 162, hA, by rintro ⟨k1, k2, k3, k4, k5, k6⟩; rw [getD_at h01] at k3; rw [getD_at h12] at k4; have k3 := jK k3; have k4 := jK k4; first | omega | contradiction, rfl⟩) : P := h
theorem cL19 {P : Prop} (h : P := by refine sO (q_fieldH _ rfl fl40_5 rfl rfl) ?_; refine SeqK.rOn (g_load (r := .a _) rfl ty32 rfl (by (repeat rw [upd_ne _ _ (by first | assumption | exact Ne.symm (by assumption))]); first | assumption | exact upd_same _ _ _) rfl rfl rfl rfl) rfl rfl rfl ?_; refine Z14 ?_; refine SeqK.rOn (g_call rfl fn117 rfl (anyF_tm _ 119 [.bp k3 0, .bp k1 0] (fun x => decide (x.ag = 0) && (!icB x.ex || !(st.grp.any fun e => decide (e.ix = x.ex.ix)))) st.its .un fn119 (by omega) (fun x hx H1 h1 => wrong_any H1 k3 k1 st (h1 _ _ (upd_same _ _ _)) (h1 _ _ (by (repeat rw [upd_ne _ _ (by first | assumption | exact Ne.symm (by assumption))]); first | assumption | exact upd_same _ _ _)) hgl x)) rfl rfl rfl) rfl rfl rfl ?_; refine G3 ?_; exact aR (fin_x (x := .c _) (H) (.tmp rfl .nil) rfl ((fun j o h => upd_s2 hk1 hk3 j o h)) (⟨bCe (by rw [← grd_f (by first | (rintro ⟨k, _⟩; (try simp only [qA] at g9); omega) | (rintro ⟨_, k⟩; rw [k] at h15; cases h15))]; first | (rw [jI (by (try simp only [qA] at g21); omega)]; rfl) | (rw [jJ (by (try simp only [qA] at g21); omega)]; rfl)), rfl⟩))) : P := h
theorem cL20 {P : Prop} (h : P := by iterate 10 refine LexK.off rfl rfl rfl rfl rfl rfl ?_; refine lQ (q_pkT rfl rfl rfl) ?_; refine Z38 ?_; refine AW.condT rfl ?_; refine D1 ?_; exact aR (fE (e := bCe (dF (fun h => by have h9 := (h.1 i hi).2 j hj; first | exact nd_t g68 h9.1 | (have := h9.2.1; omega) | (have := h9.2.2; omega) | (have := h9.2.2.2; rw [qA] at h95; omega)))))) : P := h
theorem cL21 {P : Prop} (h : P := by refine AW.skip (B3 ?_); exact ⟨i + 1, _, by exact wK 63, by omega, ⟨hi, upS hi hU (by show (_ ∧ _) ∨ (_ ∧ _) ∨ _ = _; omega)⟩, rfl⟩) : P := h
theorem cL22 {P : Prop} (h : P := by exact ⟨_, by exact Wk.keep 169 _ _ _ rfl ⟨rfl, rfl, rfl, rfl, bCe (by first | exact (jI (by omega)).symm | exact (jJ (by omega)).symm | exact dcE (by omega)), bCe (by first | exact (jI (by omega)).symm | exact (jJ (by omega)).symm | exact dcE (by omega)), trivial⟩ ⟨rfl, rfl, trivial⟩ (fun _ _ h => h) rfl, rfl⟩) : P := h
theorem cL23 {P : Prop} (h : P := by refine AW.exit ?_; refine eth_e ?_; refine eth_e ?_; refine exit_here ?_; refine D1 ?_; exact aR (fE (e := iCe2 (by rw [← hI, qW (by rw [qA] at h9; omega), ixF])))) : P := h
theorem cL24 {P : Prop} (h : P := by iterate 3 refine oF ?_; refine G2 ?_; exact aR (fE (e := bCe (by rw [col_of hyes]; first | exact dF2 (by omega) | exact dT2 (by omega) | exact dcE (by omega))))) : P := h
theorem cL25 {P : Prop} (h : P := by refine AW.xwL 4 rfl (xr2 (.cons (XW.nilU (sz := 6)) (.cons (XW.nilU (sz := 1)) (.cons (XW.nilU (sz := 3)) (.cons (XW.nilU (sz := 8)) (.cons (XW.nilU (sz := 1)) (.cons (XW.nilU (sz := 10)) (.cons (XW.nilU (sz := 9)) (.cons (XW.nilU (sz := 2)) (xr4 (xr2 (xr1 (.cons (XW.nilU (sz := 8)) (.cons (XW.nilU (sz := 8)) (.cons (XW.nilU (sz := 2)) (xr2 (xr1 (.cons (XW.nilU (sz := 1)) (.cons (XW.nilU (sz := 5)) (.cons (XW.nilU (sz := 1)) .nil)))))))))))))))))))) ?_; exact aR (fin_x (x := .tup [_, _]) (H) (.cellL rfl rfl ty47 rfl rfl (.tmp rfl .nil)) rfl ((fun j o h => upd_sub (f := upd (upd (upd H ku (some (.tip 55 1 us.length))) kt (some (.tip 27 1 zs.length))) kw _) hkv j o (upd_sub (f := (upd (upd H ku (some (.tip 55 1 us.length))) kt (some (.tip 27 1 zs.length)))) hkw j o (upd_sub (f := upd H ku _) hkt j o (upd_sub hku j o h))))) (⟨bd0, _, rfl, fun k => absurd k (by first | decide | assumption), rfl⟩))) : P := h
theorem cL26 {P : Prop} (h : P := by refine AW.skip (B3 ?_); exact ⟨i + 1, _, by exact wK 68, by omega, ⟨hi, take_step hi hc (by simp at g45; omega), by omega⟩, rfl⟩) : P := h
theorem cL27 {P : Prop} (h : P := by refine AW.skip (B2 ?_); refine Z3 ?_; exact ⟨i + 1, _, by exact wK 19, by omega, ⟨hi, by rw [← hI, ixF_miss hi h16]⟩, rfl⟩) : P := h
theorem cL28 {P : Prop} (h : P := by iterate 3 refine oF ?_; refine G2 ?_; refine Z3 (AW.condF rfl ?_); refine AW.skip ?_; exact ⟨_, by exact wK 169, rfl⟩) : P := h
theorem cL29 {P : Prop} (h : P := by iterate 4 refine oF ?_; refine Z8 ?_; refine Z3 (AW.condT rfl ?_); refine D1 ?_; exact aR (fE (e := bCe (dF (fun h => by first | exact absurd h.1.1 (by rw [g7]; decide) | (first | (have := h.1; omega) | (have h9 := h.2.1 h0; omega) | exact h.2.2.2 ((con_kw h.1.1 h.2.2.1).1 h27))))))) : P := h
theorem cL30 {P : Prop} (h : P := by refine D1 ?_; exact aR (f1 (q := ⟨by rw [rb, if_neg (by rw [small_big (t := t) (i := i + 1) (by omega)]; simp)], rfl⟩))) : P := h
theorem cL31 {P : Prop} (h : P := by refine D3 ?_; refine AW.xwL 4 rfl (.cons XW.reA (.cons (XW.nilU (sz := 6)) (.cons (XW.nilU (sz := 1)) (.cons (XW.nilU (sz := 3)) (.cons (XW.nilU (sz := 8)) .nil))))) ?_; exact aR (fin_x (x := .tup [_, _]) (H) (.cellL rfl rfl ty72 rfl rfl (.tmp rfl .nil)) rfl ((fun j o h => upd_sub hkb j o (upd_sub hka j o h))) (⟨tbe (tbX_4 (fun h => hnk (h.2 i hi))), rfl⟩))) : P := h
theorem cL32 {P : Prop} (h : P := by refine AW.skip ?_; exact ⟨_, by exact wK 169, by (try simp only [qA] at *); omega, rfl⟩) : P := h
theorem cL33 {P : Prop} (h : P := by refine D1 ?_; exact aR (fE (e := iCe2 (by unfold lvR; grind)))) : P := h
theorem cL34 {P : Prop} (h : P := by refine AW.skip ?_; refine AW.condD rfl (fun _ => ?_) (fun hq => absurd h7 hq); refine D1 ?_; exact aR (fE (e := iCe2 (by unfold opsN; grind)))) : P := h
theorem cL35 {P : Prop} (h : P := by refine AW.skip (B3 ?_); exact ⟨i + 1, _, by exact wK 140, by omega, ⟨hi, upS hi hUi (⟨by omega, by omega, fun k => by first | exact jK (bnf g39) | omega, fun k => by first | exact bnf h49 | omega⟩)⟩, rfl⟩) : P := h
theorem cL36 {P : Prop} (h : P := by refine AW.skip (D1 ?_); refine SeqK.xw 55 rfl XW.tm0 ?_; refine G2 ?_; exact aR (f2 (.cellL rfl rfl ty199 rfl rfl (.tmp rfl .nil)) (⟨by rw [hlv, if_pos h9, if_neg (by omega), if_neg (by omega)]; rfl, rfl⟩))) : P := h
theorem cL37 {P : Prop} (h : P := by first | exact ⟨_, by exact wK 113, fx b.st.its[i].ex, fun _ => rfl, (hf _ (qC hi) (by assumption)).1, rfl⟩ | exact ⟨_, by exact wK 113, ByteArray.mk #[], fun k => absurd k (by assumption), qZ _, rfl⟩) : P := h
theorem cL38 {P : Prop} (h : P := by refine AW.skip ?_; exact ⟨_, by exact wK 162, by rintro ⟨a, b⟩; first | (rw [al_t hk2 (fit_f g98) (fit_f (by assumption))] at a; cases a; done) | (rw [al_t hk2 (fit_f g107) (fit_f h112)] at b; cases b; done) | (rw [al_t hk2 (fit_f (by assumption)) (fit_f (by assumption))] at b; cases b), rfl⟩) : P := h
theorem cL39 {P : Prop} (h : P := by refine D1 ?_; exact aR (fE (e := iCe2 (by unfold lvA; grind)))) : P := h
theorem cL40 {P : Prop} (h : P := by refine D3 ?_; exact aR (fin_x (x := .tup [_, _]) (H) (.cellL rfl rfl ty47 rfl rfl (.tmp rfl .nil)) rfl ((fun j o h => by first | exact upd_s2 hkg hk19 j o h | exact upd_s4 hkg hk19 j o h | exact upd_s1 hkg hk19 j o h)) (⟨_, bdXe (b := ⟨⟨st.k, st.tb, st.cr, st.vals, st.sets, (itsB (⟨ss, [], false⟩ : Sp) st.its []).1, st.frm, (cndB (⟨ss, [], false⟩ : Sp) st.wh).1, es, st.ord, st.lim, st.nm⟩, 0, ts, vs, []⟩) (e := 1) rfl (by rw [qr_1 hnf hE h107 h120 hG (.inr h168)]), fun k => absurd k (by rw [qr_1 hnf hE h107 h120 hG (.inr h168)]; first | decide | assumption), rfl⟩))) : P := h
theorem cL41 {P : Prop} (h : P := by refine AW.skip (B3 ?_); exact ⟨i + 1, _, by exact wK 58, by omega, ⟨hi, upS hi hU (by show (_ ∧ _) ∨ (_ ∧ (_ ∨ (_ ∧ _))); omega)⟩, rfl⟩) : P := h
theorem cL42 {P : Prop} (h : P := by refine D1 ?_; refine SeqK.xw 23 rfl XW.tm0 ?_; refine G2 ?_; exact aR (f2 (.cellL rfl rfl ty199 rfl rfl (.tmp rfl .nil)) (⟨by first | (rw [lenV_ne (.inl g8)]; rfl) | (rw [lenV_ne (.inr (by simp only [qA] at *; omega))]; rfl) | (rw [hlv, if_neg (by simp only [qA] at *; omega)]; rfl), rfl⟩))) : P := h
theorem cL43 {P : Prop} (h : P := by refine AW.skip (D3 ?_); exact aR (fin_x (x := .tup [_, _]) (H) (.cellL rfl rfl ty47 rfl rfl (.tmp rfl .nil)) rfl ((fun j o h => by first | exact upd_s2 hkg hk19 j o h | exact upd_s4 hkg hk19 j o h | exact upd_s1 hkg hk19 j o h)) (⟨_, bdXe (b := ⟨⟨st.k, st.tb, st.cr, st.vals, st.sets, (itsB (⟨ss, [], false⟩ : Sp) st.its []).1, st.frm, (cndB (⟨ss, [], false⟩ : Sp) st.wh).1, es, st.ord, st.lim, st.nm⟩, 0, ts, vs, []⟩) (e := 0) rfl (by rw [qr_ok hnf hE h107 h120 hG (bnf h155) h168]), fun _ => by rw [qr_ok hnf hE h107 h120 hG (bnf h155) h168], rfl⟩))) : P := h
theorem cL44 {P : Prop} (h : P := by exact ⟨_, by exact Wk.keep 34 _ _ _ rfl ⟨rfl, rfl, rfl, iCe2 (by first | rw [hc0, if_pos h9]; rfl | rw [hc0, if_neg h9]; rfl), trivial⟩ ⟨rfl, trivial⟩ (fun _ _ h => h) rfl, rfl⟩) : P := h
theorem cL45 {P : Prop} (h : P := by refine D1 ?_; exact aR (f1 (q := ⟨_, rfl, fun h => absurd h (by decide), rfl⟩))) : P := h
theorem cL46 {P : Prop} (h : P := by iterate 4 refine oF ?_; refine Z8 ?_; refine Z3 (AW.condT rfl ?_); refine D1 ?_; exact aR (fE (e := bCe (dF (fun h => by have h9 := (h.1 i hi).1; simp only [qA] at *; omega))))) : P := h
theorem cL47 {P : Prop} (h : P := by exact aR (f1 (q := ⟨rfl, rfl⟩))) : P := h
theorem cL48 {P : Prop} (h : P := by exact aR (fE (e := bCe (by first | (rw [show decide (nmQ u) = decide (u ∉ kwds) from decide_eq_decide.2 ⟨fun h => (nm_iff.1 h).2.2, fun h => nm_iff.2 ⟨hA, ⟨by omega, by omega⟩, h⟩⟩]; simp; done) | exact dF (fun h => by have h9 := h.1; omega))))) : P := h
theorem cL49 {P : Prop} (h : P := by exact aR (f1 (q := ⟨_, rfl, by (try simp only [qE]); omega, rfl⟩))) : P := h
theorem cL50 {P : Prop} (h : P := by refine AW.skip (B2 ?_); refine Z3 ?_; exact ⟨i + 1, _, by exact wK 55, by omega, ⟨hi, upS hi hU (by show (_ ∧ _) ∨ (_ ∧ _) ∨ _ = _; omega)⟩, rfl⟩) : P := h
theorem cL51 {P : Prop} (h : P := by refine G2 ?_; exact aR (fE (e := bCe (by simp [ltP, *])))) : P := h
theorem cL52 {P : Prop} (h : P := by refine D1 ?_; exact aR (fE (e := bCe (by first | (rw [fm_no1 (by rw [qA] at g11; exact g11)]; done) | (rw [fm_no2 (by rw [← any_not, h15]; rfl)]))))) : P := h
theorem cL53 {P : Prop} (h : P := by iterate 3 refine oF ?_; refine Z8 ?_; refine Z3 (AW.condT rfl ?_); refine D1 ?_; exact aR (fE (e := bCe (dF (fun h => by first | (have := h.1; omega) | (have h9 := h.2.1 h0; omega)))))) : P := h
theorem cL54 {P : Prop} (h : P := by exact aR (fE (e := iCe2 (by first | exact fl_t (htm.2 ⟨g13, by simp at h19; omega⟩) | exact fl_f (fun k => absurd (htm.1 k).2 (by simp at h19; omega)) | exact fl_f (fun k => absurd (htm.1 k).1 (by omega)))))) : P := h
theorem cL55 {P : Prop} (h : P := by iterate 5 refine oF ?_; refine G2 ?_; exact aR (fin_x (x := .c _) (H) (.tmp rfl .nil) rfl ((fun j o h => upd_s2 hk1 hk3 j o h)) (⟨bCe (by rw [← grd_f (by first | (rintro ⟨k, _⟩; (try simp only [qA] at g9); omega) | (rintro ⟨_, k⟩; rw [k] at h15; cases h15))]; first | (rw [jI (by (try simp only [qA] at g21); omega)]; rfl) | (rw [jJ (by (try simp only [qA] at g21); omega)]; rfl)), rfl⟩))) : P := h
theorem cL56 {P : Prop} (h : P := by refine D2 ?_; exact aR (fE (e := iCe2 (by rw [← hI, ixF_hit hi h16])))) : P := h
theorem cL57 {P : Prop} (h : P := by refine D2 ?_; refine SeqK.callE rfl rfl rfl rfl fn24 rfl (rupdate_any d z st hd hst.ch ⟨hx, hst.qr.il⟩ _) (fun _ _ h => by obtain ⟨_, _, h, _⟩ := h; rw [h]; rfl) (fun x23 H23 q23 => ?_); obtain ⟨b, e0, rfl, hb, e23⟩ := q23; replace e23 := e23.symm; subst e23; refine G4 ?_; exact aR (f2 (.cellL rfl rfl ty47 rfl rfl (.tmp rfl .nil)) (⟨_, _, rfl, fun k => hb k, rfl⟩))) : P := h
theorem cL58 {P : Prop} (h : P := by refine D1 ?_; exact aR (fE (e := iCe2 (by unfold opsN; grind)))) : P := h
theorem cL59 {P : Prop} (h : P := by exact aR (f1 (q := ⟨_, rfl, fun h => ⟨(by first | omega | (have := jK h; omega) | cases h), A1, A2, A3, fun k => by omega, fun k => by omega, fun k => by omega, fun k => by omega⟩, rfl⟩))) : P := h
theorem cL60 {P : Prop} (h : P := by rw [qT] at hzs; refine AW.xw 3 rfl (XW.ts.trans (XW.es hzs)) ?_; refine B2 ?_; exact aR (fin_x (x := .c _) (H) (.tmp rfl .nil) rfl ((fun j o h => upd_sub hkt j o h)) (⟨rfl, rfl⟩))) : P := h
theorem cL61 {P : Prop} (h : P := by refine D1 ?_; refine SeqK.xw 76 rfl XW.tm0 ?_; refine G2 ?_; exact aR (f2 (.cellL rfl rfl ty199 rfl rfl (.tmp rfl .nil)) (⟨by rw [comb, if_neg h14, if_neg h21, if_neg h37, if_pos (by first | exact .inl (by simp only [qA] at *; omega) | (have k := nd_t (by simpa using h75 : (!decide (1 ≤ b.c ∧ b.c ≤ 1000)) = true); omega))]; rfl, rfl⟩))) : P := h
theorem cL62 {P : Prop} (h : P := by exact aR (fE (e := bCe (by first | exact dI ⟨fun h => ⟨by omega, h⟩, fun h => h.2⟩ | exact dF (fun h => by omega))))) : P := h
theorem cL63 {P : Prop} (h : P := by exact aR (fE (e := bCe (by first | rfl | exact (jI (by omega)).symm | exact (jJ (by omega)).symm | exact dcE (by omega))))) : P := h
theorem cL64 {P : Prop} (h : P := by refine AW.skip ?_; exact ⟨_, by exact wK 169, rfl⟩) : P := h
theorem cL65 {P : Prop} (h : P := by exact aR (fin_x (x := .c _) (H) (.tmp rfl .nil) rfl ((fun j o h => upd_sub hk3 j o h)) (⟨bCe (by first | (rw [jI g8]; simp [*]; done) | (rw [jJ g8]; rfl) | simp [*]), rfl⟩))) : P := h
theorem cL66 {P : Prop} (h : P := by exact aR (f1 (q := ⟨_, rfl, fun h => (by first | cases h; done | exact ⟨jK g7, jK g11, g15, hn17 (jK h)⟩), rfl⟩))) : P := h
theorem cL67 {P : Prop} (h : P := by refine AW.exit ?_; refine eth_e ?_; refine eth_e ?_; refine exit_here ?_; refine AW.seq ?_; obtain rfl := oE h59 hi0; rw [qT] at hzs; refine AW.xw 5 rfl (XW.ts.trans (XW.es hzs)) ?_; refine B2 ?_; exact aR (fin_x (x := .c _) (H) (.tmp rfl .nil) rfl ((fun j o h => upd_sub hkt j o h)) (⟨hde (hd_e h15 hP), rfl⟩))) : P := h
theorem cL68 {P : Prop} (h : P := by refine B3 ?_; refine SeqK.app1 rfl (hkt) rfl el51 rfl rfl (by simp; omega) rfl rfl (fun k111 hk111 => ?_); refine sB ?_; refine B3 ?_; exact ⟨i + 1, _, by exact wK 113, by omega, k111, zs ++ [txT (ttB b.st.its[i] (fx b.st.its[i].ex))], ⟨hi, hk111, by rw [hzs, map_take2 hi, ← qO, qK (l₂ := [_])]; rfl, by simp; omega⟩, rfl⟩) : P := h
theorem cL69 {P : Prop} (h : P := by refine AW.skip ?_; exact ⟨_, by exact wK 162, hal, by rintro ⟨k1, k2, k3⟩; first | omega | (rw [getD_at h01] at k2; rw [getD_at h12] at k3; simp_all; done), rfl⟩) : P := h
theorem cL70 {P : Prop} (h : P := by refine Spec.enter Tryz.func120 rfl ?_; refine AW.wk (wK 9 (l := [(0, .c (exsC z l)), (1, .c (.a (.fn f cs)))]) (ll := []) (H := (H))) ?_; refine D1 ?_; refine D2 ?_; refine SeqK.r (g_call rfl fn155 rfl (idxF_ex H f cs gv l z hfn hl hcall) rfl rfl rfl) rfl ?_; refine G2 ?_; exact aR (fE (e := bCe (bI (ixF_any l 0).symm).symm))) : P := h
theorem cL71 {P : Prop} (h : P := by refine D1 ?_; exact aR (f1 (q := ⟨timesX (timesI_big (by first | exact big_l (by omega) hb0 | exact big_r (by omega) ha0 | exact (quo_lt hb0).1 h26)).symm, rfl⟩))) : P := h
theorem cL72 {P : Prop} (h : P := by refine D2 ?_; exact aR (f2 (.tmp rfl (.tmp rfl .nil)) (⟨i2e (ru_e (k := 0) (by rw [opI, if_neg (by omega), if_neg (by omega), if_neg (by omega), if_neg (by omega), if_neg (by omega), isI, if_neg (by first | (rw [al_1 hk2 (fit_t g157)]; simp; done) | (rw [al_2 hk2 (fit_t h161)]; simp; done))]) (by decide)), rfl⟩))) : P := h
theorem cL73 {P : Prop} (h : P := by refine AW.skip (D3 ?_); refine sQ (q_call _ rfl fn166 rfl (rscale_any a b.c ha (by omega) (by omega)) rfl) ?_; refine G4 ?_; exact aR (f2 (.cellL rfl rfl ty199 rfl rfl (.tmp rfl .nil)) (⟨by rw [comb_mul h37 (by simp only [qA] at *; omega) ha hb, if_neg (by simp only [qA] at *; omega)]; rfl, rfl⟩))) : P := h
theorem cL74 {P : Prop} (h : P := by refine D1 ?_; exact aR (fE (e := bCe (dF (fun h => by have h9 := (h.1 i hi).2.2.2.1 j hj; first | omega | exact nd_t g105 h9.2.1 | exact nd_t h114 h9.2.2))))) : P := h
theorem cL75 {P : Prop} (h : P := by refine D3 ?_; refine sQ (q_call _ rfl fn166 rfl (rscale_any b a.c hb (by omega) (by omega)) rfl) ?_; refine G4 ?_; exact aR (f2 (.cellL rfl rfl ty199 rfl rfl (.tmp rfl .nil)) (⟨by rw [comb_mul h37 (by simp only [qA] at *; omega) ha hb, if_pos (by simp only [qA] at *; omega)]; rfl, rfl⟩))) : P := h
theorem cL76 {P : Prop} (h : P := by refine D1 ?_; exact aR (fE (e := bCe (dF2 (fun k => by first | exact hn1 (k.2.2.1 i hi).1 | exact hn2 (k.2.2.1 i hi).2.1 | exact hn3 (k.2.2.1 i hi).2.2))))) : P := h
theorem cL77 {P : Prop} (h : P := by refine AW.skip ?_; exact ⟨_, by exact wK 162, hal, hM, by rintro ⟨k1, k2⟩; first | omega | (rw [getD_at h12] at k2; exact k2 (nd_f h71)), rfl⟩) : P := h
theorem cL78 {P : Prop} (h : P := by refine AW.exit ?_; refine eth_e ?_; refine eth_e ?_; refine exit_here ?_; refine AW.seq ?_; have hA := upE hU (by omega); refine B2 ?_; refine sQ (q_leq rfl rfl rfl) ?_; refine sB ?_; exact aR (fE (e := bCe (dI ⟨fun h => ⟨hA, by omega⟩, fun h => by have := h.2; omega⟩)))) : P := h
theorem cL79 {P : Prop} (h : P := by refine D2 ?_; refine AW.xw 4 rfl (XW.nilU (sz := 9)) ?_; exact aR (fin_x (x := .tup [_, _]) (H) (.tmp rfl (.tmp rfl .nil)) rfl ((fun j o h => upd_sub hkt j o h)) (⟨ite' (a := ([], 6)) (it_e6 hi hI h20 h30 (by first | exact .inl g34 | exact .inr ⟨g38, bnt h43⟩)), rfl⟩))) : P := h
theorem cL80 {P : Prop} (h : P := by exact aR (f1 (q := ⟨by unfold ttB; simp [*], rfl⟩))) : P := h
theorem cL81 {P : Prop} (h : P := by refine D1 ?_; exact aR (fE (e := bCe (dF (fun h => by have h9 := (h.1 i hi).1; first | exact nd_t h39 h9.2.2 | (simp only [qA] at *; omega)))))) : P := h
theorem cL82 {P : Prop} (h : P := by exact ⟨_, by exact Wk.keep 171 _ _ _ rfl ⟨rfl, rfl, rfl, rfl, rfl, rfl, rfl, rfl, rfl, rfl, rfl, rfl, trivial⟩ ⟨rfl, rfl, rfl, rfl, rfl, trivial⟩ (fun j o h => by first | (rw [frN_t h56] at h; exact upd_3 j o h) | (rw [frN_f h56] at h; exact upd_2 j o h)) rfl, rfl⟩) : P := h
theorem cL83 {P : Prop} (h : P := by refine AW.xw 4 rfl XW.ts ?_; refine AW.xw 4 rfl XW.un ?_; exact aR (fin_x (x := .c _) (H) (.tmp rfl .nil) rfl (fun j o h => by show upd H _ _ j = _; rw [upd_ne _ _ (fun e => by subst e; simp_all)]; exact h) (⟨by rw [hpb] at hI; rw [← hI, hzs]; simp [insG], rfl⟩))) : P := h
theorem cL84 {P : Prop} (h : P := by refine D3 ?_; refine SeqK.xw 52 rfl XW.pt0 ?_; refine G1 ?_; refine SeqK.xw 53 rfl .un ?_; refine G3 ?_; exact aR (f2 (.cellL rfl rfl ty199 rfl rfl (.tmp rfl .nil)) (⟨by rw [hlv, if_pos h9, if_neg (by omega), if_pos ⟨g45, h49⟩]; rfl, rfl⟩))) : P := h
theorem cL85 {P : Prop} (h : P := by refine B2 ?_; exact aR (fE (e := iCe2 (by rw [hf])))) : P := h
theorem cL86 {P : Prop} (h : P := by refine AW.exit ?_; refine eth_e ?_; refine eth_e ?_; refine exit_here ?_; refine D4 ?_; exact aR (fE (e := bCe (dcE ⟨fun k => ⟨(upE hUi (by (try rw [qA] at h7); omega)), by (try rw [qA] at k); omega⟩, fun k => by have := k.2; (try rw [qA]); omega⟩)))) : P := h
theorem cL87 {P : Prop} (h : P := by refine AW.skip (D2 ?_); exact aR (f2 (.tmp rfl (.tmp rfl .nil)) (⟨i2e (ru_o (op_ar h38o (by rw [arI, if_neg (okN1 (e := e) hal), if_neg hM, if_neg hD]; first | exact if_pos (bnf h74) | (rw [if_neg (by rw [bnt h74]; simp)]; exact qY.1 h81)))), rfl⟩))) : P := h
theorem cL88 {P : Prop} (h : P := by refine AW.skip ?_; refine AW.condD rfl (fun _ => ?_) (fun hq => absurd h12 hq); refine D2 ?_; refine Z16 fn124 (ha) ?_; refine G2 ?_; exact aR (f2 (.tmp rfl (.tmp rfl .nil)) (⟨i2e (a := (1, arI e ks)) (by rw [opI, if_pos (by omega)]), rfl⟩))) : P := h
theorem cL89 {P : Prop} (h : P := by refine D1 ?_; exact aR (fE (e := bCe (dF (fun h => by have h9 := h.1 i hi; omega))))) : P := h
theorem cL90 {P : Prop} (h : P := by exact ⟨_, by exact Wk.keep 108 _ _ _ rfl ⟨rfl, rfl, rfl, iCe2 (by unfold lfN; rw [← hlv]; first | (rw [if_pos h88]; done) | (rw [if_neg h88]; done)), iCe2 (by rw [← hlv]), trivial⟩ ⟨rfl, trivial⟩ (fun _ _ h => h) rfl, rfl⟩) : P := h
theorem cL91 {P : Prop} (h : P := by refine D3 ?_; exact aR (fin_x (x := .tup [_, _, _]) (H) (.tmp rfl (.tmp rfl (.tmp rfl .nil))) rfl (fun _ _ h => h) (⟨i3e (a := (0, 0, 4)) (by rw [colS, if_pos (by assumption), if_pos (by (try simp only [qA] at *); omega)]), rfl⟩))) : P := h
theorem cL92 {P : Prop} (h : P := by iterate 12 refine LexK.off rfl rfl rfl rfl rfl rfl ?_; refine lQ (q_pkF rfl rfl rfl) ?_; refine Z38 ?_; refine AW.condF rfl ?_; refine AW.skip (B3 ?_); exact ⟨k + 1, _, by exact wK 220, by omega, (by omega), rfl⟩) : P := h
theorem cL93 {P : Prop} (h : P := by refine D2 ?_; exact aR (f2 (.tmp rfl (.tmp rfl .nil)) (⟨i2e (ru_e (op_ar h38o (by rw [arI, if_neg (okN1 (e := e) hal), if_neg hM, if_pos ⟨by omega, by rw [getD_at h12]; exact nd_t h71⟩])) (by decide)), rfl⟩))) : P := h
theorem cL94 {P : Prop} (h : P := by refine D6 ?_; refine Z16 fn233 (ints_any _ _) ?_; refine sB ?_; exact aR (f1 (q := ⟨by rw [rcmp_end hi0.1 hi0.2 (by simp only [qA] at *; omega) hI, if_pos (by simp only [qA] at *; omega), qA, qA], rfl⟩))) : P := h
theorem cL95 {P : Prop} (h : P := by refine G2 ?_; exact aR (fin_x (x := .c _) (H) (.tmp rfl .nil) rfl ((fun j o h => upd_sub hk3 j o h)) (⟨bCe (by rw [cnB_eq]; first | (rw [g8]; simp; done) | (rw [show p e = false by simpa using g8]; simp)), rfl⟩))) : P := h
theorem cL96 {P : Prop} (h : P := by refine AW.skip (D4 ?_); refine Z16 fn233 (ints_any _ _) ?_; refine sB ?_; exact aR (f1 (q := ⟨by rw [rcmp_end hi0.1 hi0.2 (by simp only [qA] at *; omega) hI, if_neg (by simp only [qA] at *; omega)], rfl⟩))) : P := h
theorem cL97 {P : Prop} (h : P := by refine D4 ?_; exact aR (f2 (.cellL rfl rfl ty199 rfl rfl (.tmp rfl .nil)) (⟨by rw [comb, if_neg h14, if_neg h21, if_neg h37, if_neg (by omega), if_pos (by first | exact .inl g86 | exact .inr h89)]; rfl, rfl⟩))) : P := h
theorem cL98 {P : Prop} (h : P := by exact ⟨_, by exact Wk.keep 99 _ _ _ rfl ⟨rfl, rfl, rfl, iCe2 (by unfold lfN; first | (rw [if_pos h76]; done) | (rw [if_neg h76]; done)), trivial⟩ ⟨rfl, rfl, trivial⟩ (fun _ _ h => h) rfl, rfl⟩) : P := h
theorem cL99 {P : Prop} (h : P := by refine AW.skip (B3 ?_); exact ⟨i + 1, _, by exact wK 100, by omega, ⟨hi, upS hi hUi (hyes)⟩, rfl⟩) : P := h
theorem cL100 {P : Prop} (h : P := by refine AW.skip (D1 ?_); exact aR (fE (e := iCe2 (by unfold lvR; grind)))) : P := h
theorem cL101 {P : Prop} (h : P := by refine sB ?_; refine D1 ?_; refine sQ (q_max rfl rfl rfl) ?_; refine G4 ?_; exact aR (fin_x (x := .tup [_, _]) (H) (.tmp rfl (.tmp rfl .nil)) rfl ((fun j o h => upd_sub hk3 j o h)) (⟨rfl, rfl⟩))) : P := h
theorem cL102 {P : Prop} (h : P := by refine D2 ?_; exact aR (f2 (.tmp rfl (.tmp rfl .nil)) (⟨i2e (ru_e (op_ar h38o (by rw [arI, if_pos (by first | exact al_1 hk2 (fit_t g34) | exact al_2 hk2 (fit_t h38))])) (by decide)), rfl⟩))) : P := h
theorem cL103 {P : Prop} (h : P := by refine D6 ?_; refine Z16 fn233 (ints_any _ _) ?_; refine sB ?_; exact aR (f1 (q := ⟨by simp only [qA] at *; rw [cmpP_eq, if_neg h9, if_neg h19, if_neg h29, cmpO_none (by omega)], rfl⟩))) : P := h
theorem cL104 {P : Prop} (h : P := by exact aR (fE (e := iCe2 (by first | (rw [vdN, if_pos h3a]; done) | (rw [vdN, if_neg h3a]; simp_all))))) : P := h
theorem cL105 {P : Prop} (h : P := by refine B2 ?_; refine sQ (q_leq rfl rfl rfl) ?_; refine sB ?_; exact aR (fE (e := bCe (dI ⟨fun h => ⟨hW, by rw [qA] at h; omega⟩, fun h => by have := h.2; rw [qA]; omega⟩)))) : P := h
theorem cL106 {P : Prop} (h : P := by exact ⟨_, by exact Wk.keep 162 _ _ _ rfl ⟨rfl, rfl, rfl, rfl, iCe2 (by first | exact gd_yes k0 | exact gd_none k0), rfl, trivial⟩ ⟨rfl, trivial⟩ (fun _ _ h => h) rfl, rfl⟩) : P := h
theorem cL107 {P : Prop} (h : P := by exact ⟨_, by exact Wk.keep 162 _ _ _ rfl ⟨rfl, rfl, rfl, rfl, iCe2 (by first | exact gd_yes k1 | exact gd_none k1), trivial⟩ ⟨rfl, trivial⟩ (fun _ _ h => h) rfl, rfl⟩) : P := h
theorem cL108 {P : Prop} (h : P := by refine AW.skip (B3 ?_); exact ⟨i + 1, _, by exact wK 25, by omega, ⟨hi, upS hi hU (by rintro ⟨a, b⟩; first | contradiction | exact absurd b (by assumption))⟩, rfl⟩) : P := h
theorem cL109 {P : Prop} (h : P := by refine B3 ?_; exact ⟨j + 1, _, by exact wK 160, by omega, hj, rfl⟩) : P := h
theorem cL110 {P : Prop} (h : P := by have hf3 := (fmE_iff c).1 (hf2 c hm); exact ih (hc2 c hm) (by have := hf3.1; omega) (fun x hx => by have := ((fmE_iff x).1 (hf3.2 x hx)).1; omega) (hf2 c hm)) : P := h
theorem cL111 {P : Prop} (h : P := by refine AW.exit ?_; refine eth_e ?_; refine eth_e ?_; refine exit_here ?_; refine D1 ?_; exact aR (fE (e := bCe (dT (eq_up hlen (upE hU (by rw [qA] at h14; omega))))))) : P := h
theorem cL112 {P : Prop} (h : P := by exact ⟨i + 1, _, by exact wK 23, by omega, ⟨hi, upS (Q := fun j h => 32 ≤ u.data.toList[j].toNat ∧ u.data.toList[j].toNat ≤ 126) hi hU (by omega)⟩, rfl⟩) : P := h
theorem cL113 {P : Prop} (h : P := by refine G2 ?_; exact aR (fE (e := bCe (bI (ixF_any l 0).symm).symm))) : P := h
theorem cL114 {P : Prop} (h : P := by refine AW.skip (B3 ?_); exact ⟨i + 1, _, by exact wK 26, by omega, ⟨hi, upS hi hU (by rw [qF hi, qF hib, show a[i] = b[i] from qY.1 h25])⟩, rfl⟩) : P := h
theorem cL115 {P : Prop} (h : P := by exact aR (fE (e := bCe (by unfold cstE; simp [*]; done)))) : P := h
theorem cL116 {P : Prop} (h : P := by refine AW.skip ?_; exact ⟨_, by exact wK 220, rfl⟩) : P := h
theorem cL117 {P : Prop} (h : P := by refine D1 ?_; exact aR (fE (e := bCe (dF2 (fun k => by first | exact hnc (k.1 i hi).1 | (have := (k.1 i hi).2; rw [hno] at this; cases this)))))) : P := h
theorem cL118 {P : Prop} (h : P := by refine AW.skip (B2 ?_); refine Z3 ?_; exact ⟨i + 1, _, by exact wK 35, by omega, n + ndE l[i], ⟨hi, by rw [hn, ndS_take hi]⟩, rfl⟩) : P := h
theorem cL119 {P : Prop} (h : P := by refine AW.skip ?_; exact ⟨_, by exact wK 169, by first | exact fun h => absurd (jK (bnf g126)).1 h | exact fun _ => bnf h139, rfl⟩) : P := h
theorem cL120 {P : Prop} (h : P := by exact absurd (by decide) h70) : P := h
theorem cL121 {P : Prop} (h : P := by refine D1 ?_; exact aR (fE (e := bCe (dT (fun h => by first | exact nd_t g13 h.1.1 | (have := h.1.2; rw [qA] at h18; omega)))))) : P := h
theorem cL122 {P : Prop} (h : P := by refine D1 ?_; refine AW.xw 2 rfl (XW.nilU (sz := 2)) ?_; exact aR (f1 (q := ⟨by rw [map_nil' (hb1 h4)]; rfl, rfl⟩))) : P := h
theorem cL123 {P : Prop} (h : P := by exact aR (fE (e := bCe (by rw [col_of hyes]; first | exact dF2 (by omega) | exact dT2 (by omega) | exact dcE (by omega))))) : P := h
theorem cL124 {P : Prop} (h : P := by refine sB ?_; exact aR (fin_x (x := .c _) (H) (.tmp rfl .nil) rfl ((fun j o h => upd_sub hkt j o h)) (⟨sCe rfl, rfl⟩))) : P := h
theorem cL125 {P : Prop} (h : P := by obtain ⟨b, hb, rfl⟩ := jE.1 ha; exact ih b hb (h.2 b hb)) : P := h
theorem cL126 {P : Prop} (h : P := by refine D1 ?_; refine AW.xw 4 rfl (XW.nilU (sz := 1)) ?_; exact aR (f1 (q := ⟨hde (a := []) (hd_0 h15), rfl⟩))) : P := h
theorem cL127 {P : Prop} (h : P := by refine G2 ?_; exact aR (f1 (q := ⟨_, rfl, fun h => (by first | exact ⟨A1, A3, A4, jK h⟩ | cases h), rfl⟩))) : P := h
theorem cL128 {P : Prop} (h : P := by refine D1 ?_; exact aR (fE (e := bCe (dF (fun h => by have := h i hi; first | omega | (rw [qA] at *; omega)))))) : P := h
theorem cL129 {P : Prop} (h : P := by refine G4 ?_; exact aR (f2 (.cellL rfl rfl ty47 rfl rfl (.tmp rfl .nil)) (⟨_, _, rfl, fun k => hb k, rfl⟩))) : P := h
theorem cL130 {P : Prop} (h : P := by refine AW.skip (B3 ?_); exact ⟨i + 1, _, by exact wK 140, by omega, ⟨hi, upS hi hUi (trivial)⟩, rfl⟩) : P := h
theorem cL131 {P : Prop} (h : P := by refine AW.skip (B3 ?_); exact ⟨i + 1, _, by exact wK 47, by omega, ⟨hi, upS hi hU (by omega)⟩, rfl⟩) : P := h
theorem cL132 {P : Prop} (h : P := by refine D1 ?_; exact aR (fE (e := bCe (dT (fun h => by have := h.2.2.2 j hj; simp only [qA] at *; omega))))) : P := h
theorem cL133 {P : Prop} (h : P := by refine G2 ?_; exact aR (f2 (.tmp rfl (.tmp rfl .nil)) (⟨tup2E (by rw [fxT, if_pos h8b]) h8b.symm, rfl⟩))) : P := h
theorem cL134 {P : Prop} (h : P := by refine D3 ?_; exact aR (f2 (.tmp rfl (.tmp rfl .nil)) (⟨tup2E (by rw [fxT, if_neg h8]) rfl, rfl⟩))) : P := h
theorem cL135 {P : Prop} (h : P := by exact aR (fE (e := iCe2 (by first | (rw [show n = 2 by omega]; rfl) | (rw [show n = 0 by omega]; rfl))))) : P := h
theorem cL136 {P : Prop} (h : P := by rw [B.args] at ha; obtain ⟨b, hb, rfl⟩ := jE.1 ha; exact ih b hb (hF.2 b hb) (B.ok b hb)) : P := h
theorem cL137 {P : Prop} (h : P := by refine AW.skip (D1 ?_); exact aR (f1 (q := ⟨_, rfl, fun _ => ⟨htot, hdp, hb41 hbt⟩, rfl⟩))) : P := h
theorem cL138 {P : Prop} (h : P := by exact ⟨_, by exact wK 220, _, rfl⟩) : P := h
theorem cL139 {P : Prop} (h : P := by exact aR (fE (e := iCe2 (by unfold vdN; simp_all)))) : P := h
theorem cL140 {P : Prop} (h : P := by exact aR (f1 (q := ⟨by simp [ints, *], rfl⟩))) : P := h
theorem cL141 {P : Prop} (h : P := by exact aR (fE (e := iCe2 (by omega)))) : P := h
theorem cL142 {P : Prop} (h : P := by obtain ⟨j, hj, rfl⟩ := qN.1 he; exact hU j hj (by (try rw [qA] at h31); omega)) : P := h
theorem cL143 {P : Prop} (h : P := by refine D1 ?_; exact aR (f1 (q := ⟨timesX (timesI_zero (by omega)).symm, rfl⟩))) : P := h
theorem cL144 {P : Prop} (h : P := by exact aR (fE (e := bCe (by first | exact dF2 (by omega) | exact dcE (by omega))))) : P := h
theorem cL145 {P : Prop} (h : P := by refine D1 ?_; exact aR (fE (e := bCe (dF (fun h => h25 (by subst h; rfl)))))) : P := h
theorem cL146 {P : Prop} (h : P := by refine D1 ?_; exact aR (fE (e := bCe (dF (fun h => h10 (by subst h; simp)))))) : P := h
theorem eL147 {P Q : Prop} (k : Q) (h : Hd Q → P := by intro k'; refine AW.exit ?_; refine eth_e ?_; refine eth_e ?_; exact exit_here k'.1) : P := h ⟨k⟩
theorem eL148 {P Q : Prop} (k : Q) (h : Hd Q → P := by intro k'; refine B3 ?_; refine sQ (q_call _ rfl fn202 rfl (rabs_any _ (by simp at *; omega)) rfl) ?_; refine sM ?_; refine sQ (q_mul _ rfl rfl rfl (mulB (b := bndP t.ps[i]) (by omega) hle)) ?_; refine sQ (q_add _ rfl rfl rfl ((by rw [bndPs_take hi, w64 (by omega) (by omega)]; push_cast; omega : IntKind.i64.wrap _ = ((t.c.natAbs + bndPs (t.ps.take (i + 1)) : Nat) : Int)))) ?_; refine sB ?_; refine D2 ?_; exact Z3 k'.1) : P := h ⟨k⟩
theorem eL149 {P Q : Prop} (k : Q) (h : Hd Q → P := by intro k'; refine sO (q_build2 (zs := [_, _, _]) (r := [_, _, _]) [(0, 1), (1, 1), (2, 1)] _ rfl ze35 rfl bp35 rfl rfl rfl rfl) ?_; exact sO (q_eqlG [.int .i64 e.vk, .int .i64 e.vn, .string e.vs] [.int .i64 0, .int .i64 0, .string ⟨#[]⟩] rfl rfl rfl rfl rfl (by kernel_rfl) (fun w => eq25 _ _ _ _ _ _ w)) k'.1) : P := h ⟨k⟩
theorem eL150 {P Q : Prop} (k : Q) (h : Hd Q → P := by intro k'; refine AW.seq (D5 ?_); exact Z3 k'.1) : P := h ⟨k⟩
theorem eL151 {P Q : Prop} (k : Q) (h : Hd Q → P := by intro k'; exact lQ (q_build2 (zs := [_, _, _, _, _, _, _, _, _, _, _, _, _, _, _, _, _, _, _, _, _, _, _, _, _, _]) (r := [_, _, _, _, _, _, _, _, _, _, _, _, _, _, _, _, _, _, _, _, _, _, _, _, _, _]) [(0, 22), (22, 1), (23, 1), (24, 1), (25, 1)] _ rfl ze47 rfl bp47 rfl rfl rfl rfl) k'.1) : P := h ⟨k⟩
theorem eL152 {P Q : Prop} (k : Q) (h : Hd Q → P := by intro k'; exact AW.skip (AW.seq (AW.block (D3 k'.1)))) : P := h ⟨k⟩
theorem eL153 {P Q : Prop} (k : Q) (h : Hd Q → P := by intro k'; refine AW.seq (D2 ?_); exact Z3 k'.1) : P := h ⟨k⟩
theorem eL154 {P Q : Prop} (k : Q) (h : Hd Q → P := by intro k'; refine G1 ?_; refine SeqK.r (g_callV (f := f) (cs := cs) rfl rfl hfn rfl (hcall _ (qC hi) _ (fun _ _ h => h)) rfl rfl rfl) rfl ?_; exact Z3 k'.1) : P := h ⟨k⟩
theorem eL155 {P Q : Prop} (k : Q) (h : Hd Q → P := by intro k'; refine AW.seq (D4 ?_); exact Z3 k'.1) : P := h ⟨k⟩
theorem eL156 {P Q : Prop} (k : Q) (h : Hd Q → P := by intro k'; refine Z8 ?_; exact Z3 (AW.condT rfl k'.1)) : P := h ⟨k⟩
theorem eL157 {P Q : Prop} (k : Q) (h : Hd Q → P := by intro k'; refine G2 ?_; exact Z3 (AW.condT rfl k'.1)) : P := h ⟨k⟩
theorem eL158 {P Q : Prop} (k : Q) (h : Hd Q → P := by intro k'; refine D2 ?_; refine sQ (q_index _ rfl sl27 rfl rfl (by omega) (idx_ex (show 0 < e.args.length by omega))) ?_; exact G1 k'.1) : P := h ⟨k⟩
theorem eL159 {P Q : Prop} (k : Q) (h : Hd Q → P := by intro k'; exact AW.skip (AW.seq (AW.block (D2 k'.1)))) : P := h ⟨k⟩
theorem eL160 {P Q : Prop} (k : Q) (h : Hd Q → P := by intro k'; refine Z3 (AW.block (sR (Z7 ?_))); exact sB k'.1) : P := h ⟨k⟩
theorem eL161 {P Q : Prop} (k : Q) (h : Hd Q → P := by intro k'; exact AW.seq (D1 k'.1)) : P := h ⟨k⟩
theorem eL162 {P Q : Prop} (k : Q) (h : Hd Q → P := by intro k'; exact LexO.q rfl (by kernel_rfl) (q_mvC rfl rfl) rfl rfl rfl k'.1) : P := h ⟨k⟩
theorem eL163 {P Q : Prop} (k : Q) (h : Hd Q → P := by intro k'; exact LexO.q rfl (by kernel_rfl) (q_addS rfl rfl rfl (by first | omega | (simp only [qE]; omega))) rfl rfl rfl k'.1) : P := h ⟨k⟩
theorem eL164 {P Q : Prop} (k : Q) (h : Hd Q → P := by intro k'; refine G2 ?_; exact Z3 (AW.condF rfl k'.1)) : P := h ⟨k⟩
theorem eL165 {P Q : Prop} (k : Q) (h : Hd Q → P := by intro k'; refine G2 ?_; exact Z3 k'.1) : P := h ⟨k⟩
theorem eL166 {P Q : Prop} (k : Q) (h : Hd Q → P := by intro k'; refine sB ?_; exact B3 k'.1) : P := h ⟨k⟩
theorem eL167 {P Q : Prop} (k : Q) (h : Hd Q → P := by intro k'; exact AW.skip (AW.seq (AW.block (AW.seq (AW.draw mo k'.1))))) : P := h ⟨k⟩
theorem eL168 {P Q : Prop} (k : Q) (h : Hd Q → P := by intro k'; exact lQ (q_build2 (zs := [_, _, _, _, _, _, _, _, _, _, _, _, _, _, _, _, _, _, _, _, _, _]) (r := [_, _, _, _, _, _, _, _, _, _, _, _, _, _, _, _, _, _, _, _, _, _]) [(0, 1), (1, 1), (2, 4), (6, 1), (7, 1), (8, 1), (9, 1), (10, 8), (18, 1), (19, 1), (20, 1), (21, 1)] _ rfl ze40 rfl bp40 rfl rfl rfl rfl) k'.1) : P := h ⟨k⟩
theorem eL169 {P Q : Prop} (k : Q) (h : Hd Q → P := by intro k'; refine G3 ?_; refine sO (q_call _ rfl fn202 rfl (rabs_any _ (by simp at *; omega)) rfl) ?_; refine sO (q_quo _ rfl rfl rfl (by omega) (quoI (x := 2 ^ 60) (by omega))) ?_; refine G3 ?_; exact Z3 k'.1) : P := h ⟨k⟩
theorem eL170 {P Q : Prop} (k : Q) (h : Hd Q → P := by intro k'; refine G2 ?_; exact Z45 un9 (idx_ba hi) k'.1) : P := h ⟨k⟩
theorem eL171 {P Q : Prop} (k : Q) (h : Hd Q → P := by intro k'; refine AW.draw mo ?_; refine N2 ?_; refine Z26 sl217 (idx_tm hp0) ?_; refine N1 ?_; refine Z40 fn201 (ih _ (qC hi) _ (qC hp0) hvo) ?_; refine N2 ?_; refine lQ (q_quo _ rfl rfl rfl (by omega) (quoD (by omega) (by omega))) ?_; refine lQ (q_add _ rfl rfl rfl ((by rw [w64 (by omega) (by have := Nat.div_le_self (bndT t.ps[i].of[0]) t.ps[i].dv.toNat; omega)]; rfl : IntKind.i64.wrap _ = ((bndT t.ps[i].of[0] / t.ps[i].dv.toNat + 1 : Nat) : Int)))) ?_; refine Z33 ?_; refine Z38 ?_; exact AW.seq (AW.seq k'.1)) : P := h ⟨k⟩
theorem eL172 {P Q : Prop} (k : Q) (h : Hd Q → P := by intro k'; refine Z6 ?_; exact Z3 (AW.condF rfl k'.1)) : P := h ⟨k⟩
theorem eL173 {P Q : Prop} (k : Q) (h : Hd Q → P := by intro k'; exact AW.skip (B3 k'.1)) : P := h ⟨k⟩
theorem eL174 {P Q : Prop} (k : Q) (h : Hd Q → P := by intro k'; refine LexO.q rfl (by kernel_rfl) (q_fieldL _ rfl fl40_4 rfl rfl) rfl rfl rfl ?_; exact LexO.r rfl (by kernel_rfl) (b_load (r := .a _) rfl ty31 rfl rfl rfl rfl rfl rfl) rfl k'.1) : P := h ⟨k⟩
theorem eL175 {P Q : Prop} (k : Q) (h : Hd Q → P := by intro k'; refine D1 ?_; exact Z3 (AW.seq k'.1)) : P := h ⟨k⟩
theorem eL176 {P Q : Prop} (k : Q) (h : Hd Q → P := by intro k'; refine D1 ?_; refine AW.seq (D3 ?_); exact Z3 (AW.block k'.1)) : P := h ⟨k⟩
theorem eL177 {P Q : Prop} (k : Q) (h : Hd Q → P := by intro k'; refine sQ (q_mkFn rfl rfl rfl) ?_; refine SeqK.r (g_call rfl fn74 rfl (anyF_od _ 75 [.bp k19 0] (fun o => decide (wdB st.its vs < o.it)) st.ord .un fn75 (by have := hst.ol; omega) (fun o ho H1 h1 => odGt_any H1 k19 (wdB st.its vs) (by first | (rw [wd_v (vs := vs) (by (try simp only [qA] at h161); omega)]; exact h1 _ _ (upd_same _ _ _)) | (rw [wd_i (vs := vs) (by (try simp only [qA] at h161); omega)]; exact h1 _ _ (upd_same _ _ _))) o)) rfl rfl rfl) rfl ?_; exact Z3 k'.1) : P := h ⟨k⟩
theorem eL178 {P Q : Prop} (k : Q) (h : Hd Q → P := by intro k'; refine B1 ?_; refine sQ (q_addS rfl rfl rfl (by have e6 : (⟨#[67, 79, 85, 78, 84, 40]⟩ : ByteArray).size = 6 := rfl; omega)) ?_; refine sQ (q_addS rfl rfl rfl (by have e6 : (⟨#[67, 79, 85, 78, 84, 40]⟩ : ByteArray).size = 6 := rfl; have e1 : (⟨#[41]⟩ : ByteArray).size = 1 := rfl; have e7 : ((⟨#[67, 79, 85, 78, 84, 40]⟩ : ByteArray) ++ tx).size = (⟨#[67, 79, 85, 78, 84, 40]⟩ : ByteArray).size + tx.size := qE; omega)) ?_; exact sB k'.1) : P := h ⟨k⟩
theorem eL179 {P Q : Prop} (k : Q) (h : Hd Q → P := by intro k'; exact AW.xwL 4 rfl (xr2 (.cons (XW.nilU (sz := 6)) (.cons (XW.nilU (sz := 1)) (.cons (XW.nilU (sz := 3)) (.cons (XW.nilU (sz := 8)) (.cons (XW.nilU (sz := 1)) (.cons (XW.nilU (sz := 10)) (.cons (XW.nilU (sz := 9)) (.cons (XW.nilU (sz := 2)) (xr4 (xr2 (xr1 (.cons (XW.nilU (sz := 8)) (.cons (XW.nilU (sz := 8)) (.cons (XW.nilU (sz := 2)) (xr2 (xr1 (.cons (XW.nilU (sz := 1)) (.cons (XW.nilU (sz := 5)) (.cons (XW.nilU (sz := 1)) .nil)))))))))))))))))))) k'.1) : P := h ⟨k⟩
theorem eL180 {P Q : Prop} (k : Q) (h : Hd Q → P := by intro k'; refine B1 ?_; refine sQ (q_addS rfl rfl rfl (by have e6 : (⟨#[83, 85, 77, 40]⟩ : ByteArray).size = 4 := rfl; omega)) ?_; refine sQ (q_addS rfl rfl rfl (by have e6 : (⟨#[83, 85, 77, 40]⟩ : ByteArray).size = 4 := rfl; have e1 : (⟨#[41]⟩ : ByteArray).size = 1 := rfl; have e7 : ((⟨#[83, 85, 77, 40]⟩ : ByteArray) ++ tx).size = (⟨#[83, 85, 77, 40]⟩ : ByteArray).size + tx.size := qE; omega)) ?_; exact sB k'.1) : P := h ⟨k⟩
theorem eL181 {P Q : Prop} (k : Q) (h : Hd Q → P := by intro k'; refine B1 ?_; refine sQ (q_addS rfl rfl rfl (by have e6 : (⟨#[77, 73, 78, 40]⟩ : ByteArray).size = 4 := rfl; omega)) ?_; refine sQ (q_addS rfl rfl rfl (by have e6 : (⟨#[77, 73, 78, 40]⟩ : ByteArray).size = 4 := rfl; have e1 : (⟨#[41]⟩ : ByteArray).size = 1 := rfl; have e7 : ((⟨#[77, 73, 78, 40]⟩ : ByteArray) ++ tx).size = (⟨#[77, 73, 78, 40]⟩ : ByteArray).size + tx.size := qE; omega)) ?_; exact sB k'.1) : P := h ⟨k⟩
theorem eL182 {P Q : Prop} (k : Q) (h : Hd Q → P := by intro k'; refine B1 ?_; refine sQ (q_addS rfl rfl rfl (by have e6 : (⟨#[77, 65, 88, 40]⟩ : ByteArray).size = 4 := rfl; omega)) ?_; refine sQ (q_addS rfl rfl rfl (by have e6 : (⟨#[77, 65, 88, 40]⟩ : ByteArray).size = 4 := rfl; have e1 : (⟨#[41]⟩ : ByteArray).size = 1 := rfl; have e7 : ((⟨#[77, 65, 88, 40]⟩ : ByteArray) ++ tx).size = (⟨#[77, 65, 88, 40]⟩ : ByteArray).size + tx.size := qE; omega)) ?_; exact sB k'.1) : P := h ⟨k⟩
theorem eL183 {P Q : Prop} (k : Q) (h : Hd Q → P := by intro k'; refine lQ (q_mvT rfl rfl) ?_; refine N2 ?_; refine LexK.r (b_alloc (r := [_, _, _, _, _, _, _, _, _, _, _, _, _, _, _, _, _, _, _, _, _, _, _, _, _, _]) rfl rfl ze47 rfl rfl rfl rfl) rfl ?_; refine N2 ?_; exact Z38 k'.1) : P := h ⟨k⟩
theorem eL184 {P Q : Prop} (k : Q) (h : Hd Q → P := by intro k'; exact AW.skip (AW.seq (AW.block (B4 k'.1)))) : P := h ⟨k⟩
theorem eL185 {P Q : Prop} (k : Q) (h : Hd Q → P := by intro k'; refine Z32 ?_; exact Z3 k'.1) : P := h ⟨k⟩
theorem eL186 {P Q : Prop} (k : Q) (h : Hd Q → P := by intro k'; refine G2 ?_; exact sO (q_neqS rfl rfl rfl) k'.1) : P := h ⟨k⟩
theorem eL187 {P Q : Prop} (k : Q) (h : Hd Q → P := by intro k'; refine AW.skip (AW.seq (D3 ?_)); exact Z3 k'.1) : P := h ⟨k⟩
theorem eL188 {P Q : Prop} (k : Q) (h : Hd Q → P := by intro k'; refine sQ (q_call _ rfl fn129 rfl (twice_any _ .un (by first | (rw [qA]; omega) | (have := hk.keysl _ (qC hj); omega) | (have := hk.fksl _ (qC hj); omega))) rfl) ?_; exact Z3 k'.1) : P := h ⟨k⟩
theorem eL189 {P Q : Prop} (k : Q) (h : Hd Q → P := by intro k'; refine AW.seq (D3 ?_); exact Z3 k'.1) : P := h ⟨k⟩
theorem eL190 {P Q : Prop} (k : Q) (h : Hd Q → P := by intro k'; exact LexO.q rfl (by kernel_rfl) (q_fieldL _ rfl fl47_0 rfl rfl) rfl rfl rfl k'.1) : P := h ⟨k⟩
theorem eL191 {P Q : Prop} (k : Q) (h : Hd Q → P := by intro k'; refine G3 ?_; exact Z3 k'.1) : P := h ⟨k⟩
theorem eL192 {P Q : Prop} (k : Q) (h : Hd Q → P := by intro k'; exact AW.seq (AW.seq k'.1)) : P := h ⟨k⟩
theorem eL193 {P Q : Prop} (k : Q) (h : Hd Q → P := by intro k'; refine Z10 sl27 (idx_ex hi) ?_; exact G1 k'.1) : P := h ⟨k⟩
theorem eL194 {P Q : Prop} (k : Q) (h : Hd Q → P := by intro k'; refine AW.seq (AW.draw mo ?_); refine N2 ?_; refine Z26 sl113 (idx_map (f := srT) hi) ?_; refine N3 ?_; refine lQ (q_add _ rfl rfl rfl (w64 (by omega) (by omega))) ?_; refine N2 ?_; refine Z26 sl113 (idx_map (f := srT) hi) ?_; refine N4 ?_; refine Z26 sl24 (idx_map (f := coT) hnt) ?_; refine N4 ?_; refine Z38 ?_; exact B3 k'.1) : P := h ⟨k⟩
theorem eL195 {P Q : Prop} (k : Q) (h : Hd Q → P := by intro k'; exact Z10 sl32 (idx_map (f := itT) hi) k'.1) : P := h ⟨k⟩
theorem eL196 {P Q : Prop} (k : Q) (h : Hd Q → P := by intro k'; refine G2 ?_; exact sO (q_eqlS rfl rfl rfl) k'.1) : P := h ⟨k⟩
theorem eL197 {P Q : Prop} (k : Q) (h : Hd Q → P := by intro k'; refine sQ (q_add _ rfl rfl rfl ((by rw [w64 (by omega) (by omega)]; rfl : IntKind.i64.wrap _ = ((i + 1 : Nat) : Int)))) ?_; refine sQ (q_cutS i (i + 1) (u.extract i (i + 1)) rfl un9 rfl (by first | rfl | exact ⟨_, rfl⟩) (by first | rfl | exact ⟨_, rfl⟩) (by omega) (by omega) rfl) ?_; refine G2 ?_; exact B3 k'.1) : P := h ⟨k⟩
theorem eL198 {P Q : Prop} (k : Q) (h : Hd Q → P := by intro k'; exact AW.skip (AW.seq (D2 k'.1))) : P := h ⟨k⟩
theorem eL199 {P Q : Prop} (k : Q) (h : Hd Q → P := by intro k'; refine Z16 fn36 (integer_any _) ?_; refine G1 ?_; exact Z3 (AW.ret k'.1)) : P := h ⟨k⟩
theorem eL200 {P Q : Prop} (k : Q) (h : Hd Q → P := by intro k'; exact sQ (q_eqlS rfl rfl rfl) k'.1) : P := h ⟨k⟩
theorem eL201 {P Q : Prop} (k : Q) (h : Hd Q → P := by intro k'; exact AW.skip (D2 k'.1)) : P := h ⟨k⟩
theorem eL202 {P Q : Prop} (k : Q) (h : Hd Q → P := by intro k'; exact AW.skip (AW.seq (AW.seq k'.1))) : P := h ⟨k⟩
theorem eL203 {P Q : Prop} (k : Q) (h : Hd Q → P := by intro k'; refine G2 ?_; exact sO (q_call _ rfl fn86 rfl (rname_any _ (by omega)) rfl) k'.1) : P := h ⟨k⟩
theorem eL204 {P Q : Prop} (k : Q) (h : Hd Q → P := by intro k'; refine LexO.r rfl (by kernel_rfl) (b_load (r := .g [_, _, _, _, _]) rfl ty72 rfl rfl rfl rfl rfl rfl) rfl ?_; refine LexO.q rfl (by kernel_rfl) (q_fieldL _ rfl fl72_2 rfl rfl) rfl rfl rfl ?_; exact LexO.r rfl (by kernel_rfl) (b_load (r := .a _) rfl ty69 rfl rfl rfl rfl rfl rfl) rfl k'.1) : P := h ⟨k⟩
theorem eL205 {P Q : Prop} (k : Q) (h : Hd Q → P := by intro k'; exact AW.seq (D2 k'.1)) : P := h ⟨k⟩
theorem eL206 {P Q : Prop} (k : Q) (h : Hd Q → P := by intro k'; refine LexO.q rfl (by kernel_rfl) (q_index _ rfl sl31 rfl rfl (by omega) (idx_map (f := asT) hi)) rfl rfl rfl ?_; refine LexO.q rfl (by kernel_rfl) (q_fieldP _ rfl fl85_0 rfl rfl) rfl rfl rfl ?_; exact LexO.q rfl (by kernel_rfl) (q_load (.a _) rfl ty9 rfl rfl rfl) rfl rfl rfl k'.1) : P := h ⟨k⟩
theorem eL207 {P Q : Prop} (k : Q) (h : Hd Q → P := by intro k'; refine Z23 ?_; refine Z40 fn17 (col_any _) ?_; refine lQ (q_build2 (zs := [_, _, _, _, _, _, _, _, _]) (r := [_, _, _, _, _, _, _, _, _]) [(0, 1), (1, 8)] _ rfl ze58 rfl bp58 rfl rfl rfl rfl) ?_; refine N1 ?_; refine lQ (q_buildSlice _ rfl el32 rfl (by decide) rfl) ?_; exact Z23 k'.1) : P := h ⟨k⟩
theorem eL208 {P Q : Prop} (k : Q) (h : Hd Q → P := by intro k'; refine AW.skip (AW.seq (AW.draw mo ?_)); refine N2 ?_; refine Z26 sl113 (idx_map (f := srT) hi) ?_; refine N4 ?_; refine lQ (q_call _ rfl fn54 rfl (rcolumn_any _ _ (by omega)) rfl) ?_; refine lQ (q_mvT rfl rfl) ?_; refine N4 ?_; refine Z38 ?_; refine D1 ?_; exact Z3 k'.1) : P := h ⟨k⟩
theorem eL209 {P Q : Prop} (k : Q) (h : Hd Q → P := by intro k'; exact sQ (q_indexS _ rfl un9 rfl rfl (by omega) (idx_ba hi)) k'.1) : P := h ⟨k⟩
theorem eL210 {P Q : Prop} (k : Q) (h : Hd Q → P := by intro k'; exact lQ (q_pkT rfl rfl rfl) k'.1) : P := h ⟨k⟩
theorem eL211 {P Q : Prop} (k : Q) (h : Hd Q → P := by intro k'; refine B2 ?_; exact Z3 k'.1) : P := h ⟨k⟩
theorem eL212 {P Q : Prop} (k : Q) (h : Hd Q → P := by intro k'; refine G2 ?_; refine Z3 (AW.reg (sM ?_)); exact G2 k'.1) : P := h ⟨k⟩
theorem eL213 {P Q : Prop} (k : Q) (h : Hd Q → P := by intro k'; exact AW.skip (D1 k'.1)) : P := h ⟨k⟩
theorem eL214 {P Q : Prop} (k : Q) (h : Hd Q → P := by intro k'; exact sO (q_lss rfl rfl rfl) k'.1) : P := h ⟨k⟩
theorem eL215 {P Q : Prop} (k : Q) (h : Hd Q → P := by intro k'; exact sQ (q_sub _ rfl rfl rfl ((by rw [w64 (by omega) (by omega)]; omega : IntKind.i64.wrap _ = ((m - n : Nat) : Int)))) k'.1) : P := h ⟨k⟩
theorem eL216 {P Q : Prop} (k : Q) (h : Hd Q → P := by intro k'; refine Spec.enter Tryz.func102 rfl ?_; refine AW.wk (wK 11 (l := [(0, .c (exC e))]) (ll := []) (H := (H))) ?_; refine D2 ?_; refine AW.seq (AW.block (D2 ?_)); exact SeqK.xw 5 rfl (XW.es (show _ = [e].map exT' by rw [qX, exT_eq])) k'.1) : P := h ⟨k⟩
theorem eL217 {P Q : Prop} (k : Q) (h : Hd Q → P := by intro k'; refine LexO.nil (by kernel_rfl) ?_; exact B3 k'.1) : P := h ⟨k⟩
theorem eL218 {P Q : Prop} (k : Q) (h : Hd Q → P := by intro k'; refine B3 ?_; refine Z16 fn105 (num_z _ hs.lm) ?_; refine G3 ?_; exact D2 k'.1) : P := h ⟨k⟩
theorem eL219 {P Q : Prop} (k : Q) (h : Hd Q → P := by intro k'; exact AW.skip (D3 k'.1)) : P := h ⟨k⟩
theorem eL220 {P Q : Prop} (k : Q) (h : Hd Q → P := by intro k'; refine lQ (q_pkF rfl rfl rfl) ?_; exact Z38 k'.1) : P := h ⟨k⟩
theorem eL221 {P Q : Prop} (k : Q) (h : Hd Q → P := by intro k'; exact Z10 sl23 (idx_map (f := tbT) hi) k'.1) : P := h ⟨k⟩
theorem eL222 {P Q : Prop} (k : Q) (h : Hd Q → P := by intro k'; refine AW.seq (AW.draw mo ?_); refine N3 ?_; refine lQ (q_add _ rfl rfl rfl (w64 (by omega) (by omega))) ?_; refine N4 ?_; refine Z26 sl24 (idx_map (f := coT) hnt) ?_; refine N4 ?_; refine Z38 ?_; exact B3 k'.1) : P := h ⟨k⟩
theorem eL223 {P Q : Prop} (k : Q) (h : Hd Q → P := by intro k'; exact LexO.q rfl (by kernel_rfl) (q_fieldL _ rfl fl40_2 rfl rfl) rfl rfl rfl k'.1) : P := h ⟨k⟩
theorem eL224 {P Q : Prop} (k : Q) (h : Hd Q → P := by intro k'; refine G2 ?_; refine sO (q_geq rfl rfl rfl) ?_; exact Z8 k'.1) : P := h ⟨k⟩
theorem eL225 {P Q : Prop} (k : Q) (h : Hd Q → P := by intro k'; refine D2 ?_; exact D1 k'.1) : P := h ⟨k⟩
theorem eL226 {P Q : Prop} (k : Q) (h : Hd Q → P := by intro k'; refine LexO.q rfl (by kernel_rfl) (q_fieldL _ rfl fl119_0 rfl rfl) rfl rfl rfl ?_; exact LexO.r rfl (by kernel_rfl) (b_load (r := .g [_, _, _, _, _, _, _, _]) rfl ty37 rfl rfl rfl rfl rfl rfl) rfl k'.1) : P := h ⟨k⟩
theorem eL227 {P Q : Prop} (k : Q) (h : Hd Q → P := by intro k'; refine Z14 ?_; exact Z43 fn53 (rfits_any _ _) k'.1) : P := h ⟨k⟩
theorem eL228 {P Q : Prop} (k : Q) (h : Hd Q → P := by intro k'; refine LexO.q rfl (by kernel_rfl) (q_index _ rfl sl23 rfl rfl (by omega) (hidx)) rfl rfl rfl ?_; exact LexO.q rfl (by kernel_rfl) (q_load (.g [_, _, _, _, _]) rfl ty72 rfl rfl rfl) rfl rfl rfl k'.1) : P := h ⟨k⟩
theorem eL229 {P Q : Prop} (k : Q) (h : Hd Q → P := by intro k'; refine D3 ?_; exact Z3 k'.1) : P := h ⟨k⟩
theorem eL230 {P Q : Prop} (k : Q) (h : Hd Q → P := by intro k'; refine sQ (q_eqlG [.int .i64 e.vk, .int .i64 e.vn, .string e.vs] [.int .i64 0, .int .i64 0, .string ⟨#[]⟩] rfl rfl rfl rfl rfl (by kernel_rfl) (fun w => eq25 _ _ _ _ _ _ w)) ?_; exact sB k'.1) : P := h ⟨k⟩
theorem eL231 {P Q : Prop} (k : Q) (h : Hd Q → P := by intro k'; refine lQ (q_call _ rfl fn41 rfl (inside_any d0[i] _ .un (by first | (have := hv0.keysl _ hm _ (qC hj); omega) | (have := hv0.fksl _ hm _ (qC hj); omega))) rfl) ?_; exact lQ (q_not rfl rfl) k'.1) : P := h ⟨k⟩
theorem eL232 {P Q : Prop} (k : Q) (h : Hd Q → P := by intro k'; exact AW.skip (AW.seq (D1 k'.1))) : P := h ⟨k⟩
theorem eL233 {P Q : Prop} (k : Q) (h : Hd Q → P := by intro k'; exact SeqK.r (g_store rfl rfl ty3 rfl rfl (by (repeat rw [upd_ne _ _ (by first | assumption | exact Ne.symm (by assumption))]); first | assumption | exact upd_same _ _ _) rfl rfl rfl) rfl k'.1) : P := h ⟨k⟩
theorem eL234 {P Q : Prop} (k : Q) (h : Hd Q → P := by intro k'; refine D3 ?_; refine AW.xw 4 rfl (XW.nilU (sz := 7)) ?_; exact AW.xw 5 rfl (XW.nilU (sz := 1)) k'.1) : P := h ⟨k⟩
theorem eL235 {P Q : Prop} (k : Q) (h : Hd Q → P := by intro k'; exact AW.seq k'.1) : P := h ⟨k⟩
theorem eL236 {P Q : Prop} (k : Q) (h : Hd Q → P := by intro k'; refine Z10 sl24 (idx_map (f := coT) hi) ?_; exact G3 k'.1) : P := h ⟨k⟩
theorem eL237 {P Q : Prop} (k : Q) (h : Hd Q → P := by intro k'; exact Z10 sl98 (idx_map (f := dfT) hi) k'.1) : P := h ⟨k⟩
theorem eL238 {P Q : Prop} (k : Q) (h : Hd Q → P := by intro k'; exact Z10 sl33 (idx_map (f := frT) hi) k'.1) : P := h ⟨k⟩
theorem eL239 {P Q : Prop} (k : Q) (h : Hd Q → P := by intro k'; refine B2 ?_; refine Z16 fn187 (within_any _ _ _) ?_; exact Z32 k'.1) : P := h ⟨k⟩
theorem eL240 {P Q : Prop} (k : Q) (h : Hd Q → P := by intro k'; exact AW.skip (AW.seq k'.1)) : P := h ⟨k⟩
theorem eL241 {P Q : Prop} (k : Q) (h : Hd Q → P := by intro k'; refine G2 ?_; exact Z3 (AW.seq (sR (Z1 fl119_2 k'.1)))) : P := h ⟨k⟩
theorem eL242 {P Q : Prop} (k : Q) (h : Hd Q → P := by intro k'; refine AW.wk (wK 9 (l := [(0, .c (iC n))]) (ll := []) (H := (H))) ?_; refine D1 ?_; exact D2 k'.1) : P := h ⟨k⟩
theorem eL243 {P Q : Prop} (k : Q) (h : Hd Q → P := by intro k'; exact lO (q_mvC rfl rfl) k'.1) : P := h ⟨k⟩
theorem eL244 {P Q : Prop} (k : Q) (h : Hd Q → P := by intro k'; refine LexO.q rfl (by kernel_rfl) (q_fieldL _ rfl fl47_3 rfl rfl) rfl rfl rfl ?_; exact LexO.r rfl (by kernel_rfl) (b_load (r := .a _) rfl ty44 rfl rfl rfl rfl rfl rfl) rfl k'.1) : P := h ⟨k⟩
theorem eL245 {P Q : Prop} (k : Q) (h : Hd Q → P := by intro k'; refine LexO.q rfl (by kernel_rfl) (q_fieldL _ rfl fl40_5 rfl rfl) rfl rfl rfl ?_; exact LexO.r rfl (by kernel_rfl) (b_load (r := .a _) rfl ty32 rfl rfl rfl rfl rfl rfl) rfl k'.1) : P := h ⟨k⟩
theorem eL246 {P Q : Prop} (k : Q) (h : Hd Q → P := by intro k'; refine Spec.enter Tryz.func146 rfl ?_; refine AW.wk (wK 83 (l := [(0, .c (exC e))]) (ll := []) (H := (H))) ?_; refine D2 ?_; refine AW.seq (AW.seq (AW.draw mo ?_)); exact N2 k'.1) : P := h ⟨k⟩
theorem eL247 {P Q : Prop} (k : Q) (h : Hd Q → P := by intro k'; exact LexO.q rfl (by kernel_rfl) (q_buildSlice _ rfl el51 rfl (by decide) rfl) rfl rfl rfl k'.1) : P := h ⟨k⟩
theorem eL248 {P Q : Prop} (k : Q) (h : Hd Q → P := by intro k'; refine Z47 sl27 (idx_ex h12) ?_; refine G1 ?_; exact sO (q_call _ rfl fn142 rfl (divisor_any _ (hfa _ (qC h12)) (hta _ (qC h12)) (hev hal (by omega) h12)) rfl) k'.1) : P := h ⟨k⟩
theorem eL249 {P Q : Prop} (k : Q) (h : Hd Q → P := by intro k'; exact LexO.r rfl (by kernel_rfl) (b_load (r := .a _) rfl ty9 rfl rfl rfl rfl rfl rfl) rfl k'.1) : P := h ⟨k⟩
theorem eL250 {P Q : Prop} (k : Q) (h : Hd Q → P := by intro k'; exact lQ (q_build2 (zs := [_, _, _, _, _, _, _, _]) (r := [_, _, _, _, _, _, _, _]) [(0, 1), (1, 1), (2, 1), (3, 1), (4, 3), (7, 1)] _ rfl ze37 rfl bp37 rfl rfl rfl rfl) k'.1) : P := h ⟨k⟩
theorem eL251 {P Q : Prop} (k : Q) (h : Hd Q → P := by intro k'; exact AW.seq (AW.draw mo k'.1)) : P := h ⟨k⟩
theorem eL252 {P Q : Prop} (k : Q) (h : Hd Q → P := by intro k'; exact AW.skip (AW.seq (AW.draw mo k'.1))) : P := h ⟨k⟩
theorem eL253 {P Q : Prop} (k : Q) (h : Hd Q → P := by intro k'; refine lQ (q_mvT rfl rfl) ?_; refine N4 ?_; exact Z38 k'.1) : P := h ⟨k⟩
theorem eL254 {P Q : Prop} (k : Q) (h : Hd Q → P := by intro k'; exact Z10 sl197 (idx_map (f := ptT) hi) k'.1) : P := h ⟨k⟩
theorem eL255 {P Q : Prop} (k : Q) (h : Hd Q → P := by intro k'; exact Z3 (sR (Z11 (r := .g [_, _, _, _, _, _, _, _]) ty37 k'.1))) : P := h ⟨k⟩
theorem eL256 {P Q : Prop} (k : Q) (h : Hd Q → P := by intro k'; exact Z10 sl30 (idx_map (f := exLT) hi) k'.1) : P := h ⟨k⟩
theorem eL257 {P Q : Prop} (k : Q) (h : Hd Q → P := by intro k'; exact AW.skip k'.1) : P := h ⟨k⟩
theorem eL258 {P Q : Prop} (k : Q) (h : Hd Q → P := by intro k'; exact AW.skip (AW.seq (AW.block (B3 k'.1)))) : P := h ⟨k⟩
theorem eL259 {P Q : Prop} (k : Q) (h : Hd Q → P := by intro k'; refine G4 ?_; exact Z3 k'.1) : P := h ⟨k⟩
theorem eL260 {P Q : Prop} (k : Q) (h : Hd Q → P := by intro k'; refine sQ (q_neqS rfl rfl rfl) ?_; exact Z3 k'.1) : P := h ⟨k⟩
theorem eL261 {P Q : Prop} (k : Q) (h : Hd Q → P := by intro k'; refine AW.wk (wK 12 (l := [(0, .c (exC e))]) (ll := []) (H := (H))) ?_; exact D3 k'.1) : P := h ⟨k⟩
theorem eL262 {P Q : Prop} (k : Q) (h : Hd Q → P := by intro k'; exact AW.xwL 4 rfl (.cons XW.reA (.cons (XW.nilU (sz := 6)) (.cons (XW.nilU (sz := 1)) (.cons (XW.nilU (sz := 3)) (.cons (XW.nilU (sz := 8)) .nil))))) k'.1) : P := h ⟨k⟩
theorem eL263 {P Q : Prop} (k : Q) (h : Hd Q → P := by intro k'; exact Z10 sl51 (idx_map (f := sT) hi) k'.1) : P := h ⟨k⟩
theorem eL264 {P Q : Prop} (k : Q) (h : Hd Q → P := by intro k'; refine AW.wk (wK 27 (l := [(0, .c (iC n))]) (ll := []) (H := (H))) ?_; exact D1 k'.1) : P := h ⟨k⟩
theorem eL265 {P Q : Prop} (k : Q) (h : Hd Q → P := by intro k'; refine G5 ?_; exact Z3 k'.1) : P := h ⟨k⟩
theorem eL266 {P Q : Prop} (k : Q) (h : Hd Q → P := by intro k'; refine lQ (q_neq rfl rfl rfl) ?_; exact Z38 k'.1) : P := h ⟨k⟩
theorem eL267 {P Q : Prop} (k : Q) (h : Hd Q → P := by intro k'; refine sQ (q_add _ rfl rfl rfl ((by rw [w64 (by omega) (by omega), hv]; omega : IntKind.i64.wrap _ = ((n + ndE l[i] : Nat) : Int)))) ?_; exact sB k'.1) : P := h ⟨k⟩
theorem eL268 {P Q : Prop} (k : Q) (h : Hd Q → P := by intro k'; refine G1 ?_; exact Z3 (AW.ret k'.1)) : P := h ⟨k⟩
theorem eL269 {P Q : Prop} (k : Q) (h : Hd Q → P := by intro k'; refine AW.skip (AW.seq (AW.block (sR (Z10 sl27 (idx_ex hi) ?_)))); exact G3 k'.1) : P := h ⟨k⟩
theorem eL270 {P Q : Prop} (k : Q) (h : Hd Q → P := by intro k'; refine D5 ?_; exact AW.xw 2 rfl (XW.nilU (sz := 5)) k'.1) : P := h ⟨k⟩
theorem eL271 {P Q : Prop} (k : Q) (h : Hd Q → P := by intro k'; refine AW.seq (D4 ?_); exact Z3 (AW.block k'.1)) : P := h ⟨k⟩
theorem eL272 {P Q : Prop} (k : Q) (h : Hd Q → P := by intro k'; refine Z14 ?_; exact Z45 un9 (idx_ba (i := 0) h0) k'.1) : P := h ⟨k⟩
theorem eL273 {P Q : Prop} (k : Q) (h : Hd Q → P := by intro k'; refine Z3 (AW.block (AW.seq (sR (Z7 ?_)))); exact sB k'.1) : P := h ⟨k⟩
theorem eL274 {P Q : Prop} (k : Q) (h : Hd Q → P := by intro k'; refine Spec.enter Tryz.func62 rfl ?_; refine AW.wk (wK 108 (l := [(0, .c (exC e)), (1, .c (iC l))]) (ll := []) (H := (H))) ?_; exact D2 k'.1) : P := h ⟨k⟩
theorem eL275 {P Q : Prop} (k : Q) (h : Hd Q → P := by intro k'; refine AW.skip (D4 ?_); refine sQ (q_call _ rfl fn112 rfl (column_any _ _ (by omega)) rfl) ?_; refine G5 ?_; refine D1 ?_; exact Z3 k'.1) : P := h ⟨k⟩
theorem eL276 {P Q : Prop} (k : Q) (h : Hd Q → P := by intro k'; refine Spec.enter Tryz.func155 rfl ?_; exact AW.wk (wK 19 (l := [(0, .c (exsC z l)), (1, .c (.a (.fn f cs)))]) (ll := []) (H := (H))) k'.1) : P := h ⟨k⟩
theorem eL277 {P Q : Prop} (k : Q) (h : Hd Q → P := by intro k'; refine sB ?_; exact D2 k'.1) : P := h ⟨k⟩
theorem eL278 {P Q : Prop} (k : Q) (h : Hd Q → P := by intro k'; refine G2 ?_; exact AW.condT rfl k'.1) : P := h ⟨k⟩
theorem eL279 {P Q : Prop} (k : Q) (h : Hd Q → P := by intro k'; refine N3 ?_; refine Z26 sl197 (idx_map (f := ptT) hi) ?_; refine N5 ?_; refine Z26 sl197 (idx_map (f := ptT) hj) ?_; exact N2 k'.1) : P := h ⟨k⟩
theorem eL280 {P Q : Prop} (k : Q) (h : Hd Q → P := by intro k'; refine Spec.enter Tryz.func47 rfl ?_; exact AW.wk (wK 34 (l := [(0, .c (exC e)), (1, .c (iC (m : Int)))]) (ll := []) (H := (H))) k'.1) : P := h ⟨k⟩
theorem eL281 {P Q : Prop} (k : Q) (h : Hd Q → P := by intro k'; refine D1 ?_; exact D2 k'.1) : P := h ⟨k⟩
theorem eL282 {P Q : Prop} (k : Q) (h : Hd Q → P := by intro k'; refine AW.skip (sR (sQ (q_mkFn rfl rfl rfl) ?_)); refine sB ?_; refine sR (sQ (q_fieldH _ rfl fl40_5 rfl rfl) ?_); exact G3 k'.1) : P := h ⟨k⟩
theorem eL283 {P Q : Prop} (k : Q) (h : Hd Q → P := by intro k'; exact AW.skip (AW.seq (AW.block (D4 k'.1)))) : P := h ⟨k⟩
theorem eL284 {P Q : Prop} (k : Q) (h : Hd Q → P := by intro k'; refine N2 ?_; exact Z38 k'.1) : P := h ⟨k⟩
theorem eL285 {P Q : Prop} (k : Q) (h : Hd Q → P := by intro k'; exact AW.wk (wK 24 (l := [(0, .c (exC e))]) (ll := []) (H := (H))) k'.1) : P := h ⟨k⟩
theorem eL286 {P Q : Prop} (k : Q) (h : Hd Q → P := by intro k'; exact AW.wk (wK 6 (l := [(0, .c (exC e))]) (ll := []) (H := (H))) k'.1) : P := h ⟨k⟩
theorem eL287 {P Q : Prop} (k : Q) (h : Hd Q → P := by intro k'; refine G3 ?_; refine Z47 sl33 (idx_map (f := frT) hi) ?_; refine sO (q_fieldP _ rfl fl65_1 rfl rfl) ?_; exact G1 k'.1) : P := h ⟨k⟩
theorem eL288 {P Q : Prop} (k : Q) (h : Hd Q → P := by intro k'; refine B2 ?_; refine sQ (q_call _ rfl fn27 rfl ((hf _ (qC hi) (by assumption)).2.choose_spec) rfl) ?_; exact G4 k'.1) : P := h ⟨k⟩
theorem eL289 {P Q : Prop} (k : Q) (h : Hd Q → P := by intro k'; refine Z26 sl26 (idx_map (f := rfT) hi) ?_; refine N2 ?_; exact lQ (q_call _ rfl fn46 rfl (wide_any _ _ (by omega)) rfl) k'.1) : P := h ⟨k⟩
theorem eL290 {P Q : Prop} (k : Q) (h : Hd Q → P := by intro k'; refine Z33 ?_; exact Z38 k'.1) : P := h ⟨k⟩
theorem eL291 {P Q : Prop} (k : Q) (h : Hd Q → P := by intro k'; exact AW.skip (AW.seq (AW.block (AW.seq (AW.seq (AW.draw mo k'.1)))))) : P := h ⟨k⟩
theorem eL292 {P Q : Prop} (k : Q) (h : Hd Q → P := by intro k'; refine Spec.enter Tryz.func147 rfl ?_; refine AW.wk (wK 99 (l := [(0, .c (exC e))]) (ll := []) (H := (H))) ?_; exact D2 k'.1) : P := h ⟨k⟩
theorem eL293 {P Q : Prop} (k : Q) (h : Hd Q → P := by intro k'; refine N2 ?_; refine lQ (q_index _ rfl sl27 rfl rfl (by omega) (idx_ex (show 0 < e.args.length by omega))) ?_; exact N2 k'.1) : P := h ⟨k⟩
theorem eL294 {P Q : Prop} (k : Q) (h : Hd Q → P := by intro k'; refine N4 ?_; refine lQ (q_index _ rfl sl27 rfl rfl (by omega) (idx_ex (show 1 < e.args.length by omega))) ?_; exact N2 k'.1) : P := h ⟨k⟩
theorem eL295 {P Q : Prop} (k : Q) (h : Hd Q → P := by intro k'; exact sQ (q_call _ rfl fn52 rfl (rexpr_any hsp _ (by first | exact hst.ig _ (qC hi) h56 | exact hst.gg _ (qC hj))) rfl) k'.1) : P := h ⟨k⟩
theorem eL296 {P Q : Prop} (k : Q) (h : Hd Q → P := by intro k'; refine Z14 ?_; refine sO (q_lenS rfl un9 rfl) ?_; exact G2 k'.1) : P := h ⟨k⟩
theorem eL297 {P Q : Prop} (k : Q) (h : Hd Q → P := by intro k'; refine G1 ?_; refine sO (q_call _ rfl fn141 rfl (rcolumns_any _ (hfa _ (qC (by omega)))) rfl) ?_; exact Z8 k'.1) : P := h ⟨k⟩
theorem eL298 {P Q : Prop} (k : Q) (h : Hd Q → P := by intro k'; refine B2 ?_; refine sQ (q_call _ rfl fn95 rfl (comma_any _ _ (jB (or_bd hs) (by decide))) rfl) ?_; exact G3 k'.1) : P := h ⟨k⟩
theorem eL299 {P Q : Prop} (k : Q) (h : Hd Q → P := by intro k'; exact Z16 fn53 (rfits_any _ _) k'.1) : P := h ⟨k⟩
theorem eL300 {P Q : Prop} (k : Q) (h : Hd Q → P := by intro k'; refine D4 ?_; refine Z16 fn233 (ints_any _ _) ?_; exact sB k'.1) : P := h ⟨k⟩
theorem eL301 {P Q : Prop} (k : Q) (h : Hd Q → P := by intro k'; refine Z10 sl113 (rfl) ?_; refine G4 ?_; refine Z3 (sR (Z1 fl47_0 ?_)); refine G2 ?_; exact Z3 (AW.seq (sR (sB k'.1)))) : P := h ⟨k⟩
theorem eL302 {P Q : Prop} (k : Q) (h : Hd Q → P := by intro k'; exact LexO.q rfl (by kernel_rfl) (q_asC rfl rfl) rfl rfl rfl k'.1) : P := h ⟨k⟩
theorem eL303 {P Q : Prop} (k : Q) (h : Hd Q → P := by intro k'; exact AW.xw 5 rfl (XW.ts.trans (XW.es hzs)) k'.1) : P := h ⟨k⟩
theorem eL304 {P Q : Prop} (k : Q) (h : Hd Q → P := by intro k'; exact Z10 sl27 (idx_ex hi) k'.1) : P := h ⟨k⟩
theorem eL305 {P Q : Prop} (k : Q) (h : Hd Q → P := by intro k'; refine sQ (q_call _ rfl fn48 rfl (rdepth_any _ (ok.xe _ hin) (by omega)) rfl) ?_; refine Z35 ?_; exact Z3 k'.1) : P := h ⟨k⟩
theorem eL306 {P Q : Prop} (k : Q) (h : Hd Q → P := by intro k'; refine AW.skip (AW.seq (D4 ?_)); exact Z3 k'.1) : P := h ⟨k⟩
theorem eL307 {P Q : Prop} (k : Q) (h : Hd Q → P := by intro k'; exact sQ (q_call _ rfl fn185 rfl (rtimes_any _ _ (by first | exact hb.c | exact hb.coef _ (qC hi)) hn) rfl) k'.1) : P := h ⟨k⟩
theorem eL308 {P Q : Prop} (k : Q) (h : Hd Q → P := by intro k'; refine AW.xw 3 rfl (XW.ts.trans (XW.es hzs)) ?_; exact B1 k'.1) : P := h ⟨k⟩
theorem eL309 {P Q : Prop} (k : Q) (h : Hd Q → P := by intro k'; refine G2 ?_; exact sO (q_index _ rfl sl27 rfl rfl (by omega) (idx_ex (show 1 < e.args.length by omega))) k'.1) : P := h ⟨k⟩
theorem eL310 {P Q : Prop} (k : Q) (h : Hd Q → P := by intro k'; refine AW.exit ?_; refine eth_e ?_; exact exit_here k'.1) : P := h ⟨k⟩
theorem patL {a b : List A} (h : a = b := by first | exact (rfl : (_ : List A) = [_, _]) | exact (rfl : (_ : List A) = [_, _, _, _, _, _, _, _, _, _, _, _, _, _, _, _, _, _, _, _, _, _, _, _, _, _]) | exact (rfl : (_ : List A) = [_, _, _, _, _, _, _, _]) | exact (rfl : (_ : List A) = [_, _, _, _, _]) | exact (rfl : (_ : List A) = [_, _, _]) | exact (rfl : (_ : List A) = [_, _, _, _, _, _, _, _, _, _]) | exact (rfl : (_ : List A) = [_, _, _, _, _, _, _, _, _, _, _, _, _, _, _, _, _, _, _, _, _, _]) | exact (rfl : (_ : List A) = [_, _, _, _, _, _, _, _, _]) | exact (rfl : (_ : List A) = [_, _, _, _, _, _]) | exact (rfl : (_ : List A) = [_, _, _, _]) | exact (rfl : (_ : List A) = [_, _, _, _, _, _, _]) | exact (rfl : (_ : List A) = [_, _, _, _, _, _, _, _, _, _, _, _, _, _, _, _, _, _, _, _])) : a = b := h
theorem patC {a b : C} (h : a = b := by first | exact (rfl : (_ : C) = .g [_, _, _, _, _, _, _, _]) | exact (rfl : (_ : C) = .a _) | exact (rfl : (_ : C) = .g [_, _, _, _, _]) | exact (rfl : (_ : C) = .g [_, _]) | exact (rfl : (_ : C) = .g [_, _, _, _, _, _, _, _, _, _, _, _, _, _, _, _, _, _, _, _, _, _]) | exact (rfl : (_ : C) = .g [_, _, _]) | exact (rfl : (_ : C) = .g [_, _, _, _, _, _, _, _, _, _, _, _, _, _, _, _, _, _, _, _, _, _, _, _, _, _]) | exact (rfl : (_ : C) = .g [_, _, _, _, _, _, _, _, _]) | exact (rfl : (_ : C) = .g [_, _, _, _]) | exact (rfl : (_ : C) = .g [_, _, _, _, _, _]) | exact (rfl : (_ : C) = .g [_, _, _, _, _, _, _])) : a = b := h
theorem facB {p : Prop} (h : p := by with_reducible first | exact bp35 | exact bp37 | exact bp40 | exact bp47 | exact bp58 | exact bp65 | exact bp72 | exact bp77 | exact bp88 | exact bp92 | exact bp101 | exact bp117 | exact bp119 | exact bp143 | exact bp199 | exact bp219 | exact bp224) : p := h
theorem facE {p : Prop} (h : p := by with_reducible first | exact el23 | exact el24 | exact el27 | exact el30 | exact el32 | exact el33 | exact el43 | exact el44 | exact el45 | exact el51 | exact el55 | exact el69 | exact el70 | exact el90 | exact el98 | exact el113 | exact el197 | exact el204 | exact el217) : p := h
theorem facL {p : Prop} (h : p := by with_reducible first | exact fl29_0 | exact fl29_1 | exact fl29_2 | exact fl29_3 | exact fl35_0 | exact fl35_1 | exact fl35_2 | exact fl37_0 | exact fl37_1 | exact fl37_2 | exact fl37_3 | exact fl37_4 | exact fl37_5 | exact fl40_0 | exact fl40_1 | exact fl40_2 | exact fl40_3 | exact fl40_4 | exact fl40_5 | exact fl40_6 | exact fl40_7 | exact fl40_8 | exact fl40_9 | exact fl40_10 | exact fl40_11 | exact fl47_0 | exact fl47_2 | exact fl47_3 | exact fl47_4 | exact fl58_0 | exact fl58_1 | exact fl65_0 | exact fl65_1 | exact fl72_0 | exact fl72_1 | exact fl72_2 | exact fl72_3 | exact fl72_4 | exact fl77_0 | exact fl77_1 | exact fl77_2 | exact fl77_3 | exact fl77_4 | exact fl77_5 | exact fl85_0 | exact fl85_2 | exact fl88_0 | exact fl92_0 | exact fl92_1 | exact fl92_2 | exact fl101_0 | exact fl101_1 | exact fl101_2 | exact fl110_0 | exact fl110_1 | exact fl110_2 | exact fl117_0 | exact fl117_1 | exact fl117_2 | exact fl119_0 | exact fl119_1 | exact fl119_2 | exact fl131_0 | exact fl131_1 | exact fl143_0 | exact fl143_1 | exact fl143_2 | exact fl199_0 | exact fl199_1 | exact fl219_0 | exact fl219_1 | exact fl219_2 | exact fl219_3 | exact fl219_4) : p := h
theorem facT {p : Prop} (h : p := by with_reducible first | exact ty2 | exact ty3 | exact ty4 | exact ty9 | exact ty24 | exact ty25 | exact ty26 | exact ty27 | exact ty29 | exact ty30 | exact ty31 | exact ty32 | exact ty33 | exact ty35 | exact ty37 | exact ty38 | exact ty40 | exact ty43 | exact ty44 | exact ty45 | exact ty47 | exact ty48 | exact ty51 | exact ty58 | exact ty65 | exact ty69 | exact ty70 | exact ty72 | exact ty77 | exact ty90 | exact ty92 | exact ty101 | exact ty110 | exact ty119 | exact ty131 | exact ty132 | exact ty143 | exact ty179 | exact ty197 | exact ty199 | exact ty217 | exact ty219 | exact ty224) : p := h
theorem facU {p : Prop} (h : p := by with_reducible first | exact un9 | exact un23 | exact un24 | exact un25 | exact un26 | exact un27 | exact un30 | exact un31 | exact un32 | exact un33 | exact un38 | exact un43 | exact un44 | exact un51 | exact un69 | exact un70 | exact un90 | exact un98 | exact un113 | exact un197 | exact un217) : p := h
theorem facZ {p : Prop} (h : p := by with_reducible first | exact ze29 | exact ze35 | exact ze37 | exact ze40 | exact ze47 | exact ze58 | exact ze65 | exact ze72 | exact ze77 | exact ze88 | exact ze92 | exact ze101 | exact ze110 | exact ze117 | exact ze119 | exact ze143 | exact ze199 | exact ze219 | exact ze224) : p := h
theorem Y1 (k8 : SeqK v0 v1 v3 v4 (S.mk v5 (upd v7 v6 (X.lp v10 v15)) v8 v9)) (h1 : v2.op = Op.fieldAddr v12 v13 v16 := by exact rfl) (a2 : fldB v0 v12 v16 v18 = true := by exact facL) (h3 : (S.mk v5 v7 v8 v9).eval v13 = X.lp v10 v19 := by exact rfl) (h4 : v19 + v18 = v15 := by exact rfl) (h5 : v2.guard = none := by exact rfl) (h6 : v2.dst = some v6 := by exact rfl) (h7 : v6.blt v5 = true := by exact rfl) : SeqK v0 v1 v3 (v2 :: v4) (S.mk v5 v7 v8 v9) := Z1 (a2 := a2) (k8 := k8) (h1 := h1) (h3 := h3) (h4 := h4) (h5 := h5) (h6 := h6) (h7 := h7)
theorem Y0 (k10 : SeqK v0 v1 v3 v4 (S.mk v6 (upd v7 v10 (X.c (C.a v11))) v8 v9)) (h1 : v2.op = Op.load v12 v13 := by exact rfl) (a2 : tyB v0 v12 v14 v15 = true := by exact facT) (h3 : (S.mk v6 v7 v8 v9).eval v13 = X.lp v5 v16 := by exact rfl) (h4 : v8 v5 = some (AO.box v17) := by exact rfl) (h5 : mkC v14 (List.take v15 (List.drop v16 v17)) = C.a v11 := by exact rfl) (h6 : (v16 + v15).ble v17.length = true := by exact rfl) (h7 : v2.dst = some v10 := by exact rfl) (h8 : v10.blt v6 = true := by exact rfl) (h9 : v2.guard = none := by exact rfl) : SeqK v0 v1 v3 (v2 :: v4) (S.mk v6 v7 v8 v9) := Z0 (a2 := a2) (k10 := k10) (h1 := h1) (h3 := h3) (h4 := h4) (h5 := h5) (h6 := h6) (h7 := h7) (h8 := h8) (h9 := h9)
theorem Y4 {r : List A} (k12 : SeqK v0 v1 v3 v4 (S.mk v6 v7 (upd v8 v5 (some (AO.box r))) v9)) (h2 : v2.op = Op.store v12 v13 v23 := by exact rfl) (a4 : tyB v0 v12 v14 v10 = true := by exact facT) (h3 : v2.dst = none := by exact rfl) (h5 : (S.mk v6 v7 v8 v9).eval v13 = X.lp v5 v15 := by exact rfl) (h6 : (S.mk v6 v7 v8 v9).eval v23 = X.c v27 := by exact rfl) (h7 : v8 v5 = some (AO.box v17) := by exact rfl) (h8 : splice v17 v15 v27.cells = r := by exact patL) (h9 : v27.cells.length = v10 := by exact rfl) (h10 : (v15 + v10).ble v17.length = true := by exact rfl) (h11 : v2.guard = none := by exact rfl) : SeqK v0 v1 v3 (v2 :: v4) (S.mk v6 v7 v8 v9) := Z4 (r := r) (a4 := a4) (k12 := k12) (h2 := h2) (h3 := h3) (h5 := h5) (h6 := h6) (h7 := h7) (h8 := h8) (h9 := h9) (h10 := h10) (h11 := h11)
theorem Y13 (k7 : SeqK v0 v1 v3 v4 (S.mk v5 (upd v7 v6 (iX IntKind.i64 ↑v34.length)) v8 v9)) (h1 : v2.op = Op.call { callee := Callee.builtin Builtin.len, args := #[v13], argTypes := #[v12] } := by exact rfl) (a2 : v0.underlying v12 = some (TypeDesc.slice v22) := by exact facU) (h3 : (S.mk v5 v7 v8 v9).eval v13 = X.c (C.a (A.t (T.sl v33 v10 v34))) := by exact rfl) (h4 : v2.guard = none := by exact rfl) (h5 : v2.dst = some v6 := by exact rfl) (h6 : v6.blt v5 = true := by exact rfl) : SeqK v0 v1 v3 (v2 :: v4) (S.mk v5 v7 v8 v9) := Z13 (a2 := a2) (k7 := k7) (h1 := h1) (h3 := h3) (h4 := h4) (h5 := h5) (h6 := h6)
theorem Y9 (k10 : SeqK v0 v1 v3 v4 (S.mk v5 (upd v7 v6 (X.lp v10 v15)) v8 v9)) (h1 : v2.op = Op.fieldAddr v12 v13 v19 := by exact rfl) (a2 : fldB v0 v12 v19 v30 = true := by exact facL) (h3 : (S.mk v5 v7 v8 v9).eval v13 = X.lp v10 v31 := by exact rfl) (h4 : v31 + v30 = v15 := by exact rfl) (h5 : v2.guard = some (v16, v14) := by exact rfl) (h6 : (v1[v16]?.bind fun x ↦ x.dst) = some v18 := by exact rfl) (h7 : v7 v18 = tv (Value.bool v14) := by exact rfl) (h8 : v2.dst = some v6 := by exact rfl) (h9 : v6.blt v5 = true := by exact rfl) : SeqK v0 v1 v3 (v2 :: v4) (S.mk v5 v7 v8 v9) := Z9 (a2 := a2) (k10 := k10) (h1 := h1) (h3 := h3) (h4 := h4) (h5 := h5) (h6 := h6) (h7 := h7) (h8 := h8) (h9 := h9)
theorem Y11 {r : C} (k11 : SeqK v0 v1 v3 v4 (S.mk v6 (upd v7 v10 (X.c r)) v8 v9)) (h2 : v2.op = Op.load v12 v13 := by exact rfl) (a3 : tyB v0 v12 v14 v15 = true := by exact facT) (h4 : (S.mk v6 v7 v8 v9).eval v13 = X.lp v5 v16 := by exact rfl) (h5 : v8 v5 = some (AO.box v17) := by exact rfl) (h6 : mkC v14 (List.take v15 (List.drop v16 v17)) = r := by exact patC) (h7 : (v16 + v15).ble v17.length = true := by exact rfl) (h8 : v2.dst = some v10 := by exact rfl) (h9 : v10.blt v6 = true := by exact rfl) (h10 : v2.guard = none := by exact rfl) : SeqK v0 v1 v3 (v2 :: v4) (S.mk v6 v7 v8 v9) := Z11 (r := r) (a3 := a3) (k11 := k11) (h2 := h2) (h4 := h4) (h5 := h5) (h6 := h6) (h7 := h7) (h8 := h8) (h9 := h9) (h10 := h10)
theorem Y12 {a1 : C} (k10 : SeqK v0 v1 v3 v4 (S.mk v5 (upd v7 v6 (X.c a1)) v8 v9)) (h2 : v2.op = Op.load v12 v13 := by exact rfl) (a3 : tyB v0 v12 v14 v10 = true := by exact facT) (h4 : (S.mk v5 v7 v8 v9).eval v13 = X.pc v32 := by exact rfl) (h5 : mkC v14 (List.map A.t (List.take v10 v32)) = a1 := by exact patC) (h6 : v10.ble v32.length = true := by exact rfl) (h7 : v2.guard = none := by exact rfl) (h8 : v2.dst = some v6 := by exact rfl) (h9 : v6.blt v5 = true := by exact rfl) : SeqK v0 v1 v3 (v2 :: v4) (S.mk v5 v7 v8 v9) := Z12 (a1 := a1) (a3 := a3) (k10 := k10) (h2 := h2) (h4 := h4) (h5 := h5) (h6 := h6) (h7 := h7) (h8 := h8) (h9 := h9)
theorem Y5 (k12 : SeqK v0 v1 v3 v4 (S.mk v6 (upd v7 v10 (X.c (C.a v11))) v8 v9)) (h1 : v2.op = Op.load v12 v13 := by exact rfl) (a2 : tyB v0 v12 v28 v18 = true := by exact facT) (h3 : (S.mk v6 v7 v8 v9).eval v13 = X.lp v5 v19 := by exact rfl) (h4 : v8 v5 = some (AO.box v17) := by exact rfl) (h5 : mkC v28 (List.take v18 (List.drop v19 v17)) = C.a v11 := by exact rfl) (h6 : (v19 + v18).ble v17.length = true := by exact rfl) (h7 : v2.dst = some v10 := by exact rfl) (h8 : v10.blt v6 = true := by exact rfl) (h9 : v2.guard = some (v15, v14) := by exact rfl) (h10 : (v1[v15]?.bind fun x ↦ x.dst) = some v16 := by exact rfl) (h11 : v7 v16 = tv (Value.bool v14) := by exact rfl) : SeqK v0 v1 v3 (v2 :: v4) (S.mk v6 v7 v8 v9) := Z5 (a2 := a2) (k12 := k12) (h1 := h1) (h3 := h3) (h4 := h4) (h5 := h5) (h6 := h6) (h7 := h7) (h8 := h8) (h9 := h9) (h10 := h10) (h11 := h11)
theorem Y20 {r : List A} (k9 : SeqK v0 v1 v3 v4 (S.mk v6 (upd v7 v5 (X.lp v5 0)) (upd v8 v5 (some (AO.box r))) v9)) (h2 : v2.op = Op.box v12 v13 := by exact rfl) (h3 : v2.dst = some v5 := by exact rfl) (h4 : (S.mk v6 v7 v8 v9).eval v13 = X.c v27 := by exact rfl) (h5 : v27.cells = r := by exact patL) (h6 : v8 v5 = none := by exact rfl) (h7 : v5.blt v6 = true := by exact rfl) (h8 : v2.guard = none := by exact rfl) : SeqK v0 v1 v3 (v2 :: v4) (S.mk v6 v7 v8 v9) := Z20 (r := r) (k9 := k9) (h2 := h2) (h3 := h3) (h4 := h4) (h5 := h5) (h6 := h6) (h7 := h7) (h8 := h8)
theorem Y15 {r : List A} {zs : List A} {a3 : List (Nat × Nat)} (k15 : SeqK v0 v1 v3 v4 (S.mk v5 (upd v7 v6 (X.c (C.g r))) v8 v9)) (h4 : v2.op = Op.build v12 v35 := by exact rfl) (a5 : zeroIs v0 v12 v36 := by exact facZ) (a7 : bplB v0 v12 a3 = true := by exact facB) (h6 : v36.cells.toList.all Value.oneCell' = true := by exact rfl) (h8 : partsX (S.mk v5 v7 v8 v9) v35.toList = some v37 := by exact rfl) (h9 : List.map litA v36.cells.toList = zs := by exact patL) (h10 : contB a3 0 zs.length = true := by exact rfl) (h11 : buildA a3 0 zs v37 = some r := by exact rfl) (h12 : v2.guard = none := by exact rfl) (h13 : v2.dst = some v6 := by exact rfl) (h14 : v6.blt v5 = true := by exact rfl) : SeqK v0 v1 v3 (v2 :: v4) (S.mk v5 v7 v8 v9) := Z15 (r := r) (zs := zs) (a3 := a3) (a5 := a5) (a7 := a7) (k15 := k15) (h4 := h4) (h6 := h6) (h8 := h8) (h9 := h9) (h10 := h10) (h11 := h11) (h12 := h12) (h13 := h13) (h14 := h14)
theorem Y25 (k8 : LexK v0 v1 v3 v4 (S.mk v6 (upd v7 v10 (X.lp v15 v16)) v8 v9) v5 (v43 ++ [(lookT v1 v2, dstT v2)])) (h1 : v2.op = Op.fieldAddr v12 v13 v18 := by exact rfl) (a2 : fldB v0 v12 v18 v19 = true := by exact facL) (h3 : (S.mk v6 v7 v8 v9).eval v13 = X.lp v15 v30 := by exact rfl) (h4 : v30 + v19 = v16 := by exact rfl) (h5 : v2.guard = none := by exact rfl) (h6 : v2.dst = some v10 := by exact rfl) (h7 : v10.blt v6 = true := by exact rfl) : LexK v0 v1 v3 (v2 :: v4) (S.mk v6 v7 v8 v9) v5 v43 := Z25 (a2 := a2) (k8 := k8) (h1 := h1) (h3 := h3) (h4 := h4) (h5 := h5) (h6 := h6) (h7 := h7)
theorem Y24 {r : List A} (k10 : SeqK v0 v1 v3 v4 (S.mk v6 (upd v7 v5 (X.lp v5 0)) (upd v8 v5 (some (AO.box r))) v9)) (h2 : v2.op = Op.alloc v12 := by exact rfl) (a4 : zeroIs v0 v12 v36 := by exact facZ) (h3 : v2.dst = some v5 := by exact rfl) (h5 : v36.cells.toList.all Value.oneCell' = true := by exact rfl) (h6 : List.map litA v36.cells.toList = r := by exact patL) (h7 : v8 v5 = none := by exact rfl) (h8 : v5.blt v6 = true := by exact rfl) (h9 : v2.guard = none := by exact rfl) : SeqK v0 v1 v3 (v2 :: v4) (S.mk v6 v7 v8 v9) := Z24 (r := r) (a4 := a4) (k10 := k10) (h2 := h2) (h3 := h3) (h5 := h5) (h6 := h6) (h7 := h7) (h8 := h8) (h9 := h9)
theorem Y19 (k10 : LexK v0 v1 v3 v4 (S.mk v10 (upd v7 v15 (X.c (C.a v11))) v8 v9) v5 (v43 ++ [(Loc.b v6 :: lk v2, dstT v2)])) (h1 : v2.op = Op.load v12 v13 := by exact rfl) (a2 : tyB v0 v12 v14 v16 = true := by exact facT) (h3 : (S.mk v10 v7 v8 v9).eval v13 = X.lp v6 v18 := by exact rfl) (h4 : v8 v6 = some (AO.box v17) := by exact rfl) (h5 : mkC v14 (List.take v16 (List.drop v18 v17)) = C.a v11 := by exact rfl) (h6 : (v18 + v16).ble v17.length = true := by exact rfl) (h7 : v2.dst = some v15 := by exact rfl) (h8 : v15.blt v10 = true := by exact rfl) (h9 : v2.guard = none := by exact rfl) : LexK v0 v1 v3 (v2 :: v4) (S.mk v10 v7 v8 v9) v5 v43 := Z19 (a2 := a2) (k10 := k10) (h1 := h1) (h3 := h3) (h4 := h4) (h5 := h5) (h6 := h6) (h7 := h7) (h8 := h8) (h9 := h9)
theorem Y21 (k9 : SeqK v0 v1 v3 v4 (S.mk v5 (upd v7 v6 (X.c (C.a (A.t (T.sl Nz.nn v10 v34))))) v8 v9)) (h1 : v2.op = Op.buildSlice v12 v15 v35 := by exact rfl) (a2 : elB v0 v12 v22 v10 v16 = true := by exact facE) (h3 : v35.size = v15 := by exact rfl) (h4 : v15 * v10 ≤ 16777216 := by decide) (h5 : elemsX (S.mk v5 v7 v8 v9) v10 0 v35.toList = some v34 := by exact rfl) (h6 : v2.guard = none := by exact rfl) (h7 : v2.dst = some v6 := by exact rfl) (h8 : v6.blt v5 = true := by exact rfl) : SeqK v0 v1 v3 (v2 :: v4) (S.mk v5 v7 v8 v9) := Z21 (a2 := a2) (k9 := k9) (h1 := h1) (h3 := h3) (h4 := h4) (h5 := h5) (h6 := h6) (h7 := h7) (h8 := h8)
theorem Y27 {a1 : C} (k10 : LexK v0 v1 v3 v4 (S.mk v6 (upd v7 v10 (X.c a1)) v8 v9) v5 (v43 ++ [(lookT v1 v2, dstT v2)])) (h2 : v2.op = Op.load v12 v13 := by exact rfl) (a3 : tyB v0 v12 v14 v15 = true := by exact facT) (h4 : (S.mk v6 v7 v8 v9).eval v13 = X.pc v32 := by exact rfl) (h5 : mkC v14 (List.map A.t (List.take v15 v32)) = a1 := by exact patC) (h6 : v15.ble v32.length = true := by exact rfl) (h7 : v2.guard = none := by exact rfl) (h8 : v2.dst = some v10 := by exact rfl) (h9 : v10.blt v6 = true := by exact rfl) : LexK v0 v1 v3 (v2 :: v4) (S.mk v6 v7 v8 v9) v5 v43 := Z27 (a1 := a1) (a3 := a3) (k10 := k10) (h2 := h2) (h4 := h4) (h5 := h5) (h6 := h6) (h7 := h7) (h8 := h8) (h9 := h9)
theorem Y34 (k8 : SeqK v0 v1 v3 v4 (S.mk v5 (upd v7 v6 (X.pc v32)) v8 v9)) (h1 : v2.op = Op.fieldAddr v12 v13 v10 := by exact rfl) (a2 : fldB v0 v12 v10 v15 = true := by exact facL) (h3 : (S.mk v5 v7 v8 v9).eval v13 = X.pc v46 := by exact rfl) (h4 : List.drop v15 v46 = v32 := by exact rfl) (h5 : v2.guard = none := by exact rfl) (h6 : v2.dst = some v6 := by exact rfl) (h7 : v6.blt v5 = true := by exact rfl) : SeqK v0 v1 v3 (v2 :: v4) (S.mk v5 v7 v8 v9) := Z34 (a2 := a2) (k8 := k8) (h1 := h1) (h3 := h3) (h4 := h4) (h5 := h5) (h6 := h6) (h7 := h7)
theorem Y41 (k9 : SeqK v0 v1 v3 v4 (S.mk v5 (upd v7 v6 (iX IntKind.i64 ↑v34.length)) v8 v9)) (h1 : v2.op = Op.call { callee := Callee.builtin Builtin.len, args := #[v13], argTypes := #[v12] } := by exact rfl) (a2 : v0.underlying v12 = some (TypeDesc.slice v22) := by exact facU) (h3 : (S.mk v5 v7 v8 v9).eval v13 = X.c (C.a (A.t (T.sl v33 v16 v34))) := by exact rfl) (h4 : v2.guard = some (v10, v14) := by exact rfl) (h5 : (v1[v10]?.bind fun x ↦ x.dst) = some v15 := by exact rfl) (h6 : v7 v15 = tv (Value.bool v14) := by exact rfl) (h7 : v2.dst = some v6 := by exact rfl) (h8 : v6.blt v5 = true := by exact rfl) : SeqK v0 v1 v3 (v2 :: v4) (S.mk v5 v7 v8 v9) := Z41 (a2 := a2) (k9 := k9) (h1 := h1) (h3 := h3) (h4 := h4) (h5 := h5) (h6 := h6) (h7 := h7) (h8 := h8)
theorem Y48 (k8 : LexK v0 v1 v3 v4 (S.mk v6 (upd v7 v10 (X.pc v32)) v8 v9) v5 (v43 ++ [(lookT v1 v2, dstT v2)])) (h1 : v2.op = Op.fieldAddr v12 v13 v15 := by exact rfl) (a2 : fldB v0 v12 v15 v16 = true := by exact facL) (h3 : (S.mk v6 v7 v8 v9).eval v13 = X.pc v46 := by exact rfl) (h4 : List.drop v16 v46 = v32 := by exact rfl) (h5 : v2.guard = none := by exact rfl) (h6 : v2.dst = some v10 := by exact rfl) (h7 : v10.blt v6 = true := by exact rfl) : LexK v0 v1 v3 (v2 :: v4) (S.mk v6 v7 v8 v9) v5 v43 := Z48 (a2 := a2) (k8 := k8) (h1 := h1) (h3 := h3) (h4 := h4) (h5 := h5) (h6 := h6) (h7 := h7)
theorem Y57 (k7 : SeqK v0 v1 v3 v4 (S.mk v5 (upd v7 v6 (iX IntKind.i64 ↑v48.size)) v8 v9)) (h1 : v2.op = Op.call { callee := Callee.builtin Builtin.len, args := #[v13], argTypes := #[v12] } := by exact rfl) (a2 : v0.underlying v12 = some TypeDesc.string := by exact facU) (h3 : (S.mk v5 v7 v8 v9).eval v13 = sX v48 := by exact rfl) (h4 : v2.guard = none := by exact rfl) (h5 : v2.dst = some v6 := by exact rfl) (h6 : v6.blt v5 = true := by exact rfl) : SeqK v0 v1 v3 (v2 :: v4) (S.mk v5 v7 v8 v9) := Z57 (a2 := a2) (k7 := k7) (h1 := h1) (h3 := h3) (h4 := h4) (h5 := h5) (h6 := h6)
theorem Y51 {a1 : C} (k12 : SeqK v0 v1 v3 v4 (S.mk v5 (upd v7 v6 (X.c a1)) v8 v9)) (h2 : v2.op = Op.load v12 v13 := by exact rfl) (a3 : tyB v0 v12 v28 v16 = true := by exact facT) (h4 : (S.mk v5 v7 v8 v9).eval v13 = X.pc v32 := by exact rfl) (h5 : mkC v28 (List.map A.t (List.take v16 v32)) = a1 := by exact patC) (h6 : v16.ble v32.length = true := by exact rfl) (h7 : v2.guard = some (v10, v14) := by exact rfl) (h8 : (v1[v10]?.bind fun x ↦ x.dst) = some v15 := by exact rfl) (h9 : v7 v15 = tv (Value.bool v14) := by exact rfl) (h10 : v2.dst = some v6 := by exact rfl) (h11 : v6.blt v5 = true := by exact rfl) : SeqK v0 v1 v3 (v2 :: v4) (S.mk v5 v7 v8 v9) := Z51 (a1 := a1) (a3 := a3) (k12 := k12) (h2 := h2) (h4 := h4) (h5 := h5) (h6 := h6) (h7 := h7) (h8 := h8) (h9 := h9) (h10 := h10) (h11 := h11)
theorem Y54 {r : C} (k11 : LexK v0 v1 v3 v4 (S.mk v10 (upd v7 v15 (X.c r)) v8 v9) v5 (v43 ++ [(Loc.b v6 :: lk v2, dstT v2)])) (h2 : v2.op = Op.load v12 v13 := by exact rfl) (a3 : tyB v0 v12 v14 v16 = true := by exact facT) (h4 : (S.mk v10 v7 v8 v9).eval v13 = X.lp v6 v18 := by exact rfl) (h5 : v8 v6 = some (AO.box v17) := by exact rfl) (h6 : mkC v14 (List.take v16 (List.drop v18 v17)) = r := by exact patC) (h7 : (v18 + v16).ble v17.length = true := by exact rfl) (h8 : v2.dst = some v15 := by exact rfl) (h9 : v15.blt v10 = true := by exact rfl) (h10 : v2.guard = none := by exact rfl) : LexK v0 v1 v3 (v2 :: v4) (S.mk v10 v7 v8 v9) v5 v43 := Z54 (r := r) (a3 := a3) (k11 := k11) (h2 := h2) (h4 := h4) (h5 := h5) (h6 := h6) (h7 := h7) (h8 := h8) (h9 := h9) (h10 := h10)
theorem Y53 {r : List A} (k12 : LexK v0 v1 v3 v4 (S.mk v10 v7 (upd v8 v6 (some (AO.box r))) v9) v5 (v43 ++ [(Loc.b v6 :: lk v2, [Loc.b v6])])) (h2 : v2.op = Op.store v12 v13 v23 := by exact rfl) (a4 : tyB v0 v12 v14 v15 = true := by exact facT) (h3 : v2.dst = none := by exact rfl) (h5 : (S.mk v10 v7 v8 v9).eval v13 = X.lp v6 v16 := by exact rfl) (h6 : (S.mk v10 v7 v8 v9).eval v23 = X.c v27 := by exact rfl) (h7 : v8 v6 = some (AO.box v17) := by exact rfl) (h8 : splice v17 v16 v27.cells = r := by exact patL) (h9 : v27.cells.length = v15 := by exact rfl) (h10 : (v16 + v15).ble v17.length = true := by exact rfl) (h11 : v2.guard = none := by exact rfl) : LexK v0 v1 v3 (v2 :: v4) (S.mk v10 v7 v8 v9) v5 v43 := Z53 (r := r) (a4 := a4) (k12 := k12) (h2 := h2) (h3 := h3) (h5 := h5) (h6 := h6) (h7 := h7) (h8 := h8) (h9 := h9) (h10 := h10) (h11 := h11)
theorem Y59 (k10 : LexK v0 v1 v3 v4 (S.mk v6 (upd v7 v10 (X.lp v15 v16)) v8 v9) v5 (v43 ++ [(lookT v1 v2, dstT v2)])) (h1 : v2.op = Op.fieldAddr v12 v13 v30 := by exact rfl) (a2 : fldB v0 v12 v30 v31 = true := by exact facL) (h3 : (S.mk v6 v7 v8 v9).eval v13 = X.lp v15 v49 := by exact rfl) (h4 : v49 + v31 = v16 := by exact rfl) (h5 : v2.guard = some (v18, v14) := by exact rfl) (h6 : (v1[v18]?.bind fun x ↦ x.dst) = some v19 := by exact rfl) (h7 : v7 v19 = tv (Value.bool v14) := by exact rfl) (h8 : v2.dst = some v10 := by exact rfl) (h9 : v10.blt v6 = true := by exact rfl) : LexK v0 v1 v3 (v2 :: v4) (S.mk v6 v7 v8 v9) v5 v43 := Z59 (a2 := a2) (k10 := k10) (h1 := h1) (h3 := h3) (h4 := h4) (h5 := h5) (h6 := h6) (h7 := h7) (h8 := h8) (h9 := h9)
theorem Y58 {r : C} (k13 : SeqK v0 v1 v3 v4 (S.mk v6 (upd v7 v10 (X.c r)) v8 v9)) (h2 : v2.op = Op.load v12 v13 := by exact rfl) (a3 : tyB v0 v12 v28 v18 = true := by exact facT) (h4 : (S.mk v6 v7 v8 v9).eval v13 = X.lp v5 v19 := by exact rfl) (h5 : v8 v5 = some (AO.box v17) := by exact rfl) (h6 : mkC v28 (List.take v18 (List.drop v19 v17)) = r := by exact patC) (h7 : (v19 + v18).ble v17.length = true := by exact rfl) (h8 : v2.dst = some v10 := by exact rfl) (h9 : v10.blt v6 = true := by exact rfl) (h10 : v2.guard = some (v15, v14) := by exact rfl) (h11 : (v1[v15]?.bind fun x ↦ x.dst) = some v16 := by exact rfl) (h12 : v7 v16 = tv (Value.bool v14) := by exact rfl) : SeqK v0 v1 v3 (v2 :: v4) (S.mk v6 v7 v8 v9) := Z58 (r := r) (a3 := a3) (k13 := k13) (h2 := h2) (h4 := h4) (h5 := h5) (h6 := h6) (h7 := h7) (h8 := h8) (h9 := h9) (h10 := h10) (h11 := h11) (h12 := h12)
theorem Y55 (k12 : LexK v0 v1 v3 v4 (S.mk v10 (upd v7 v15 (X.c (C.a v11))) v8 v9) v5 (v43 ++ [(Loc.t v18 :: Loc.b v6 :: lk v2, dstT v2)])) (h1 : v2.op = Op.load v12 v13 := by exact rfl) (a2 : tyB v0 v12 v28 v19 = true := by exact facT) (h3 : (S.mk v10 v7 v8 v9).eval v13 = X.lp v6 v30 := by exact rfl) (h4 : v8 v6 = some (AO.box v17) := by exact rfl) (h5 : mkC v28 (List.take v19 (List.drop v30 v17)) = C.a v11 := by exact rfl) (h6 : (v30 + v19).ble v17.length = true := by exact rfl) (h7 : v2.dst = some v15 := by exact rfl) (h8 : v15.blt v10 = true := by exact rfl) (h9 : v2.guard = some (v16, v14) := by exact rfl) (h10 : (v1[v16]?.bind fun x ↦ x.dst) = some v18 := by exact rfl) (h11 : v7 v18 = tv (Value.bool v14) := by exact rfl) : LexK v0 v1 v3 (v2 :: v4) (S.mk v10 v7 v8 v9) v5 v43 := Z55 (a2 := a2) (k12 := k12) (h1 := h1) (h3 := h3) (h4 := h4) (h5 := h5) (h6 := h6) (h7 := h7) (h8 := h8) (h9 := h9) (h10 := h10) (h11 := h11)
theorem Y31 (k10 : SeqK v0 v1 v3 v4 (S.mk v5 (upd v7 v6 (X.c (C.a v11))) v8 v9)) (h1 : v2.op = Op.load v12 v13 := by exact rfl) (a2 : tyB v0 v12 v14 v10 = true := by exact facT) (h3 : (S.mk v5 v7 v8 v9).eval v13 = X.c (C.a (A.bp v15 v16)) := by exact rfl) (h4 : v9 v15 = some (AO.box v17) := by (repeat rw [upd_ne _ _ (by first | assumption | exact Ne.symm (by assumption))]); first | assumption | exact upd_same _ _ _) (h5 : mkC v14 (List.take v10 (List.drop v16 v17)) = C.a v11 := by exact rfl) (h6 : (v16 + v10).ble v17.length = true := by exact rfl) (h7 : v2.dst = some v6 := by exact rfl) (h8 : v6.blt v5 = true := by exact rfl) (h9 : v2.guard = none := by exact rfl) : SeqK v0 v1 v3 (v2 :: v4) (S.mk v5 v7 v8 v9) := Z31 (a2 := a2) (k10 := k10) (h1 := h1) (h3 := h3) (h4 := h4) (h5 := h5) (h6 := h6) (h7 := h7) (h8 := h8) (h9 := h9)
theorem G0 {P Q : Prop} (k : Q) (h : Hd Q → P := by intro k; first | exact sB k.1 | exact sM k.1 | exact Y1 k.1 | exact Y0 k.1 | exact Z6 k.1 | exact Z7 k.1 | exact Y4 k.1 | exact Z2 k.1 | exact Y13 k.1 | exact Z8 k.1 | exact Y9 k.1 | exact sA k.1 | exact Y11 k.1 | exact Y12 k.1 | exact Z17 k.1 | exact Y5 k.1 | exact Z18 k.1 | exact Z14 k.1 | exact Y20 k.1 | exact Y15 k.1 | exact Y24 k.1 | exact Y21 k.1 | exact Z28 k.1 | exact Z90 k.1 | exact Z29 k.1 | exact Z30 k.1 | exact Z35 k.1 | exact Y34 k.1 | exact Z46 k.1 | exact Z36 k.1 | exact Z37 k.1 | exact Z39 k.1 | exact Z50 k.1 | exact Y41 k.1 | exact Y57 k.1 | exact Z32 k.1 | exact Z52 k.1 | exact Y51 k.1 | exact Z60 k.1 | exact Z56 k.1 | exact Y58 k.1 | exact Y31 k.1) : P := h ⟨k⟩
theorem N0 {P Q : Prop} (k : Q) (h : Hd Q → P := by intro k; first | exact Z23 k.1 | exact Y25 k.1 | exact Y19 k.1 | exact Y27 k.1 | exact Z33 k.1 | exact Z42 k.1 | exact Z91 k.1 | exact Y48 k.1 | exact Y54 k.1 | exact Y53 k.1 | exact Y59 k.1 | exact Y55 k.1) : P := h ⟨k⟩
theorem B1 {P : Program} {Q : Exit → S → Prop} {s : S} {id : Nat} {l : List Oper} {R : Prop} (k : R) (h : Hd R → SeqK P l.toArray (Q .normal) l s := by intro k; exact G0 k.1) : AW P (.region id l.toArray false) Q s := AW.reg (h ⟨k⟩)
theorem B2 {P : Program} {Q : Exit → S → Prop} {s : S} {id : Nat} {l : List Oper} {R : Prop} (k : R) (h : Hd R → SeqK P l.toArray (Q .normal) l s := by intro k; (iterate 1 refine G0 ?_); exact G0 k.1) : AW P (.region id l.toArray false) Q s := AW.reg (h ⟨k⟩)
theorem B3 {P : Program} {Q : Exit → S → Prop} {s : S} {id : Nat} {l : List Oper} {R : Prop} (k : R) (h : Hd R → SeqK P l.toArray (Q .normal) l s := by intro k; (iterate 2 refine G0 ?_); exact G0 k.1) : AW P (.region id l.toArray false) Q s := AW.reg (h ⟨k⟩)
theorem B4 {P : Program} {Q : Exit → S → Prop} {s : S} {id : Nat} {l : List Oper} {R : Prop} (k : R) (h : Hd R → SeqK P l.toArray (Q .normal) l s := by intro k; (iterate 3 refine G0 ?_); exact G0 k.1) : AW P (.region id l.toArray false) Q s := AW.reg (h ⟨k⟩)
theorem B5 {P : Program} {Q : Exit → S → Prop} {s : S} {id : Nat} {l : List Oper} {R : Prop} (k : R) (h : Hd R → SeqK P l.toArray (Q .normal) l s := by intro k; (iterate 4 refine G0 ?_); exact G0 k.1) : AW P (.region id l.toArray false) Q s := AW.reg (h ⟨k⟩)
theorem B6 {P : Program} {Q : Exit → S → Prop} {s : S} {id : Nat} {l : List Oper} {R : Prop} (k : R) (h : Hd R → SeqK P l.toArray (Q .normal) l s := by intro k; (iterate 5 refine G0 ?_); exact G0 k.1) : AW P (.region id l.toArray false) Q s := AW.reg (h ⟨k⟩)
theorem B7 {P : Program} {Q : Exit → S → Prop} {s : S} {id : Nat} {l : List Oper} {R : Prop} (k : R) (h : Hd R → SeqK P l.toArray (Q .normal) l s := by intro k; (iterate 6 refine G0 ?_); exact G0 k.1) : AW P (.region id l.toArray false) Q s := AW.reg (h ⟨k⟩)
theorem B10 {P : Program} {Q : Exit → S → Prop} {s : S} {id : Nat} {l : List Oper} {R : Prop} (k : R) (h : Hd R → SeqK P l.toArray (Q .normal) l s := by intro k; (iterate 9 refine G0 ?_); exact G0 k.1) : AW P (.region id l.toArray false) Q s := AW.reg (h ⟨k⟩)
theorem B11 {P : Program} {Q : Exit → S → Prop} {s : S} {id : Nat} {l : List Oper} {R : Prop} (k : R) (h : Hd R → SeqK P l.toArray (Q .normal) l s := by intro k; (iterate 10 refine G0 ?_); exact G0 k.1) : AW P (.region id l.toArray false) Q s := AW.reg (h ⟨k⟩)
theorem G1 {P Q : Prop} (k : Q) (h : Hd Q → P := by intro k; exact G0 k.1) : P := h ⟨k⟩
theorem G2 {P Q : Prop} (k : Q) (h : Hd Q → P := by intro k; (iterate 1 refine G0 ?_); exact G0 k.1) : P := h ⟨k⟩
theorem G3 {P Q : Prop} (k : Q) (h : Hd Q → P := by intro k; (iterate 2 refine G0 ?_); exact G0 k.1) : P := h ⟨k⟩
theorem G4 {P Q : Prop} (k : Q) (h : Hd Q → P := by intro k; (iterate 3 refine G0 ?_); exact G0 k.1) : P := h ⟨k⟩
theorem G5 {P Q : Prop} (k : Q) (h : Hd Q → P := by intro k; (iterate 4 refine G0 ?_); exact G0 k.1) : P := h ⟨k⟩
theorem G6 {P Q : Prop} (k : Q) (h : Hd Q → P := by intro k; (iterate 5 refine G0 ?_); exact G0 k.1) : P := h ⟨k⟩
theorem G7 {P Q : Prop} (k : Q) (h : Hd Q → P := by intro k; (iterate 6 refine G0 ?_); exact G0 k.1) : P := h ⟨k⟩
theorem G8 {P Q : Prop} (k : Q) (h : Hd Q → P := by intro k; (iterate 7 refine G0 ?_); exact G0 k.1) : P := h ⟨k⟩
theorem G13 {P Q : Prop} (k : Q) (h : Hd Q → P := by intro k; (iterate 12 refine G0 ?_); exact G0 k.1) : P := h ⟨k⟩
theorem N1 {P Q : Prop} (k : Q) (h : Hd Q → P := by intro k; exact N0 k.1) : P := h ⟨k⟩
theorem N2 {P Q : Prop} (k : Q) (h : Hd Q → P := by intro k; (iterate 1 refine N0 ?_); exact N0 k.1) : P := h ⟨k⟩
theorem N3 {P Q : Prop} (k : Q) (h : Hd Q → P := by intro k; (iterate 2 refine N0 ?_); exact N0 k.1) : P := h ⟨k⟩
theorem N4 {P Q : Prop} (k : Q) (h : Hd Q → P := by intro k; (iterate 3 refine N0 ?_); exact N0 k.1) : P := h ⟨k⟩
theorem N5 {P Q : Prop} (k : Q) (h : Hd Q → P := by intro k; (iterate 4 refine N0 ?_); exact N0 k.1) : P := h ⟨k⟩
theorem N6 {P Q : Prop} (k : Q) (h : Hd Q → P := by intro k; (iterate 5 refine N0 ?_); exact N0 k.1) : P := h ⟨k⟩
theorem N7 {P Q : Prop} (k : Q) (h : Hd Q → P := by intro k; (iterate 6 refine N0 ?_); exact N0 k.1) : P := h ⟨k⟩
theorem N8 {P Q : Prop} (k : Q) (h : Hd Q → P := by intro k; (iterate 7 refine N0 ?_); exact N0 k.1) : P := h ⟨k⟩
theorem N10 {P Q : Prop} (k : Q) (h : Hd Q → P := by intro k; (iterate 9 refine N0 ?_); exact N0 k.1) : P := h ⟨k⟩
theorem D1 {P : Program} {Q : Exit → S → Prop} {s : S} {cd : Code} {id : Nat} {l : List Oper} {R : Prop} (k : R) (h : Hd R → SeqK P l.toArray ((Eth (AW P cd Q) Q) .normal) l s := by intro k; exact G0 k.1) : AW P (.seq (.region id l.toArray false) cd) Q s := sR (h ⟨k⟩)
theorem D2 {P : Program} {Q : Exit → S → Prop} {s : S} {cd : Code} {id : Nat} {l : List Oper} {R : Prop} (k : R) (h : Hd R → SeqK P l.toArray ((Eth (AW P cd Q) Q) .normal) l s := by intro k; (iterate 1 refine G0 ?_); exact G0 k.1) : AW P (.seq (.region id l.toArray false) cd) Q s := sR (h ⟨k⟩)
theorem D3 {P : Program} {Q : Exit → S → Prop} {s : S} {cd : Code} {id : Nat} {l : List Oper} {R : Prop} (k : R) (h : Hd R → SeqK P l.toArray ((Eth (AW P cd Q) Q) .normal) l s := by intro k; (iterate 2 refine G0 ?_); exact G0 k.1) : AW P (.seq (.region id l.toArray false) cd) Q s := sR (h ⟨k⟩)
theorem D4 {P : Program} {Q : Exit → S → Prop} {s : S} {cd : Code} {id : Nat} {l : List Oper} {R : Prop} (k : R) (h : Hd R → SeqK P l.toArray ((Eth (AW P cd Q) Q) .normal) l s := by intro k; (iterate 3 refine G0 ?_); exact G0 k.1) : AW P (.seq (.region id l.toArray false) cd) Q s := sR (h ⟨k⟩)
theorem D5 {P : Program} {Q : Exit → S → Prop} {s : S} {cd : Code} {id : Nat} {l : List Oper} {R : Prop} (k : R) (h : Hd R → SeqK P l.toArray ((Eth (AW P cd Q) Q) .normal) l s := by intro k; (iterate 4 refine G0 ?_); exact G0 k.1) : AW P (.seq (.region id l.toArray false) cd) Q s := sR (h ⟨k⟩)
theorem D6 {P : Program} {Q : Exit → S → Prop} {s : S} {cd : Code} {id : Nat} {l : List Oper} {R : Prop} (k : R) (h : Hd R → SeqK P l.toArray ((Eth (AW P cd Q) Q) .normal) l s := by intro k; (iterate 5 refine G0 ?_); exact G0 k.1) : AW P (.seq (.region id l.toArray false) cd) Q s := sR (h ⟨k⟩)
theorem D7 {P : Program} {Q : Exit → S → Prop} {s : S} {cd : Code} {id : Nat} {l : List Oper} {R : Prop} (k : R) (h : Hd R → SeqK P l.toArray ((Eth (AW P cd Q) Q) .normal) l s := by intro k; (iterate 6 refine G0 ?_); exact G0 k.1) : AW P (.seq (.region id l.toArray false) cd) Q s := sR (h ⟨k⟩)
theorem D17 {P : Program} {Q : Exit → S → Prop} {s : S} {cd : Code} {id : Nat} {l : List Oper} {R : Prop} (k : R) (h : Hd R → SeqK P l.toArray ((Eth (AW P cd Q) Q) .normal) l s := by intro k; (iterate 16 refine G0 ?_); exact G0 k.1) : AW P (.seq (.region id l.toArray false) cd) Q s := sR (h ⟨k⟩)
end
end Go.Proofs.YtgnnjebfoffphaaGreatDoor.E
namespace Go.Proofs.YtgnnjebfoffphaaGreatDoor.W
open Fx
open Go.RowKit E M
theorem wK {s : S} (N : Nat) {l : List (Nat × X)} {ll : List (Nat × AO)} {H : Heap} (hn : s.n = N := by exact rfl) (ht : keepT s.t l := by repeat first | exact trivial | refine ⟨rfl, ?_⟩) (hL : keepL s.L ll := by repeat first | exact trivial | refine ⟨rfl, ?_⟩) (hH : ∀ k o, H k = some o → s.H k = some o := by exact fun _ _ h => h) (hok : okLoc l ll = true := by exact rfl) : Wk s ⟨N, sp l, lv ll, H⟩ := Wk.keep N l ll H hn ht hL hH hok
theorem sQ {P : Program} {all : Array Oper} {o : Oper} {K : S → Prop} {rest : List Oper} {n d : Nat} {t : Nat → X} {L : Nat → Option AO} {H : Heap} {x : X} (h : QV P o ⟨n, t, L, H⟩ x) (k : SeqK P all K rest ⟨n, upd t d x, L, H⟩) (hg : o.guard = none := by exact rfl) (hdst : o.dst = some d := by exact rfl) (hd : Nat.blt d n = true := by exact rfl) : SeqK P all K (o :: rest) ⟨n, t, L, H⟩ := SeqK.q h hg hdst hd k
theorem sO {P : Program} {all : Array Oper} {o : Oper} {K : S → Prop} {rest : List Oper} {n d j i : Nat} {b : Bool} {t : Nat → X} {L : Nat → Option AO} {H : Heap} {x : X} (h : QV P o ⟨n, t, L, H⟩ x) (k : SeqK P all K rest ⟨n, upd t d x, L, H⟩) (hg : o.guard = some (j, b) := by exact rfl) (hj : (all[j]?).bind (·.dst) = some i := by exact rfl) (hb : t i = tv (.bool b) := by exact rfl) (hdst : o.dst = some d := by exact rfl) (hd : Nat.blt d n = true := by exact rfl) : SeqK P all K (o :: rest) ⟨n, t, L, H⟩ := SeqK.on h hg hj hb hdst hd k
theorem lQ {P : Program} {all : Array Oper} {o : Oper} {K : S → Prop} {rest : List Oper} {n d p : Nat} {fp : List Fp} {t : Nat → X} {L : Nat → Option AO} {H : Heap} {x : X} (h : QV P o ⟨n, t, L, H⟩ x) (k : LexK P all K rest ⟨n, upd t d x, L, H⟩ p (fp ++ [(lookT all o, dstT o)])) (hg : o.guard = none := by exact rfl) (hdst : o.dst = some d := by exact rfl) (hd : Nat.blt d n = true := by exact rfl) : LexK P all K (o :: rest) ⟨n, t, L, H⟩ p fp := LexK.q h hg hdst hd k
theorem lO {P : Program} {all : Array Oper} {o : Oper} {K : S → Prop} {rest : List Oper} {n d p j i : Nat} {b : Bool} {fp : List Fp} {t : Nat → X} {L : Nat → Option AO} {H : Heap} {x : X} (h : QV P o ⟨n, t, L, H⟩ x) (k : LexK P all K rest ⟨n, upd t d x, L, H⟩ p (fp ++ [(lookT all o, dstT o)])) (hg : o.guard = some (j, b) := by exact rfl) (hj : (all[j]?).bind (·.dst) = some i := by exact rfl) (hb : t i = tv (.bool b) := by exact rfl) (hdst : o.dst = some d := by exact rfl) (hd : Nat.blt d n = true := by exact rfl) : LexK P all K (o :: rest) ⟨n, t, L, H⟩ p fp := LexK.on h hg hj hb hdst hd k
abbrev nA : A := .t (.v (.slice none 0 0))
abbrev zI : A := .t (.v (.int .i64 0))
abbrev zS : A := .t (.v (.string ⟨#[]⟩))
abbrev nX (i : Nat) : X := iX .i64 (i : Int)
theorem oI {α β : Type} {f : α → β} {l : List α} {i : Nat} (h : (i : Int) < ((l.map f).length : Int)) : i < l.length := by rw [qA] at h; omega
theorem oE {α β : Type} {f : α → β} {l : List α} {i : Nat} (h : ¬ (i : Int) < ((l.map f).length : Int)) (h0 : i ≤ l.length) : i = l.length := by rw [qA] at h; omega
theorem fE {s : S} {H : Heap} {fn : Func} {P : Program} {z w : C} (h : Res P s fn.results.toList [z] := by exact .tmp rfl .nil) (e : X.c z = .c w) (hh : s.H = H := by exact rfl) : Fin P fn (fun y H' => y = .c w ∧ H' = H) .ret s := f1 h ⟨e, hh⟩
abbrev Pu := Pure Tryz.prog
abbrev iC (n : Int) : C := .a (.t (.v (.int .i64 n)))
abbrev u64C (n : Nat) : C := .a (.t (.v (.int .u64 (n : Int))))
abbrev bC (b : Bool) : C := .a (.t (.v (.bool b)))
abbrev sC (s : ByteArray) : C := .a (.t (.v (.string s)))
abbrev i64T (n : Int) : List E.T := [.v (.int .i64 n)]
abbrev iL (z : Nz) (l : List Int) : C := .a (.t (.sl z 1 (l.map i64T)))
theorem w64 {n : Int} (h : -9223372036854775808 ≤ n) (h' : n ≤ 9223372036854775807) : IntKind.i64.wrap n = n := IntWalk.i64_in n ⟨h, h'⟩
abbrev R64 (n : Int) : Prop := -9223372036854775808 ≤ n ∧ n ≤ 9223372036854775807
mutual
def tmT : Tm → List E.T
  | .mk c ps => [.v (.int .i64 c), .sl .un 5 (ptsT ps)]
def ptsT : List Pt → List (List E.T)
  | [] => []
  | p :: r => ptT' p :: ptsT r
def ptT' : Pt → List E.T
  | .mk a k v b of => [.v (.int .i64 a), .v (.int .i64 k), .v (.int .i64 v), .v (.int .i64 b), .sl .un 2 (tmsT of)]
def tmsT : List Tm → List (List E.T)
  | [] => []
  | t :: r => tmT t :: tmsT r
end
theorem tmsT_map : ∀ l, tmsT l = l.map tmT
  | [] => rfl
  | t :: r => by rw [tmsT, tmsT_map r, qL]
abbrev ptT (p : Pt) : List E.T := [.v (.int .i64 p.coef), .v (.int .i64 p.kind), .v (.int .i64 p.var), .v (.int .i64 p.dv), .sl .un 2 (p.of.map tmT)]
theorem ptT_eq (p : Pt) : ptT' p = ptT p := by cases p; rw [ptT', tmsT_map]
theorem ptsT_map : ∀ l, ptsT l = l.map ptT
  | [] => rfl
  | p :: r => by rw [ptsT, ptsT_map r, ptT_eq, qL]
abbrev tmL (t : Tm) : List E.T := [.v (.int .i64 t.c), .sl .un 5 (t.ps.map ptT)]
theorem tmT_eq (t : Tm) : tmT t = tmL t := by cases t; rw [tmT, ptsT_map]
abbrev ptC (p : Pt) : C := .g [.t (.v (.int .i64 p.coef)), .t (.v (.int .i64 p.kind)), .t (.v (.int .i64 p.var)), .t (.v (.int .i64 p.dv)), .t (.sl .un 2 (p.of.map tmT))]
abbrev tmC (t : Tm) : C := .g [.t (.v (.int .i64 t.c)), .t (.sl .un 5 (t.ps.map ptT))]
theorem idx_map {α : Type} {f : α → List E.T} {l : List α} {i : Nat} (h : i < l.length) : (l.map f)[i]? = some (f l[i]) := by rw [qR, qF h]; rfl
theorem idx_tm {l : List Tm} {i : Nat} (h : i < l.length) : (l.map tmT)[i]? = some (tmL l[i]) := by rw [qR, qF h, Option.map_some, tmT_eq]
theorem tdiv_np {a b : Int} (ha : a ≤ 0) (hb : 0 ≤ b) : a.tdiv b ≤ 0 := by
  have := Int.tdiv_nonneg (a := -a) (b := b) (by omega) hb
  rw [Int.neg_tdiv] at this; omega
theorem tdiv_mul {a b : Int} (hb : 1 ≤ b) : (a.tdiv b * b).natAbs ≤ a.natAbs ∧ (a.tmod b < 0 ↔ a.tdiv b * b > a) ∧ (a < 0 → a.tdiv b * b ≤ 0) := by
  have h0 : a < 0 → a.tdiv b * b ≤ 0 := fun h => by
    have := Int.mul_le_mul_of_nonneg_right (tdiv_np (a := a) (b := b) (by omega) (by omega)) (show 0 ≤ b by omega)
    omega
  have h1 := Int.tdiv_mul_add_tmod a b
  have h2 : (a.tdiv b * b).natAbs = a.natAbs / b.natAbs * b.natAbs := by rw [Int.natAbs_mul, Int.natAbs_tdiv]; rfl
  have h3 := Nat.div_mul_le_self a.natAbs b.natAbs
  refine ⟨by omega, by omega, h0⟩
theorem tdiv_R {a b : Int} (hb : 1 ≤ b) (ha : R64 a) : -9223372036854775808 ≤ a.tdiv b ∧ a.tdiv b ≤ 9223372036854775807 ∧ (a.tdiv b * b > a → -9223372036854775808 < a.tdiv b) := by
  have h1 : (a.tdiv b).natAbs = a.natAbs / b.natAbs := Int.natAbs_tdiv _ _
  have h2 := Nat.div_le_self a.natAbs b.natAbs
  have h3 := (tdiv_mul (a := a) hb).1
  refine ⟨by omega, ?_, fun h => ?_⟩
  · by_cases h : a < 0
    · have := tdiv_np (a := a) (b := b) (by omega) (by omega); omega
    · omega
  · by_cases h4 : a < 0
    · by_cases h5 : b < 2
      · have : b = 1 := by omega
        subst this; simp at h
      · have : a.natAbs / b.natAbs < a.natAbs := Nat.div_lt_self (by omega) (by omega)
        omega
    · have := Int.tdiv_nonneg (a := a) (b := b) (by omega) (show 0 ≤ b by omega); omega
theorem tdiv_floor {a b : Int} (hb : 1 ≤ b) : (a.tdiv b * b > a → a.tdiv b - 1 = a / b) ∧ (¬ a.tdiv b * b > a → a.tdiv b = a / b) := by
  have h1 := Int.tdiv_mul_add_tmod a b
  have h2 := Int.ediv_mul_add_emod a b
  have h3 := Int.emod_nonneg a (show b ≠ 0 by omega)
  have h4 := Int.emod_lt_of_pos a (show 0 < b by omega)
  have h5 := Int.tmod_lt_of_pos a (show 0 < b by omega)
  have h6 : -b < a.tmod b := by
    have := Int.lt_tmod_of_pos a (show 0 < b by omega)
    omega
  refine ⟨fun h => ?_, fun h => ?_⟩
  · refine (Int.ediv_eq_iff_of_pos (show 0 < b by omega)).2 ⟨?_, ?_⟩ |>.symm <;> grind
  · refine (Int.ediv_eq_iff_of_pos (show 0 < b by omega)).2 ⟨?_, ?_⟩ |>.symm <;> grind
theorem rabs_any (n : Int) (hn : -9223372036854775808 < n ∧ n ≤ 9223372036854775807) : Pu 202 [iC n] (.c (iC (n.natAbs : Int))) := by
 intro H
 refine Spec.enter Tryz.func202 rfl ?_
 refine AW.wk (wK 8 (l := [(0, .c (iC n))]) (ll := []) (H := (H))) ?_
 refine D1 ?_
 refine eL153 ?_
 refine cD ?_ ?_ <;> intro h4
 ·
  refine D1 ?_
  refine sQ (q_neg _ rfl rfl ((by rw [w64 (by omega) (by omega)]; omega : IntKind.i64.wrap _ = ((n.natAbs : Nat) : Int)))) ?_
  refine sB ?_
  exact cL47
 refine eL201 ?_
 refine AW.ret ?_
 have e : n = (n.natAbs : Int) := by omega
 exact f1 (q := ⟨by rw [← e], rfl⟩)
theorem within_any (n a b : Int) : Pu 187 [iC n, iC a, iC b] (.c (bC (decide (a ≤ n ∧ n ≤ b)))) := by
 intro H
 refine Spec.enter Tryz.func187 rfl ?_
 refine AW.wk (wK 15 (l := [(0, .c (iC n)), (1, .c (iC a)), (2, .c (iC b))]) (ll := []) (H := (H))) ?_
 refine D1 ?_
 refine D3 ?_
 refine Z22 ?_ ?_ <;> intro g10
 ·
  refine G5 ?_
  exact aR (f1 (q := ⟨by simp_all <;> omega, rfl⟩))
 iterate 3 refine oF ?_
 refine G2 ?_
 exact aR (f1 (q := ⟨by simp_all <;> omega, rfl⟩))
theorem rfloor_any (a b : Int) (hn : R64 a) (hb : 1 ≤ b) : Pu 204 [iC a, iC b] (.c (iC (a / b))) := by
 intro H
 refine Spec.enter Tryz.func204 rfl ?_
 refine AW.wk (wK 17 (l := [(0, .c (iC a)), (1, .c (iC b))]) (ll := []) (H := (H))) ?_
 refine D1 ?_
 refine eL235 ?_
 have hb1 : (0:Int) < b := by omega
 have hq := tdiv_floor (a := a) hb
 have hm := tdiv_mul (a := a) hb
 have hd := tdiv_R (a := a) hb hn
 refine B2 ?_
 refine sQ (q_quo _ rfl rfl rfl (by omega) (w64 (by omega) (by omega))) ?_
 refine sB ?_
 refine eL205 ?_
 refine sQ (q_mul _ rfl rfl rfl (w64 (by omega) (by omega))) ?_
 refine eL165 ?_
 refine cD ?_ ?_ <;> intro h13
 ·
  refine B1 ?_
  refine sQ (q_sub _ rfl rfl rfl (w64 (by omega) (by omega))) ?_
  refine eL277 ?_
  exact aR (f1 (q := ⟨by rw [hq.1 h13], rfl⟩))
 refine eL201 ?_
 exact aR (f1 (q := ⟨by rw [hq.2 h13], rfl⟩))
theorem ints_any (a b : Int) : Pu 233 [iC a, iC b] (.c (iC (ints a b))) := by
 intro H
 refine Spec.enter Tryz.func233 rfl ?_
 refine AW.wk (wK 11 (l := [(0, .c (iC a)), (1, .c (iC b))]) (ll := []) (H := (H))) ?_
 refine D1 ?_
 refine eL189 ?_
 refine cD ?_ ?_ <;> intro h7
 ·
  refine D1 ?_
  exact cL140
 refine eL187 ?_
 refine cD ?_ ?_ <;> intro h10
 ·
  refine D1 ?_
  exact cL140
 refine eL213 ?_
 exact cL140
theorem cmpO_at : ∀ {a b : List Tm} (ha : 0 < a.length) (hb : 0 < b.length), cmpO a b = cmpT a[0] b[0]
  | o :: r, o2 :: r2, _, _ => by simp [cmpO]
theorem cmpO_none {a b : List Tm} (h : (a.length : Int) = 0 ∨ (b.length : Int) = 0) : cmpO a b = ints a.length b.length := by
  match a, b, h with
  | [], [], _ => simp [cmpO, ints]
  | [], _ :: _, _ => simp [cmpO, ints]
  | _ :: _, [], _ => simp [cmpO, ints]; omega
  | _ :: _, _ :: _, h => simp at h; omega
theorem rparts_of (p q : Pt) (ih : ∀ o ∈ p.of, ∀ b ∈ q.of, Pu 234 [tmC o, tmC b] (.c (iC (cmpT o b)))) : Pu 217 [ptC p, ptC q] (.c (iC (cmpP p q))) := by
 intro H
 refine Spec.enter Tryz.func217 rfl ?_
 refine AW.wk (wK 61 (l := [(0, .c (ptC p)), (1, .c (ptC q))]) (ll := []) (H := (H))) ?_
 refine D3 ?_
 refine eL150 ?_
 refine cD ?_ ?_ <;> intro h9
 ·
  refine eL300 ?_
  exact aR (f1 (q := ⟨by rw [cmpP_eq, if_pos h9], rfl⟩))
 refine AW.skip (AW.seq (D5 ?_))
 refine Z3 ?_
 refine cD ?_ ?_ <;> intro h19
 ·
  refine eL300 ?_
  exact aR (f1 (q := ⟨by rw [cmpP_eq, if_neg h9, if_pos h19], rfl⟩))
 refine AW.skip (AW.seq (D5 ?_))
 refine Z3 ?_
 refine cD ?_ ?_ <;> intro h29
 ·
  refine eL300 ?_
  exact aR (f1 (q := ⟨by rw [cmpP_eq, if_neg h9, if_neg h19, if_pos h29], rfl⟩))
 refine AW.skip (AW.seq (D4 ?_))
 refine Z22 ?_ ?_ <;> intro g39
 ·
  iterate 4 refine oF ?_
  refine eL156 ?_
  exact cL103
 refine eL265 ?_
 refine cD ?_ ?_ <;> intro h44
 ·
  exact cL103
 refine eL240 ?_
 have hp0 : 0 < p.of.length := by rw [qA] at g39; omega
 have hq0 : 0 < q.of.length := by rw [qA] at h44; omega
 refine AW.draw mo ?_
 refine N2 ?_
 refine Z26 sl217 (idx_tm hp0) ?_
 refine N3 ?_
 refine Z26 sl217 (idx_tm hq0) ?_
 refine N1 ?_
 refine Z40 fn234 (ih _ (qC hp0) _ (qC hq0)) ?_
 refine eL290 ?_
 exact aR (f1 (q := ⟨by rw [cmpP_eq, if_neg h9, if_neg h19, if_neg h29, cmpO_at hp0 hq0], rfl⟩))
theorem rcmp_stop {a b : Tm} {i : Nat} (hi : i < a.ps.length) (hj : i < b.ps.length) (hI : cmpL (a.ps.drop i) (b.ps.drop i) (ints a.c b.c) = cmpT a b) (h : cmpP a.ps[i] b.ps[i] ≠ 0) : cmpT a b = cmpP a.ps[i] b.ps[i] := by
  rw [← hI, cmpL_step hi hj, if_pos h]
theorem rcmp_coef {a b : Tm} {i : Nat} (hi : i < a.ps.length) (hj : i < b.ps.length) (hI : cmpL (a.ps.drop i) (b.ps.drop i) (ints a.c b.c) = cmpT a b) (h : ¬ cmpP a.ps[i] b.ps[i] ≠ 0) (h2 : a.ps[i].coef ≠ b.ps[i].coef) : cmpT a b = ints a.ps[i].coef b.ps[i].coef := by
  rw [← hI, cmpL_step hi hj, if_neg h, if_pos h2]
theorem rcmp_go {a b : Tm} {i : Nat} (hi : i < a.ps.length) (hj : i < b.ps.length) (hI : cmpL (a.ps.drop i) (b.ps.drop i) (ints a.c b.c) = cmpT a b) (h : ¬ cmpP a.ps[i] b.ps[i] ≠ 0) (h2 : ¬ a.ps[i].coef ≠ b.ps[i].coef) : cmpL (a.ps.drop (i + 1)) (b.ps.drop (i + 1)) (ints a.c b.c) = cmpT a b := by
  rw [← hI, cmpL_step hi hj, if_neg h, if_neg h2]
theorem rcmp_end {a b : Tm} {i : Nat} (hi : i ≤ a.ps.length) (hj : i ≤ b.ps.length) (he : i = a.ps.length ∨ i = b.ps.length) (hI : cmpL (a.ps.drop i) (b.ps.drop i) (ints a.c b.c) = cmpT a b) : cmpT a b = if (a.ps.length : Int) ≠ b.ps.length then ints a.ps.length b.ps.length else ints a.c b.c := by
  rw [← hI, cmpL_end hi hj he]
abbrev zTm (x : Tm) : List A := [.t (.v (.int .i64 x.c)), .t (.sl .un 5 (x.ps.map ptT))]
theorem rcmp_of (a b : Tm) (hN : a.cnt ≤ 100000) (ih : ∀ p ∈ a.ps, ∀ o ∈ p.of, ∀ q ∈ b.ps, ∀ o2 ∈ q.of, Pu 234 [tmC o, tmC o2] (.c (iC (cmpT o o2)))) : Pu 234 [tmC a, tmC b] (.c (iC (cmpT a b))) := by
 intro H
 refine Spec.enter Tryz.func234 rfl ?_
 refine AW.wk (wK 80 (l := [(0, .c (tmC a)), (1, .c (tmC b))]) (ll := []) (H := (H))) ?_
 refine D3 ?_
 refine eL192 ?_
 have hla := len_ps a
 refine B1 ?_
 refine AW.block (AW.loop (fun (i : Nat) s => ((i ≤ a.ps.length ∧ i ≤ b.ps.length) ∧ cmpL (a.ps.drop i) (b.ps.drop i) (ints a.c b.c) = cmpT a b) ∧ s = ⟨80, sp [(2, .lp 2 0), (3, .lp 3 0), (4, .c (iC 0)), (5, nX i)], lv [(2, .box (zTm a)), (3, .box (zTm b))], H⟩) (fun i => a.ps.length - i) 0 ⟨_, by exact wK 80, ⟨⟨qZ _, qZ _⟩, (cmpT_eq a b).symm⟩, rfl⟩ (fun i s hs => ?_))
 obtain ⟨⟨hi0, hI⟩, rfl⟩ := hs
 refine AW.seq (D5 ?_)
 refine Z22 ?_ ?_ <;> intro g12
 rotate_left
 ·
  iterate 5 refine oF ?_
  refine eL172 ?_
  refine eL147 ?_
  refine AW.seq (D7 ?_)
  refine Z3 ?_
  refine cD ?_ ?_ <;> intro h67
  ·
   exact cL94
  exact cL96
 refine G4 ?_
 refine eL214 ?_
 refine Z8 ?_
 refine Z3 ?_
 refine cD ?_ ?_ <;> intro h18
 rotate_left
 ·
  refine eL147 ?_
  refine AW.seq (D7 ?_)
  refine Z3 ?_
  refine cD ?_ ?_ <;> intro h67
  ·
   exact cL94
  exact cL96
 have hij : i < a.ps.length ∧ i < b.ps.length := by simp only [qA] at g12 h18; omega
 have hi := hij.1
 have hj := hij.2
 refine eL291 ?_
 refine N3 ?_
 refine Z26 sl197 (idx_map (f := ptT) hi) ?_
 refine N4 ?_
 refine Z26 sl197 (idx_map (f := ptT) hj) ?_
 refine N1 ?_
 refine Z40 fn217 (rparts_of a.ps[i] b.ps[i] (fun o ho b2 hb2 => ih _ (qC hi) o ho _ (qC hj) b2 hb2)) ?_
 refine eL290 ?_
 refine D2 ?_
 refine Z3 ?_
 refine cD ?_ ?_ <;> intro h33
 ·
  refine D2 ?_
  exact aR (f1 (q := ⟨by rw [rcmp_stop hi hj hI h33], rfl⟩))
 refine eL252 ?_
 refine eL279 ?_
 refine eL266 ?_
 refine cD ?_ ?_ <;> intro h47
 ·
  refine eL251 ?_
  refine eL279 ?_
  refine Z40 fn233 (ints_any _ _) ?_
  refine eL290 ?_
  exact aR (f1 (q := ⟨by rw [rcmp_coef hi hj hI h33 h47], rfl⟩))
 refine eL173 ?_
 exact ⟨i + 1, _, by exact wK 80, by omega, ⟨⟨hi, hj⟩, rcmp_go hi hj hI h33 h47⟩, rfl⟩
theorem rcmp_any (a : Tm) : a.cnt ≤ 100000 → ∀ b, Pu 234 [tmC a, tmC b] (.c (iC (cmpT a b))) := by
  induction a using Tm.ind with
  | h a ih =>
    intro hN b
    exact rcmp_of a b hN fun p hp o ho q hq o2 ho2 => ih p hp o ho (by have := cnt_of hp ho; omega) o2
theorem rparts_any (p q : Pt) (hN : p.cnt ≤ 100000) : Pu 217 [ptC p, ptC q] (.c (iC (cmpP p q))) :=
  rparts_of p q fun o ho b hb => rcmp_any o (by rw [Pt.cnt_eq] at hN; have := cntTs_mem ho; omega) b
theorem small_no {t : Tm} {i : Nat} (hi : i < t.ps.length) (h : 2 ^ 20 < t.ps[i].coef.natAbs) : smallB t = false := by
  cases hs : smallB t with
  | false => rfl
  | true => have := (smallB_iff.1 hs).2.1 _ (qC hi); omega
theorem take_step {P : Pt → Prop} {l : List Pt} {i : Nat} (hi : i < l.length) (h : ∀ p ∈ l.take i, P p) (hp : P l[i]) : ∀ p ∈ l.take (i + 1), P p := by
  rw [qJ hi]
  intro x hx
  rcases jC.1 hx with h1 | h1
  · exact h x h1
  · simp at h1; rw [h1]; exact hp
end Go.Proofs.YtgnnjebfoffphaaGreatDoor.W
