import Derived.Test.YtgnnjebfoffphaaGreatDoorM13
import Derived.Shelf.Strings.Builder1
import Derived.Shelf.Strings.Builder2
import Derived.Shelf.Small.Wraps
import Derived.Shelf.Strings.BuilderF
import Derived.Shelf.Strings.BuilderK
import Derived.Shelf.Utf8.RuneCount
import Derived.Shelf.Strings.Builder2Cap
import Derived.Shelf.Strconv.Itoa0
import Derived.Shelf.Strconv.Itoa1
import Derived.Shelf.LaysM
import Derived.Shelf.Strconv.Itoa2
import Derived.Shelf.Strconv.Itoa3
import Derived.Shelf.Strconv.Itoa4
import Derived.Shelf.Strings.Search1
import Derived.Shelf.Strings.Search2
import Derived.Shelf.Strings.Search3
import Derived.Shelf.Strings.Count
import Derived.Shelf.Strings.Shaped
import Derived.Shelf.Strings.Split
import Derived.Shelf.Strings.Replace
import Derived.Shelf.Strings.SplitShaped
import Derived.Shelf.Unicode.Decode
import Derived.Shelf.Strings.RuneCount
import Derived.Shelf.Bits.Mul64
import Derived.Shelf.Unicode.DecodeSlow
import Derived.Shelf.Unicode.DecodeAny
import Derived.Shelf.Slices.SearchI
import Derived.Test.YtgnnjebfoffphaaGreatDoorProg
set_option maxRecDepth 20000
set_option linter.unusedSectionVars false
set_option linter.unusedSimpArgs false
set_option linter.unusedVariables false
namespace Go.Proofs
open Go.Shelf
def Tryz.laysM173_ren : Go.Shelf.Ren := ⟨fun | 173 => 192 | 246 => 206 | 283 => 219 | 284 => 220 | 285 => 221 | 286 => 222 | 129 => 240 | 317 => 239 | 318 => 241 | 319 => 242 | 320 => 243 | 337 => 251 | 338 => 252 | n => n, fun | 2 => 2 | 3 => 3 | 9 => 9 | 4 => 4 | 171 => 254 | 0 => 0 | 53 => 232 | 37 => 204 | 5 => 5 | 173 => 257 | 212 => 269 | 51 => 270 | 20 => 20 | 213 => 271 | 46 => 263 | 232 => 284 | 233 => 285 | n => n, fun | 17 => 1 | 18 => 4 | 19 => 5 | n => n⟩
theorem Tryz.laysM173 : Go.Proofs.LaysM.n173 Tryz.prog Tryz.laysM173_ren := {
  mixed := by kernel_rfl
  f129 := Tryz.func240.trans (congrArg some (by kernel_rfl))
  f173 := Tryz.func192.trans (congrArg some (by kernel_rfl))
  f246 := Tryz.func206.trans (congrArg some (by kernel_rfl))
  f283 := Tryz.func219.trans (congrArg some (by kernel_rfl))
  f284 := Tryz.func220.trans (congrArg some (by kernel_rfl))
  f285 := Tryz.func221.trans (congrArg some (by kernel_rfl))
  f286 := Tryz.func222.trans (congrArg some (by kernel_rfl))
  f317 := Tryz.func239.trans (congrArg some (by kernel_rfl))
  f318 := Tryz.func241.trans (congrArg some (by kernel_rfl))
  f319 := Tryz.func242.trans (congrArg some (by kernel_rfl))
  f320 := Tryz.func243.trans (congrArg some (by kernel_rfl))
  f337 := Tryz.func251.trans (congrArg some (by kernel_rfl))
  f338 := Tryz.func252.trans (congrArg some (by kernel_rfl))
  t0 := Tryz.underlying0
  a0 := Tryz.isAgg0
  z0 := Tryz.sizeOf0
  v0 := Tryz.zeroValue0
  t2 := Tryz.underlying2
  a2 := Tryz.isAgg2
  z2 := Tryz.sizeOf2
  v2 := Tryz.zeroValue2
  t3 := Tryz.underlying3
  a3 := Tryz.isAgg3
  z3 := Tryz.sizeOf3
  v3 := Tryz.zeroValue3
  t4 := Tryz.underlying4
  a4 := Tryz.isAgg4
  z4 := Tryz.sizeOf4
  v4 := Tryz.zeroValue4
  t5 := Tryz.underlying5
  a5 := Tryz.isAgg5
  z5 := Tryz.sizeOf5
  v5 := Tryz.zeroValue5
  t9 := Tryz.underlying9
  a9 := Tryz.isAgg9
  z9 := Tryz.sizeOf9
  v9 := Tryz.zeroValue9
  t20 := Tryz.underlying20
  a20 := Tryz.isAgg20
  z20 := Tryz.sizeOf20
  v20 := Tryz.zeroValue20
  t37 := Tryz.underlying204
  a37 := Tryz.isAgg204
  z37 := Tryz.sizeOf204
  v37 := Tryz.zeroValue204
  t46 := Tryz.underlying263
  a46 := Tryz.isAgg263
  z46 := Tryz.sizeOf263
  v46 := Tryz.zeroValue263
  t51 := Tryz.underlying270
  a51 := Tryz.isAgg270
  z51 := Tryz.sizeOf270
  v51 := Tryz.zeroValue270
  t53 := Tryz.underlying232
  a53 := Tryz.isAgg232
  z53 := Tryz.sizeOf232
  v53 := Tryz.zeroValue232
  t171 := Tryz.underlying254
  a171 := Tryz.isAgg254
  z171 := Tryz.sizeOf254
  v171 := Tryz.zeroValue254
  t173 := Tryz.underlying257
  a173 := Tryz.isAgg257
  z173 := Tryz.sizeOf257
  v173 := Tryz.zeroValue257
  t212 := Tryz.underlying269
  a212 := Tryz.isAgg269
  z212 := Tryz.sizeOf269
  v212 := Tryz.zeroValue269
  t213 := Tryz.underlying271
  a213 := Tryz.isAgg271
  z213 := Tryz.sizeOf271
  t232 := Tryz.underlying284
  a232 := Tryz.isAgg284
  z232 := Tryz.sizeOf284
  v232 := Tryz.zeroValue284
  t233 := Tryz.underlying285
  a233 := Tryz.isAgg285
  z233 := Tryz.sizeOf285
  v233 := Tryz.zeroValue285
  g17 := by kernel_rfl
  g18 := by kernel_rfl
  g19 := by kernel_rfl
  i0 := by kernel_rfl
  i2 := by kernel_rfl
  i3 := by kernel_rfl
  i4 := by kernel_rfl
  i5 := by kernel_rfl
  i9 := by kernel_rfl
  i20 := by kernel_rfl
  i37 := by kernel_rfl
  i46 := by kernel_rfl
  i51 := by kernel_rfl
  i53 := by kernel_rfl
  i171 := by kernel_rfl
  i173 := by kernel_rfl
  i212 := by kernel_rfl
  i232 := by kernel_rfl
  i233 := by kernel_rfl
  m17 := by kernel_rfl
  m18 := by kernel_rfl
  m19 := by kernel_rfl }
open Go.RowKit Go.Sort Go.Lib in
theorem Tryz.strconv_FormatInt_10 (n : Int) (h0 : -9223372036854775808 ≤ n) (h1 : n ≤ 9223372036854775807) (w : World) (htab : Lib.TabIs Tryz.prog w "internal/strconv.uint64pow10" .u64 Lib.pow10Tab) :
    Calls Tryz.prog 192 #[.int .i64 n, .int .i64 10] w fun e w' => e = .returned (.string ⟨(Lib.itoa n).toArray⟩) ∧ ∃ k os, w' = grow (w.drewN k) os := Any.strconv_FormatInt_10 Tryz.laysM173 n h0 h1 w htab
def Tryz.lays144_ren : Go.Shelf.Ren := ⟨fun | 144 => 189 | 143 => 205 | 219 => 218 | 217 => 235 | 225 => 236 | 224 => 237 | 267 => 238 | 266 => 249 | 314 => 250 | n => n, fun | 9 => 9 | 4 => 4 | 3 => 3 | 5 => 5 | 46 => 263 | 146 => 280 | 51 => 270 | n => n, fun | 1 => 0 | n => n⟩
theorem Tryz.lays144 : Go.Proofs.Lays.n144 Tryz.prog Tryz.lays144_ren := {
  mixed := by kernel_rfl
  f143 := Tryz.func205.trans (congrArg some (by kernel_rfl))
  f144 := Tryz.func189.trans (congrArg some (by kernel_rfl))
  f217 := Tryz.func235.trans (congrArg some (by kernel_rfl))
  f219 := Tryz.func218.trans (congrArg some (by kernel_rfl))
  f224 := Tryz.func237.trans (congrArg some (by kernel_rfl))
  f225 := Tryz.func236.trans (congrArg some (by kernel_rfl))
  f266 := Tryz.func249.trans (congrArg some (by kernel_rfl))
  f267 := Tryz.func238.trans (congrArg some (by kernel_rfl))
  f314 := Tryz.func250.trans (congrArg some (by kernel_rfl))
  t3 := Tryz.underlying3
  a3 := Tryz.isAgg3
  z3 := Tryz.sizeOf3
  v3 := Tryz.zeroValue3
  t4 := Tryz.underlying4
  a4 := Tryz.isAgg4
  z4 := Tryz.sizeOf4
  v4 := Tryz.zeroValue4
  t5 := Tryz.underlying5
  a5 := Tryz.isAgg5
  z5 := Tryz.sizeOf5
  v5 := Tryz.zeroValue5
  t9 := Tryz.underlying9
  a9 := Tryz.isAgg9
  z9 := Tryz.sizeOf9
  v9 := Tryz.zeroValue9
  t46 := Tryz.underlying263
  a46 := Tryz.isAgg263
  z46 := Tryz.sizeOf263
  v46 := Tryz.zeroValue263
  t51 := Tryz.underlying270
  a51 := Tryz.isAgg270
  z51 := Tryz.sizeOf270
  v51 := Tryz.zeroValue270
  t146 := Tryz.underlying280
  a146 := Tryz.isAgg280
  z146 := Tryz.sizeOf280
  v146 := Tryz.zeroValue280
  g1 := by kernel_rfl }
open Go.RowKit Go.Lib in
theorem Tryz.strings_Contains (s sub : ByteArray) (m : Int) (w : World) (hs : s.size < 4294967281) (hm : w.cell? ⟨0, 0, none⟩ = some (.int .i64 m)) :
    Calls Tryz.prog 189 #[.string s, .string sub] w fun e w' => e = .returned (.bool (Lib.contains s.data.toList sub.data.toList)) ∧ w' = w := Any.strings_Contains Tryz.lays144 s sub m w hs hm
def Tryz.lays264_ren : Go.Shelf.Ren := ⟨fun | 264 => 213 | n => n, fun | 53 => 232 | 46 => 263 | n => n, fun | n => n⟩
theorem Tryz.lays264 : Go.Proofs.Lays.n264 Tryz.prog Tryz.lays264_ren := {
  mixed := by kernel_rfl
  f264 := Tryz.func213.trans (congrArg some (by kernel_rfl))
  t46 := Tryz.underlying263
  a46 := Tryz.isAgg263
  z46 := Tryz.sizeOf263
  v46 := Tryz.zeroValue263
  t53 := Tryz.underlying232
  a53 := Tryz.isAgg232
  z53 := Tryz.sizeOf232
  v53 := Tryz.zeroValue232 }
open Go.RowKit Go.Lib in
theorem Tryz.bits_Mul64 (x y : Nat) (hx : x < 18446744073709551616) (hy : y < 18446744073709551616) (w : World) :
    Calls Tryz.prog 213 #[.int .u64 x, .int .u64 y] w fun e w' => e = .returned (.tuple #[.int .u64 ((x * y / 18446744073709551616 : Nat) : Int), .int .u64 ((x * y % 18446744073709551616 : Nat) : Int)]) ∧ w' = w := Any.bits_Mul64 Tryz.lays264 x y hx hy w
end Go.Proofs
namespace Go.Proofs.YtgnnjebfoffphaaGreatDoor.M
mutual
inductive Tm where
  | mk (c : Int) (ps : List Pt)
inductive Pt where
  | mk (coef kind var dv : Int) (of : List Tm)
end
@[reducible] def Tm.c : Tm → Int | .mk c _ => c
@[reducible] def Tm.ps : Tm → List Pt | .mk _ ps => ps
@[reducible] def Pt.coef : Pt → Int | .mk a _ _ _ _ => a
@[reducible] def Pt.kind : Pt → Int | .mk _ a _ _ _ => a
@[reducible] def Pt.var : Pt → Int | .mk _ _ a _ _ => a
@[reducible] def Pt.dv : Pt → Int | .mk _ _ _ a _ => a
@[reducible] def Pt.of : Pt → List Tm | .mk _ _ _ _ a => a
mutual
def Tm.dep : Tm → Nat
  | .mk _ ps => depPs ps + 1
def depPs : List Pt → Nat
  | [] => 0
  | p :: r => max p.dep (depPs r)
def Pt.dep : Pt → Nat
  | .mk _ _ _ _ of => depTs of
def depTs : List Tm → Nat
  | [] => 0
  | t :: r => max t.dep (depTs r)
end
mutual
def Tm.cnt : Tm → Nat
  | .mk _ ps => 1 + (ps.length + mxPs ps)
def mxPs : List Pt → Nat
  | [] => 0
  | p :: r => max p.cnt (mxPs r)
def Pt.cnt : Pt → Nat
  | .mk _ _ _ _ of => cntTs of
def cntTs : List Tm → Nat
  | [] => 0
  | t :: r => t.cnt + cntTs r
end
def cntPs (l : List Pt) : Nat := l.length + mxPs l
theorem mx_mem {l : List Pt} {p : Pt} (h : p ∈ l) : p.cnt ≤ mxPs l := by
  induction l with
  | nil => cases h
  | cons q r ih =>
    rw [mxPs]
    rcases jD.1 h with rfl | h
    · omega
    · have := ih h; omega
theorem mem_dep {o : Tm} : ∀ {l : List Tm}, o ∈ l → o.dep ≤ depTs l
  | t :: r, h => by
    rcases jD.1 h with rfl | h
    · simp only [depTs]; omega
    · have := mem_dep h; simp only [depTs]; omega
theorem mem_depP {p : Pt} : ∀ {l : List Pt}, p ∈ l → p.dep ≤ depPs l
  | t :: r, h => by
    rcases jD.1 h with rfl | h
    · simp only [depPs]; omega
    · have := mem_depP h; simp only [depPs]; omega
theorem dep_of {t : Tm} {p : Pt} {o : Tm} (hp : p ∈ t.ps) (ho : o ∈ p.of) : o.dep < t.dep := by
  cases t with | mk c ps => cases p with | mk a k v b of =>
  have h1 := mem_depP hp
  have h2 := mem_dep ho
  simp only [Tm.dep, Pt.dep, Tm.ps, Pt.of] at *
  omega
theorem Tm.ind {motive : Tm → Prop} (h : ∀ t, (∀ p ∈ t.ps, ∀ o ∈ p.of, motive o) → motive t) (t : Tm) : motive t := by
  have key : ∀ n (t : Tm), t.dep < n → motive t := by
    intro n
    induction n with
    | zero => intro t ht; omega
    | succ n ih => intro t ht; exact h t fun p hp o ho => ih o (by have := dep_of hp ho; omega)
  exact key _ t (Nat.lt_succ_self _)
mutual
def bndT : Tm → Nat
  | .mk c ps => c.natAbs + bndPs ps
def bndPs : List Pt → Nat
  | [] => 0
  | p :: r => p.coef.natAbs * bndP p + bndPs r
def bndP : Pt → Nat
  | .mk _ k _ b of => if k = 1 then 16 else if k = 2 then bndO of / b.toNat + 1 else 2 ^ 31
def bndO : List Tm → Nat
  | [] => 0
  | t :: _ => bndT t
end
theorem Tm.cnt_eq (t : Tm) : t.cnt = 1 + cntPs t.ps := by cases t; rfl
theorem Pt.cnt_eq (p : Pt) : p.cnt = cntTs p.of := by cases p; rfl
theorem bndT_eq (t : Tm) : bndT t = t.c.natAbs + bndPs t.ps := by cases t; rfl
theorem bndP_eq (p : Pt) : bndP p = if p.kind = 1 then 16 else if p.kind = 2 then bndO p.of / p.dv.toNat + 1 else 2 ^ 31 := by cases p; rfl
theorem bndPs_app {a b : List Pt} : bndPs (a ++ b) = bndPs a + bndPs b := by
  induction a with
  | nil => simp [bndPs]
  | cons p r ih => simp only [List.cons_append, bndPs, ih]; omega
theorem bndPs_take {l : List Pt} {i : Nat} (h : i < l.length) : bndPs (l.take (i + 1)) = bndPs (l.take i) + l[i].coef.natAbs * bndP l[i] := by
  rw [qJ h, bndPs_app]; simp only [bndPs]; omega
def smallB (t : Tm) : Bool := decide (t.c.natAbs ≤ 2 ^ 40) && t.ps.all (fun p => decide (p.coef.natAbs ≤ 2 ^ 20)) && decide (bndT t ≤ 2 ^ 60)
def ints (a b : Int) : Int := if a < b then -1 else if b < a then 1 else 0
mutual
def cmpT : Tm → Tm → Int
  | .mk c ps, b => cmpL ps b.ps (ints c b.c)
def cmpL : List Pt → List Pt → Int → Int
  | [], [], e => e
  | [], _ :: _, _ => -1
  | _ :: _, [], _ => 1
  | p :: r, q :: s, e => if cmpP p q ≠ 0 then cmpP p q else if p.coef ≠ q.coef then ints p.coef q.coef else cmpL r s e
def cmpP : Pt → Pt → Int
  | .mk _ k v b of, q => if k ≠ q.kind then ints k q.kind else if v ≠ q.var then ints v q.var else if b ≠ q.dv then ints b q.dv else cmpO of q.of
def cmpO : List Tm → List Tm → Int
  | [], [] => 0
  | [], _ :: _ => -1
  | _ :: _, [] => 1
  | o :: _, o' :: _ => cmpT o o'
end
theorem cmpT_eq (a b : Tm) : cmpT a b = cmpL a.ps b.ps (ints a.c b.c) := by cases a; rw [cmpT]
theorem cmpP_eq (p q : Pt) : cmpP p q = if p.kind ≠ q.kind then ints p.kind q.kind else if p.var ≠ q.var then ints p.var q.var else if p.dv ≠ q.dv then ints p.dv q.dv else cmpO p.of q.of := by cases p; rw [cmpP]
def ascB : List Pt → Bool
  | p :: q :: r => decide (cmpP p q < 0) && ascB (q :: r)
  | _ => true
mutual
def vldT : Tm → Bool
  | .mk c ps => vldPs ps && ascB ps && smallB (.mk c ps)
def vldPs : List Pt → Bool
  | [] => true
  | p :: r => vldP p && vldPs r
def vldP : Pt → Bool
  | .mk a k v b of => decide (a ≠ 0) && if k = 0 ∨ k = 1 then decide (0 ≤ v) && decide (b = 0) && of.isEmpty else decide (k = 2) && decide (v = 0) && decide (2 ≤ b) && decide (b ≤ 1000) && vldO of
def vldO : List Tm → Bool
  | [t] => !t.ps.isEmpty && vldT t
  | _ => false
end
theorem vldT_eq (t : Tm) : vldT t = (vldPs t.ps && ascB t.ps && smallB t) := by cases t; rfl
theorem vldP_eq (p : Pt) : vldP p = (decide (p.coef ≠ 0) && if p.kind = 0 ∨ p.kind = 1 then decide (0 ≤ p.var) && decide (p.dv = 0) && p.of.isEmpty else decide (p.kind = 2) && decide (p.var = 0) && decide (2 ≤ p.dv) && decide (p.dv ≤ 1000) && vldO p.of) := by cases p; rfl
theorem vldPs_iff {l : List Pt} : vldPs l = true ↔ ∀ p ∈ l, vldP p = true := by
  induction l with
  | nil => simp [vldPs]
  | cons p r ih => simp [vldPs, ih]
mutual
def finT : Tm → Prop
  | .mk _ ps => finPs ps
def finPs : List Pt → Prop
  | [] => True
  | p :: r => finP p ∧ finPs r
def finP : Pt → Prop
  | .mk _ k _ _ of => (of = [] ↔ k ≠ 2) ∧ finTs of
def finTs : List Tm → Prop
  | [] => True
  | t :: r => finT t ∧ finTs r
end
theorem finPs_iff {l : List Pt} : finPs l ↔ ∀ p ∈ l, finP p := by
  induction l with
  | nil => simp [finPs]
  | cons p r ih => simp [finPs, ih]
theorem finTs_iff {l : List Tm} : finTs l ↔ ∀ p ∈ l, finT p := by
  induction l with
  | nil => simp [finTs]
  | cons p r ih => simp [finTs, ih]
theorem finT_eq (t : Tm) : finT t ↔ ∀ p ∈ t.ps, finP p := by cases t; simp only [finT, finPs_iff]
theorem finP_eq (p : Pt) : finP p ↔ (p.of = [] ↔ p.kind ≠ 2) ∧ ∀ o ∈ p.of, finT o := by cases p; simp only [finP, finTs_iff]
theorem cntPs_mem {l : List Pt} {p : Pt} (h : p ∈ l) : 1 + p.cnt ≤ cntPs l := by
  have h1 := mx_mem h
  have h2 := List.length_pos_of_mem h
  unfold cntPs; omega
theorem cntTs_mem {l : List Tm} {p : Tm} (h : p ∈ l) : p.cnt ≤ cntTs l := by
  induction l with
  | nil => cases h
  | cons q r ih =>
    simp only [cntTs]
    rcases jD.1 h with rfl | h
    · omega
    · have := ih h; omega
theorem Tm.cnt_pos (t : Tm) : 1 ≤ t.cnt := by rw [Tm.cnt_eq]; omega
theorem cntPs_len (l : List Pt) : l.length ≤ cntPs l := by unfold cntPs; omega
theorem cnt_of {t : Tm} {p : Pt} {o : Tm} (hp : p ∈ t.ps) (ho : o ∈ p.of) : o.cnt < t.cnt := by
  have h1 := cntPs_mem hp
  have h2 := cntTs_mem ho
  rw [Pt.cnt_eq] at h1
  rw [Tm.cnt_eq t]; omega
theorem len_ps (t : Tm) : t.ps.length < t.cnt := by rw [Tm.cnt_eq]; have := cntPs_len t.ps; omega
theorem vldP_fin {p : Pt} (h : vldP p = true) (hf : ∀ o ∈ p.of, vldT o = true → finT o) : finP p := by
  rw [vldP_eq] at h
  rw [finP_eq]
  split at h
  · rename_i hk
    simp only [jG, List.isEmpty_iff, decide_eq_true_eq] at h
    exact ⟨⟨fun _ => by omega, fun _ => h.2.2⟩, by rw [h.2.2]; simp⟩
  · simp only [jG, decide_eq_true_eq] at h
    obtain ⟨_, ⟨⟨h1, _⟩, h2⟩⟩ := h
    cases ho : p.of with
    | nil => rw [ho] at h2; simp [vldO] at h2
    | cons o r =>
      cases r with
      | cons o2 r2 => rw [ho] at h2; simp [vldO] at h2
      | nil =>
        rw [ho] at h2 hf
        simp only [vldO, jG] at h2
        refine ⟨by simp; omega, fun x hx => hf x hx ?_⟩
        simp at hx; subst hx; exact h2.2
theorem vldT_fin (t : Tm) : vldT t = true → finT t := by
  induction t using Tm.ind with
  | h t ih =>
    intro h
    rw [vldT_eq] at h
    simp only [jG] at h
    rw [finT_eq]
    intro p hp
    exact vldP_fin (vldPs_iff.1 h.1.1 p hp) fun o ho hv => ih p hp o ho hv
theorem ints_zero {a b : Int} : ints a b = 0 ↔ a = b := by unfold ints; split <;> (try split) <;> omega
def orI : List Int → Int
  | [] => 0
  | a :: r => if a ≠ 0 then a else orI r
theorem orI_at {l : List Int} {i : Nat} (h : i < l.length) (h0 : ∀ x ∈ l.take i, x = 0) (hi : l[i] ≠ 0) : orI l = l[i] := by
  induction l generalizing i with
  | nil => simp at h
  | cons a r ih =>
    cases i with
    | zero => simp only [List.getElem_cons_zero] at hi ⊢; simp only [orI, if_pos hi]
    | succ i =>
      have : a = 0 := h0 a (by simp)
      simp only [orI, this, ne_eq, not_true_eq_false, if_false, List.getElem_cons_succ]
      exact ih (by simpa using h) (fun x hx => h0 x (by simp [hx])) (by simpa using hi)
theorem orI_none {l : List Int} (h0 : ∀ x ∈ l, x = 0) : orI l = 0 := by
  induction l with
  | nil => rfl
  | cons a r ih =>
    have : a = 0 := h0 a (by simp)
    simp only [orI, this, ne_eq, not_true_eq_false, if_false]
    exact ih fun x hx => h0 x (by simp [hx])
theorem cmpL_step {a b : List Pt} {i : Nat} {e : Int} (ha : i < a.length) (hb : i < b.length) : cmpL (a.drop i) (b.drop i) e = if cmpP a[i] b[i] ≠ 0 then cmpP a[i] b[i] else if a[i].coef ≠ b[i].coef then ints a[i].coef b[i].coef else cmpL (a.drop (i + 1)) (b.drop (i + 1)) e := by
  rw [qH ha, qH hb, cmpL]
theorem cmpL_end {a b : List Pt} {i : Nat} {e : Int} (ha : i ≤ a.length) (hb : i ≤ b.length) (h : i = a.length ∨ i = b.length) : cmpL (a.drop i) (b.drop i) e = if (a.length : Int) ≠ b.length then ints a.length b.length else e := by
  rcases Nat.lt_trichotomy a.length b.length with hl | hl | hl
  · have hi : i = a.length := by omega
    subst hi
    rw [List.drop_length, qH (by omega), cmpL, if_pos (by omega)]
    unfold ints; rw [if_pos (by omega)]
  · have hi : i = a.length := by omega
    subst hi
    rw [List.drop_length, hl, List.drop_length, cmpL, if_neg (by omega)]
  · have hi : i = b.length := by omega
    subst hi
    rw [List.drop_length, qH (by omega), cmpL, if_pos (by omega)]
    unfold ints; rw [if_neg (by omega), if_pos (by omega)]
def cap (n : Nat) : Nat := min n (2 ^ 60 + 1)
theorem cap_le (n : Nat) : cap n ≤ 2 ^ 60 + 1 := Nat.min_le_right _ _
theorem cap_add (a b : Nat) : cap (cap a + cap b) = cap (a + b) := by unfold cap; omega
def bokP (p : Pt) : Prop := p.kind = 2 → (1 ≤ p.dv ∧ p.dv ≤ 1000) ∧ ∃ h : 0 < p.of.length, vldT p.of[0] = true
theorem vldP_bok {p : Pt} (h : vldP p = true) : bokP p := by
  intro hk
  rw [vldP_eq, if_neg (by omega)] at h
  simp only [jG, decide_eq_true_eq] at h
  obtain ⟨_, ⟨⟨_, h1⟩, h2⟩, h3⟩ := h
  refine ⟨⟨by omega, by omega⟩, ?_⟩
  cases ho : p.of with
  | nil => rw [ho] at h3; simp [vldO] at h3
  | cons o r =>
    cases r with
    | cons o2 r2 => rw [ho] at h3; simp [vldO] at h3
    | nil =>
      rw [ho] at h3
      simp only [vldO, jG] at h3
      exact ⟨by simp, h3.2⟩
structure bokT (t : Tm) : Prop where
  c : -9223372036854775808 ≤ t.c ∧ t.c ≤ 9223372036854775807
  coef : ∀ p ∈ t.ps, -9223372036854775808 ≤ p.coef ∧ p.coef ≤ 9223372036854775807
  part : ∀ p ∈ t.ps, bokP p
theorem vldT_small {t : Tm} (h : vldT t = true) : smallB t = true := by rw [vldT_eq] at h; simp only [jG] at h; exact h.2
theorem smallB_iff {t : Tm} : smallB t = true ↔ t.c.natAbs ≤ 2 ^ 40 ∧ (∀ p ∈ t.ps, p.coef.natAbs ≤ 2 ^ 20) ∧ bndT t ≤ 2 ^ 60 := by
  unfold smallB; simp [List.all_eq_true, and_assoc]
theorem vldT_bok {t : Tm} (h : vldT t = true) : bokT t := by
  have h1 := smallB_iff.1 (vldT_small h)
  rw [vldT_eq] at h
  simp only [jG] at h
  exact ⟨by omega, fun p hp => by have := h1.2.1 p hp; omega, fun p hp => vldP_bok (vldPs_iff.1 h.1.1 p hp)⟩
theorem bndO_eq {l : List Tm} (h : 0 < l.length) : bndO l = bndT l[0] := by
  cases l with
  | nil => simp at h
  | cons o r => rfl
theorem bokP_bnd {p : Pt} (h : bokP p) (hk : p.kind = 2) : ∃ h : 0 < p.of.length, bndT p.of[0] ≤ 2 ^ 60 ∧ bndP p = bndT p.of[0] / p.dv.toNat + 1 := by
  obtain ⟨_, h1, h2⟩ := h hk
  exact ⟨h1, (smallB_iff.1 (vldT_small h2)).2.2, by rw [bndP_eq, if_neg (by omega), if_pos hk, bndO_eq h1]⟩
theorem bokP_le {p : Pt} (h : bokP p) : bndP p ≤ 2 ^ 60 + 1 := by
  by_cases hk : p.kind = 2
  · obtain ⟨_, h1, h2⟩ := bokP_bnd h hk
    have := Nat.div_le_self (bndT p.of[0]) p.dv.toNat
    omega
  · rw [bndP_eq]; split <;> (try rw [if_neg hk]) <;> omega
abbrev Rg (n : Int) : Prop := -9223372036854775808 ≤ n ∧ n ≤ 9223372036854775807
mutual
def rgT : Tm → Prop
  | .mk c ps => (Rg c ∧ ps.length ≤ 2 ^ 60) ∧ rgPs ps
def rgPs : List Pt → Prop
  | [] => True
  | p :: r => rgP p ∧ rgPs r
def rgP : Pt → Prop
  | .mk a k v b of => Rg a ∧ Rg k ∧ Rg v ∧ (Rg b ∧ of.length ≤ 2 ^ 60) ∧ rgTs of
def rgTs : List Tm → Prop
  | [] => True
  | t :: r => rgT t ∧ rgTs r
end
theorem vldP_fin' {p : Pt} (h : vldP p = true) : finP p := vldP_fin h fun o _ hv => vldT_fin o hv
structure RV where
  k : Int
  n : Int
  s : ByteArray
def lex (a b : Int) : Int := if a ≠ 0 then a else b
theorem lex_neg (a b : Int) : lex (-a) (-b) = -lex a b := by unfold lex; split <;> split <;> omega
theorem ints_neg (a b : Int) : ints b a = -ints a b := by unfold ints; split <;> split <;> (try split) <;> omega
structure C3 (a b c : Int) : Prop where
  le : a ≤ 0 → b ≤ 0 → c ≤ 0
  ge : 0 ≤ a → 0 ≤ b → 0 ≤ c
  lt : a < 0 → b ≤ 0 → c < 0
  tl : a ≤ 0 → b < 0 → c < 0
  gt : 0 < a → 0 ≤ b → 0 < c
  tg : 0 ≤ a → 0 < b → 0 < c
theorem C3.lex {a b c a' b' c' : Int} (h : C3 a b c) (h' : C3 a' b' c') : C3 (M.lex a a') (M.lex b b') (M.lex c c') := by
  obtain ⟨h1, h2, h3, h4, h5, h6⟩ := h
  obtain ⟨k1, k2, k3, k4, k5, k6⟩ := h'
  unfold M.lex
  constructor <;> (split <;> split <;> split <;> omega)
theorem C3.ints (a b c : Int) : C3 (M.ints a b) (M.ints b c) (M.ints a c) := by
  unfold M.ints
  constructor <;> (split <;> (try split) <;> (try split) <;> (try split) <;> (try split) <;> (try split) <;> omega)
theorem cmpP_lex (p q : Pt) : cmpP p q = lex (ints p.kind q.kind) (lex (ints p.var q.var) (lex (ints p.dv q.dv) (cmpO p.of q.of))) := by
  rw [cmpP_eq]
  unfold lex
  by_cases h1 : p.kind = q.kind
  · by_cases h2 : p.var = q.var
    · by_cases h3 : p.dv = q.dv
      · simp [h1, h2, h3, ints_zero.2]
      · have := mt ints_zero.1 h3
        simp [h1, h2, h3, ints_zero.2, this]
    · have := mt ints_zero.1 h2
      simp [h1, h2, ints_zero.2, this]
  · have := mt ints_zero.1 h1
    simp [h1, this]
theorem cmpL_lex (p q : Pt) (r s : List Pt) (e : Int) : cmpL (p :: r) (q :: s) e = lex (cmpP p q) (lex (ints p.coef q.coef) (cmpL r s e)) := by
  rw [cmpL]
  unfold lex
  by_cases h2 : p.coef = q.coef
  · simp [h2, ints_zero.2]
  · have := mt ints_zero.1 h2
    simp [h2, this]
theorem cmpL_neg {l m : List Pt} (h : ∀ p ∈ l, ∀ q, cmpP q p = -cmpP p q) (e : Int) : cmpL m l (-e) = -cmpL l m e := by
  induction l generalizing m with
  | nil => cases m with
    | nil => rw [cmpL, cmpL]
    | cons q s => rw [cmpL, cmpL]; rfl
  | cons p r ih => cases m with
    | nil => rw [cmpL, cmpL]
    | cons q s => rw [cmpL_lex, cmpL_lex, h p (by simp), ints_neg p.coef, ih (fun x hx => h x (by simp [hx])), lex_neg, lex_neg]
theorem cmpO_neg {l m : List Tm} (h : ∀ o ∈ l, ∀ b, cmpT b o = -cmpT o b) : cmpO m l = -cmpO l m := by
  cases l with
  | nil => cases m with
    | nil => rw [cmpO]; rfl
    | cons q s => rw [cmpO, cmpO]; rfl
  | cons p r => cases m with
    | nil => rw [cmpO, cmpO]
    | cons q s => rw [cmpO, cmpO]; exact h p (by simp) q
theorem cmpT_neg (a : Tm) : ∀ b, cmpT b a = -cmpT a b := by
  induction a using Tm.ind with
  | h a ih =>
    intro b
    rw [cmpT_eq, cmpT_eq, ints_neg a.c b.c]
    refine cmpL_neg (fun p hp q => ?_) _
    rw [cmpP_lex, cmpP_lex, ints_neg p.kind, ints_neg p.var, ints_neg p.dv, cmpO_neg (fun o ho b => ih p hp o ho b), lex_neg, lex_neg, lex_neg]
theorem cmpL_C {l : List Pt} (h : ∀ p ∈ l, ∀ q u, C3 (cmpP p q) (cmpP q u) (cmpP p u)) {m n : List Pt} {e f g : Int} (he : C3 e f g) : C3 (cmpL l m e) (cmpL m n f) (cmpL l n g) := by
  induction l generalizing m n with
  | nil =>
    cases m with
    | nil =>
      cases n with
      | nil => rw [cmpL, cmpL, cmpL]; exact he
      | cons u w => rw [cmpL, cmpL, cmpL]; constructor <;> omega
    | cons q s =>
      cases n with
      | nil => rw [cmpL, cmpL, cmpL]; constructor <;> omega
      | cons u w => rw [cmpL, cmpL]; constructor <;> omega
  | cons p r ih =>
    cases m with
    | nil =>
      cases n with
      | nil => rw [cmpL, cmpL, cmpL]; constructor <;> omega
      | cons u w => rw [cmpL, cmpL]; constructor <;> omega
    | cons q s =>
      cases n with
      | nil => rw [cmpL_lex, cmpL, cmpL]; constructor <;> omega
      | cons u w =>
        rw [cmpL_lex, cmpL_lex, cmpL_lex]
        exact (h p (by simp) q u).lex ((C3.ints _ _ _).lex (ih fun x hx => h x (by simp [hx])))
theorem cmpO_C {l m n : List Tm} (h : ∀ o ∈ l, ∀ b c, C3 (cmpT o b) (cmpT b c) (cmpT o c)) : C3 (cmpO l m) (cmpO m n) (cmpO l n) := by
  cases l with
  | nil =>
    cases m with
    | nil =>
      cases n with
      | nil => rw [cmpO]; constructor <;> omega
      | cons u w => rw [cmpO, cmpO]; constructor <;> omega
    | cons q s =>
      cases n with
      | nil => rw [cmpO, cmpO, cmpO]; constructor <;> omega
      | cons u w => rw [cmpO, cmpO, cmpO]; constructor <;> omega
  | cons p r =>
    cases m with
    | nil =>
      cases n with
      | nil => rw [cmpO, cmpO]; constructor <;> omega
      | cons u w => rw [cmpO, cmpO, cmpO]; constructor <;> omega
    | cons q s =>
      cases n with
      | nil => rw [cmpO, cmpO, cmpO]; constructor <;> omega
      | cons u w => rw [cmpO, cmpO, cmpO]; exact h p (by simp) q u
theorem cmpT_C (a : Tm) : ∀ b c, C3 (cmpT a b) (cmpT b c) (cmpT a c) := by
  induction a using Tm.ind with
  | h a ih =>
    intro b c
    rw [cmpT_eq, cmpT_eq, cmpT_eq]
    refine cmpL_C (fun p hp q u => ?_) (C3.ints _ _ _)
    rw [cmpP_lex, cmpP_lex, cmpP_lex]
    exact (C3.ints _ _ _).lex ((C3.ints _ _ _).lex ((C3.ints _ _ _).lex (cmpO_C fun o ho b c => ih p hp o ho b c)))
end Go.Proofs.YtgnnjebfoffphaaGreatDoor.M
namespace Go.Proofs.YtgnnjebfoffphaaGreatDoor.E
open Go.RowKit
section
variable {P : Program} {all : Array Oper} {o : Oper} {K : S → Prop} {rest : List Oper} {n d : Nat} {t : Nat → X} {L : Nat → Option AO} {H : Heap} {cd : Code} {Q : Exit → S → Prop} {s : S}
theorem sM {y : Operand} {z : C} (k : SeqK P all K rest ⟨n, upd t d (.c z), L, H⟩) (ho : o.op = .move y := by exact rfl) (hy : S.eval ⟨n, t, L, H⟩ y = .c z := by exact rfl) (hg : o.guard = none := by exact rfl) (hdst : o.dst = some d := by exact rfl) (hd : Nat.blt d n = true := by exact rfl) : SeqK P all K (o :: rest) ⟨n, t, L, H⟩ := SeqK.q (q_mvC ho hy) hg hdst hd k
theorem sA {y : Operand} {z : C} (k : SeqK P all K rest ⟨n, upd t d (.c z), L, H⟩) (ho : o.op = .assign y := by exact rfl) (hy : S.eval ⟨n, t, L, H⟩ y = .c z := by exact rfl) (hg : o.guard = none := by exact rfl) (hdst : o.dst = some d := by exact rfl) (hd : Nat.blt d n = true := by exact rfl) : SeqK P all K (o :: rest) ⟨n, t, L, H⟩ := SeqK.q (q_asC ho hy) hg hdst hd k
theorem sR {id : Nat} {l : List Oper} (h : SeqK P l.toArray ((Eth (AW P cd Q) Q) .normal) l s) : AW P (.seq (.region id l.toArray false) cd) Q s := AW.seq (AW.reg h)
end
section
variable {P : Program} {Q : X → Heap → Prop} {all : Array Oper} {K : S → Prop} {o : Oper} {n d : Nat} {t : Nat → X} {L : Nat → Option AO} {H : Heap}
theorem sB {y : Operand} {z : C} (k : K ⟨n, upd t d (.c z), L, H⟩) (ho : o.op = .assign y := by exact rfl) (hy : S.eval ⟨n, t, L, H⟩ y = .c z := by exact rfl) (hg : o.guard = none := by exact rfl) (hdst : o.dst = some d := by exact rfl) (hd : Nat.blt d n = true := by exact rfl) : SeqK P all K [o] ⟨n, t, L, H⟩ := sA (SeqK.nil k) ho hy hg hdst hd
theorem f1 {s : S} {fn : Func} {z : C} (h : Res P s fn.results.toList [z] := by exact .tmp rfl .nil) (q : Q (.c z) s.H) : Fin P fn Q .ret s := fin_x (x := .c _) s.H h rfl (fun _ _ h => h) q
theorem f2 {s : S} {fn : Func} {z w : C} (h : Res P s fn.results.toList [z, w]) (q : Q (.tup [z, w]) s.H) : Fin P fn Q .ret s := fin_x (x := .tup [_, _]) s.H h rfl (fun _ _ h => h) q
theorem cD {P : Program} {Q : Exit → S → Prop} {s : S} {cnd : Operand} {x y : Code} {p : Prop} [Decidable p] (ht : p → AW P x Q s) (hf : ¬ p → AW P y Q s) (hv : s.eval cnd = .c (.a (.t (.v (.bool (decide p))))) := by exact rfl) : AW P (.cond cnd x y) Q s := AW.condD hv ht hf
theorem relOn {P : Program} {all : Array Oper} {K : S → Prop} {o : Oper} {rest : List Oper} {n d : Nat} {t : Nat → X} {L : Nat → Option AO} {H : Heap} {f : FuncId} {ys : Array Operand} {ts : Array TypeId} {args : List C} {j i : Nat} {g : Bool} {p : Prop} (hf : fnB P f = true) (h : Spec P f args H fun x H' => ∃ b : Bool, x = .c (.a (.t (.v (.bool b)))) ∧ (b = true → p) ∧ H' = H) (k : ∀ b : Bool, (b = true → p) → SeqK P all K rest ⟨n, upd t d (.c (.a (.t (.v (.bool b))))), L, H⟩) (ho : o.op = .call { callee := .value (.func f), args := ys, argTypes := ts } := by exact rfl) (hg : o.guard = some (j, g) := by exact rfl) (hj : (all[j]?).bind (·.dst) = some i := by exact rfl) (hb : t i = tv (.bool g) := by exact rfl) (hdst : o.dst = some d := by exact rfl) (hd : Nat.blt d n = true := by exact rfl) (ha : argsX ⟨n, t, L, H⟩ ys.toList = some args := by exact rfl) : SeqK P all K (o :: rest) ⟨n, t, L, H⟩ :=
  SeqK.callOn ho hg hj hb hdst hd hf ha h (fun _ _ h => by obtain ⟨b, hb, _⟩ := h; rw [hb]; rfl) fun x H' q => by
    obtain ⟨b, rfl, q, hH⟩ := q
    subst hH
    exact k b q
theorem aR {P : Program} {Q : Exit → S → Prop} {s : S} (h : Q .ret s) : AW P .ret Q s := AW.ret h
theorem oF {rest : List Oper} {j i : Nat} {b b' : Bool} (k : SeqK P all K rest ⟨n, upd t d (.tup []), L, H⟩) (hg : o.guard = some (j, b) := by exact rfl) (hj : (all[j]?).bind (·.dst) = some i := by exact rfl) (hb : t i = tv (.bool b') := by exact rfl) (hne : (b' == b) = false := by exact rfl) (hdst : o.dst = some d := by exact rfl) (hd : Nat.blt d n = true := by exact rfl) : SeqK P all K (o :: rest) ⟨n, t, L, H⟩ := SeqK.off hg hj hb hne hdst hd k
theorem oU {rest : List Oper} {j i : Nat} {b : Bool} (k : SeqK P all K rest ⟨n, upd t d (.tup []), L, H⟩) (hg : o.guard = some (j, b) := by exact rfl) (hj : (all[j]?).bind (·.dst) = some i := by exact rfl) (hb : t i = .tup [] := by exact rfl) (hdst : o.dst = some d := by exact rfl) (hd : Nat.blt d n = true := by exact rfl) : SeqK P all K (o :: rest) ⟨n, t, L, H⟩ := SeqK.offU hg hj hb hdst hd k
end
section
variable {v0 : Program} {v1 : Array Oper} {v2 : Oper} {v3 : S → Prop} {v4 : List Oper} {v5 v6 v10 v15 v16 v18 v19 v30 v31 : Nat} {v7 : Nat → X} {v8 : Nat → Option AO} {v9 : Heap} {v11 : A} {v12 v22 : TypeId} {v13 v23 v29 : Operand} {v14 v28 : Bool} {v17 v49 : List A} {v20 : IntKind} {v21 v24 v25 : Int} {v26 : C} {v27 : S} {v32 : List C} {v33 v48 : List T} {v34 : Nz} {v35 : List (List T)} {v36 : X} {v37 : FuncId} {v38 : Array Operand} {v39 : Array TypeId} {v40 : Prop} {v41 : Array (Nat × Operand)} {v42 : Value} {v43 : List (Nat × List A)} {v44 : List Fp} {v45 : UInt8} {v46 : ByteArray} {v47 : Sort _}
theorem Z0 (a2 : tyB v0 v12 v14 v15 = true) (k10 : SeqK v0 v1 v3 v4 (S.mk v6 (upd v7 v10 (X.c (C.a v11))) v8 v9)) (h1 : v2.op = Op.load v12 v13 := by exact rfl) (h3 : (S.mk v6 v7 v8 v9).eval v13 = X.lp v5 v16 := by exact rfl) (h4 : v8 v5 = some (AO.box v17) := by exact rfl) (h5 : mkC v14 (List.take v15 (List.drop v16 v17)) = C.a v11 := by exact rfl) (h6 : (v16 + v15).ble v17.length = true := by exact rfl) (h7 : v2.dst = some v10 := by exact rfl) (h8 : v10.blt v6 = true := by exact rfl) (h9 : v2.guard = none := by exact rfl) : SeqK v0 v1 v3 (v2 :: v4) (S.mk v6 v7 v8 v9) := SeqK.r (b_load (r := .a _) h1 a2 h3 h4 h5 h6 h7 h8) h9 k10
theorem Z1 (a2 : fldB v0 v12 v16 v18 = true) (k8 : SeqK v0 v1 v3 v4 (S.mk v5 (upd v7 v6 (X.lp v10 v15)) v8 v9)) (h1 : v2.op = Op.fieldAddr v12 v13 v16 := by exact rfl) (h3 : (S.mk v5 v7 v8 v9).eval v13 = X.lp v10 v19 := by exact rfl) (h4 : v19 + v18 = v15 := by exact rfl) (h5 : v2.guard = none := by exact rfl) (h6 : v2.dst = some v6 := by exact rfl) (h7 : v6.blt v5 = true := by exact rfl) : SeqK v0 v1 v3 (v2 :: v4) (S.mk v5 v7 v8 v9) := SeqK.q (q_fieldL _ h1 a2 h3 h4) h5 h6 h7 k8
theorem Z2 (k8 : SeqK v0 v1 v3 v4 (S.mk v5 (upd v7 v6 (iX v20 v21)) v8 v9)) (h1 : v2.op = Op.binOp BinOp.add v12 v13 v23 v22 := by exact rfl) (h2 : (S.mk v5 v7 v8 v9).eval v13 = iX v20 v24 := by exact rfl) (h3 : (S.mk v5 v7 v8 v9).eval v23 = iX v20 v25 := by exact rfl) (h4 : v20.wrap (v24 + v25) = v21 := by exact w64 (by omega) (by omega)) (h5 : v2.guard = none := by exact rfl) (h6 : v2.dst = some v6 := by exact rfl) (h7 : v6.blt v5 = true := by exact rfl) : SeqK v0 v1 v3 (v2 :: v4) (S.mk v5 v7 v8 v9) := SeqK.q (q_add _ h1 h2 h3 h4) h5 h6 h7 k8
theorem Z3 {r : List A} (a4 : tyB v0 v12 v14 v10 = true) (k12 : SeqK v0 v1 v3 v4 (S.mk v6 v7 (upd v8 v5 (some (AO.box r))) v9)) (h2 : v2.op = Op.store v12 v13 v23 := by exact rfl) (h3 : v2.dst = none := by exact rfl) (h5 : (S.mk v6 v7 v8 v9).eval v13 = X.lp v5 v15 := by exact rfl) (h6 : (S.mk v6 v7 v8 v9).eval v23 = X.c v26 := by exact rfl) (h7 : v8 v5 = some (AO.box v17) := by exact rfl) (h8 : splice v17 v15 v26.cells = r := by exact rfl) (h9 : v26.cells.length = v10 := by exact rfl) (h10 : (v15 + v10).ble v17.length = true := by exact rfl) (h11 : v2.guard = none := by exact rfl) : SeqK v0 v1 v3 (v2 :: v4) (S.mk v6 v7 v8 v9) := SeqK.r (b_store (r := r) h2 h3 a4 h5 h6 h7 h8 h9 h10) h11 k12
theorem Z4 (k1 : v3 v27) : SeqK v0 v1 v3 [] v27 := SeqK.nil k1
theorem Z5 (a2 : tyB v0 v12 v28 v18 = true) (k12 : SeqK v0 v1 v3 v4 (S.mk v6 (upd v7 v10 (X.c (C.a v11))) v8 v9)) (h1 : v2.op = Op.load v12 v13 := by exact rfl) (h3 : (S.mk v6 v7 v8 v9).eval v13 = X.lp v5 v19 := by exact rfl) (h4 : v8 v5 = some (AO.box v17) := by exact rfl) (h5 : mkC v28 (List.take v18 (List.drop v19 v17)) = C.a v11 := by exact rfl) (h6 : (v19 + v18).ble v17.length = true := by exact rfl) (h7 : v2.dst = some v10 := by exact rfl) (h8 : v10.blt v6 = true := by exact rfl) (h9 : v2.guard = some (v15, v14) := by exact rfl) (h10 : (v1[v15]?.bind fun x ↦ x.dst) = some v16 := by exact rfl) (h11 : v7 v16 = tv (Value.bool v14) := by exact rfl) : SeqK v0 v1 v3 (v2 :: v4) (S.mk v6 v7 v8 v9) := SeqK.rOn (b_load (r := .a _) h1 a2 h3 h4 h5 h6 h7 h8) h9 h10 h11 k12
theorem Z6 (k7 : SeqK v0 v1 v3 v4 (S.mk v5 (upd v7 v6 (X.c v26)) v8 v9)) (h1 : v2.op = Op.pick v13 v23 v29 := by exact rfl) (h2 : (S.mk v5 v7 v8 v9).eval v13 = bX false := by exact rfl) (h3 : (S.mk v5 v7 v8 v9).eval v29 = X.c v26 := by exact rfl) (h4 : v2.guard = none := by exact rfl) (h5 : v2.dst = some v6 := by exact rfl) (h6 : v6.blt v5 = true := by exact rfl) : SeqK v0 v1 v3 (v2 :: v4) (S.mk v5 v7 v8 v9) := SeqK.q (q_pkF h1 h2 h3) h4 h5 h6 k7
theorem Z7 (k7 : SeqK v0 v1 v3 v4 (S.mk v5 (upd v7 v6 (X.c v26)) v8 v9)) (h1 : v2.op = Op.pick v13 v23 v29 := by exact rfl) (h2 : (S.mk v5 v7 v8 v9).eval v13 = bX true := by exact rfl) (h3 : (S.mk v5 v7 v8 v9).eval v23 = X.c v26 := by exact rfl) (h4 : v2.guard = none := by exact rfl) (h5 : v2.dst = some v6 := by exact rfl) (h6 : v6.blt v5 = true := by exact rfl) : SeqK v0 v1 v3 (v2 :: v4) (S.mk v5 v7 v8 v9) := SeqK.q (q_pkT h1 h2 h3) h4 h5 h6 k7
theorem Z8 (a2 : fldB v0 v12 v19 v30 = true) (k10 : SeqK v0 v1 v3 v4 (S.mk v5 (upd v7 v6 (X.lp v10 v15)) v8 v9)) (h1 : v2.op = Op.fieldAddr v12 v13 v19 := by exact rfl) (h3 : (S.mk v5 v7 v8 v9).eval v13 = X.lp v10 v31 := by exact rfl) (h4 : v31 + v30 = v15 := by exact rfl) (h5 : v2.guard = some (v16, v14) := by exact rfl) (h6 : (v1[v16]?.bind fun x ↦ x.dst) = some v18 := by exact rfl) (h7 : v7 v18 = tv (Value.bool v14) := by exact rfl) (h8 : v2.dst = some v6 := by exact rfl) (h9 : v6.blt v5 = true := by exact rfl) : SeqK v0 v1 v3 (v2 :: v4) (S.mk v5 v7 v8 v9) := SeqK.on (q_fieldL _ h1 a2 h3 h4) h5 h6 h7 h8 h9 k10
theorem Z9 (k7 : SeqK v0 v1 v3 v4 (S.mk v5 (upd v7 v6 (bX (decide (v21 = v24)))) v8 v9)) (h1 : v2.op = Op.binOp BinOp.eql v12 v13 v23 v22 := by exact rfl) (h2 : (S.mk v5 v7 v8 v9).eval v13 = iX v20 v21 := by exact rfl) (h3 : (S.mk v5 v7 v8 v9).eval v23 = iX v20 v24 := by exact rfl) (h4 : v2.guard = none := by exact rfl) (h5 : v2.dst = some v6 := by exact rfl) (h6 : v6.blt v5 = true := by exact rfl) : SeqK v0 v1 v3 (v2 :: v4) (S.mk v5 v7 v8 v9) := SeqK.q (q_eql h1 h2 h3) h4 h5 h6 k7
theorem Z10 {r : C} (a3 : tyB v0 v12 v14 v15 = true) (k11 : SeqK v0 v1 v3 v4 (S.mk v6 (upd v7 v10 (X.c r)) v8 v9)) (h2 : v2.op = Op.load v12 v13 := by exact rfl) (h4 : (S.mk v6 v7 v8 v9).eval v13 = X.lp v5 v16 := by exact rfl) (h5 : v8 v5 = some (AO.box v17) := by exact rfl) (h6 : mkC v14 (List.take v15 (List.drop v16 v17)) = r := by exact rfl) (h7 : (v16 + v15).ble v17.length = true := by exact rfl) (h8 : v2.dst = some v10 := by exact rfl) (h9 : v10.blt v6 = true := by exact rfl) (h10 : v2.guard = none := by exact rfl) : SeqK v0 v1 v3 (v2 :: v4) (S.mk v6 v7 v8 v9) := SeqK.r (b_load (r := r) h2 a3 h4 h5 h6 h7 h8 h9) h10 k11
theorem Z11 (k7 : SeqK v0 v1 v3 v4 (S.mk v5 (upd v7 v6 (X.c v26)) v8 v9)) (h1 : v2.op = Op.extract v13 v10 := by exact rfl) (h2 : (S.mk v5 v7 v8 v9).eval v13 = X.tup v32 := by exact rfl) (h3 : v32[v10]? = some v26 := by exact rfl) (h4 : v2.guard = none := by exact rfl) (h5 : v2.dst = some v6 := by exact rfl) (h6 : v6.blt v5 = true := by exact rfl) : SeqK v0 v1 v3 (v2 :: v4) (S.mk v5 v7 v8 v9) := SeqK.q (q_extract _ h1 h2 h3) h4 h5 h6 k7
theorem Z12 (a2 : slB v0 v12 v22 v10 = true) (a6 : v35[v21.toNat]? = some v33) (k10 : SeqK v0 v1 v3 v4 (S.mk v5 (upd v7 v6 (X.pc v33)) v8 v9)) (h1 : v2.op = Op.indexAddr v12 v13 v23 := by exact rfl) (h3 : (S.mk v5 v7 v8 v9).eval v13 = X.c (C.a (A.t (T.sl v34 v10 v35))) := by exact rfl) (h4 : (S.mk v5 v7 v8 v9).eval v23 = iX v20 v21 := by exact rfl) (h5 : 0 ≤ v21 := by omega) (h7 : v2.guard = none := by exact rfl) (h8 : v2.dst = some v6 := by exact rfl) (h9 : v6.blt v5 = true := by exact rfl) : SeqK v0 v1 v3 (v2 :: v4) (S.mk v5 v7 v8 v9) := SeqK.q (q_index _ h1 a2 h3 h4 h5 a6) h7 h8 h9 k10
theorem Z13 (a1 : C) (a3 : tyB v0 v12 v14 v10 = true) (k10 : SeqK v0 v1 v3 v4 (S.mk v5 (upd v7 v6 (X.c a1)) v8 v9)) (h2 : v2.op = Op.load v12 v13 := by exact rfl) (h4 : (S.mk v5 v7 v8 v9).eval v13 = X.pc v33 := by exact rfl) (h5 : mkC v14 (List.map A.t (List.take v10 v33)) = a1 := by exact rfl) (h6 : v10.ble v33.length = true := by exact rfl) (h7 : v2.guard = none := by exact rfl) (h8 : v2.dst = some v6 := by exact rfl) (h9 : v6.blt v5 = true := by exact rfl) : SeqK v0 v1 v3 (v2 :: v4) (S.mk v5 v7 v8 v9) := SeqK.q (q_load a1 h2 a3 h4 h5 h6) h7 h8 h9 k10
theorem Z14 (k8 : SeqK v0 v1 v3 v4 (S.mk v5 (upd v7 v6 (X.c v26)) v8 v9)) (h1 : v2.op = Op.move v13 := by exact rfl) (h2 : (S.mk v5 v7 v8 v9).eval v13 = X.c v26 := by exact rfl) (h3 : v2.guard = some (v10, v14) := by exact rfl) (h4 : (v1[v10]?.bind fun x ↦ x.dst) = some v15 := by exact rfl) (h5 : v7 v15 = tv (Value.bool v14) := by exact rfl) (h6 : v2.dst = some v6 := by exact rfl) (h7 : v6.blt v5 = true := by exact rfl) : SeqK v0 v1 v3 (v2 :: v4) (S.mk v5 v7 v8 v9) := SeqK.on (q_mvC h1 h2) h3 h4 h5 h6 h7 k8
theorem Z15 (k7 : SeqK v0 v1 v3 v4 (S.mk v5 (upd v7 v6 (bX (decide (v21 < v24)))) v8 v9)) (h1 : v2.op = Op.binOp BinOp.lss v12 v13 v23 v22 := by exact rfl) (h2 : (S.mk v5 v7 v8 v9).eval v13 = iX v20 v21 := by exact rfl) (h3 : (S.mk v5 v7 v8 v9).eval v23 = iX v20 v24 := by exact rfl) (h4 : v2.guard = none := by exact rfl) (h5 : v2.dst = some v6 := by exact rfl) (h6 : v6.blt v5 = true := by exact rfl) : SeqK v0 v1 v3 (v2 :: v4) (S.mk v5 v7 v8 v9) := SeqK.q (q_lss h1 h2 h3) h4 h5 h6 k7
theorem Z16 (a2 : fnB v0 v37 = true) (a4 : Pure v0 v37 v32 v36) (k9 : SeqK v0 v1 v3 v4 (S.mk v5 (upd v7 v6 v36) v8 v9)) (h1 : v2.op = Op.call { callee := Callee.value (Operand.func v37), args := v38, argTypes := v39 } := by exact rfl) (h3 : argsX (S.mk v5 v7 v8 v9) v38.toList = some v32 := by exact rfl) (h5 : v36.loc = none := by exact rfl) (h6 : v2.guard = none := by exact rfl) (h7 : v2.dst = some v6 := by exact rfl) (h8 : v6.blt v5 = true := by exact rfl) : SeqK v0 v1 v3 (v2 :: v4) (S.mk v5 v7 v8 v9) := SeqK.q (q_call _ h1 a2 h3 a4 h5) h6 h7 h8 k9
theorem Z17 {v11' : Decidable v40} (a6 : v40 → SeqK v0 v1 v3 v4 (S.mk v5 (upd v7 v6 (bX true)) v8 v9)) (a7 : ¬v40 → SeqK v0 v1 v3 v4 (S.mk v5 (upd v7 v6 (bX false)) v8 v9)) (h1 : v2.op = Op.move v13 := by exact rfl) (h2 : (S.mk v5 v7 v8 v9).eval v13 = X.c (C.a (A.t (T.v (Value.bool (decide v40))))) := by exact rfl) (h3 : v2.guard = none := by exact rfl) (h4 : v2.dst = some v6 := by exact rfl) (h5 : v6.blt v5 = true := by exact rfl) : SeqK v0 v1 v3 (v2 :: v4) (S.mk v5 v7 v8 v9) := SeqK.qD (q_mvC h1 h2) h3 h4 h5 a6 a7
theorem Z18 (a2 : v0.underlying v12 = some (TypeDesc.slice v22)) (k7 : SeqK v0 v1 v3 v4 (S.mk v5 (upd v7 v6 (iX IntKind.i64 ↑v35.length)) v8 v9)) (h1 : v2.op = Op.call { callee := Callee.builtin Builtin.len, args := #[v13], argTypes := #[v12] } := by exact rfl) (h3 : (S.mk v5 v7 v8 v9).eval v13 = X.c (C.a (A.t (T.sl v34 v10 v35))) := by exact rfl) (h4 : v2.guard = none := by exact rfl) (h5 : v2.dst = some v6 := by exact rfl) (h6 : v6.blt v5 = true := by exact rfl) : SeqK v0 v1 v3 (v2 :: v4) (S.mk v5 v7 v8 v9) := SeqK.q (q_len h1 a2 h3) h4 h5 h6 k7
theorem Z19 {r : List A} {zs : List A} (a3 : List (Nat × Nat)) (a5 : zeroIs v0 v12 v42) (a7 : bplB v0 v12 a3 = true) (k15 : SeqK v0 v1 v3 v4 (S.mk v5 (upd v7 v6 (X.c (C.g r))) v8 v9)) (h4 : v2.op = Op.build v12 v41 := by exact rfl) (h6 : v42.cells.toList.all Value.oneCell' = true := by exact rfl) (h8 : partsX (S.mk v5 v7 v8 v9) v41.toList = some v43 := by exact rfl) (h9 : List.map litA v42.cells.toList = zs := by exact rfl) (h10 : contB a3 0 zs.length = true := by exact rfl) (h11 : buildA a3 0 zs v43 = some r := by exact rfl) (h12 : v2.guard = none := by exact rfl) (h13 : v2.dst = some v6 := by exact rfl) (h14 : v6.blt v5 = true := by exact rfl) : SeqK v0 v1 v3 (v2 :: v4) (S.mk v5 v7 v8 v9) := SeqK.q (q_build2 (zs := zs) (r := r) a3 _ h4 a5 h6 a7 h8 h9 h10 h11) h12 h13 h14 k15
theorem Z20 {r : List A} (a4 : zeroIs v0 v12 v42) (k10 : SeqK v0 v1 v3 v4 (S.mk v6 (upd v7 v5 (X.lp v5 0)) (upd v8 v5 (some (AO.box r))) v9)) (h2 : v2.op = Op.alloc v12 := by exact rfl) (h3 : v2.dst = some v5 := by exact rfl) (h5 : v42.cells.toList.all Value.oneCell' = true := by exact rfl) (h6 : List.map litA v42.cells.toList = r := by exact rfl) (h7 : v8 v5 = none := by exact rfl) (h8 : v5.blt v6 = true := by exact rfl) (h9 : v2.guard = none := by exact rfl) : SeqK v0 v1 v3 (v2 :: v4) (S.mk v6 v7 v8 v9) := SeqK.r (b_alloc (r := r) h2 h3 a4 h5 h6 h7 h8) h9 k10
theorem Z21 (a2 : tyB v0 v12 v14 v16 = true) (k10 : LexK v0 v1 v3 v4 (S.mk v10 (upd v7 v15 (X.c (C.a v11))) v8 v9) v5 (v44 ++ [(Loc.b v6 :: lk v2, dstT v2)])) (h1 : v2.op = Op.load v12 v13 := by exact rfl) (h3 : (S.mk v10 v7 v8 v9).eval v13 = X.lp v6 v18 := by exact rfl) (h4 : v8 v6 = some (AO.box v17) := by exact rfl) (h5 : mkC v14 (List.take v16 (List.drop v18 v17)) = C.a v11 := by exact rfl) (h6 : (v18 + v16).ble v17.length = true := by exact rfl) (h7 : v2.dst = some v15 := by exact rfl) (h8 : v15.blt v10 = true := by exact rfl) (h9 : v2.guard = none := by exact rfl) : LexK v0 v1 v3 (v2 :: v4) (S.mk v10 v7 v8 v9) v5 v44 := LexK.r (b_load (r := .a _) h1 a2 h3 h4 h5 h6 h7 h8) h9 k10
theorem Z22 (a2 : fldB v0 v12 v18 v19 = true) (k8 : LexK v0 v1 v3 v4 (S.mk v6 (upd v7 v10 (X.lp v15 v16)) v8 v9) v5 (v44 ++ [(lookT v1 v2, dstT v2)])) (h1 : v2.op = Op.fieldAddr v12 v13 v18 := by exact rfl) (h3 : (S.mk v6 v7 v8 v9).eval v13 = X.lp v15 v30 := by exact rfl) (h4 : v30 + v19 = v16 := by exact rfl) (h5 : v2.guard = none := by exact rfl) (h6 : v2.dst = some v10 := by exact rfl) (h7 : v10.blt v6 = true := by exact rfl) : LexK v0 v1 v3 (v2 :: v4) (S.mk v6 v7 v8 v9) v5 v44 := LexK.q (q_fieldL _ h1 a2 h3 h4) h5 h6 h7 k8
theorem Z23 {r : List A} (k9 : SeqK v0 v1 v3 v4 (S.mk v6 (upd v7 v5 (X.lp v5 0)) (upd v8 v5 (some (AO.box r))) v9)) (h2 : v2.op = Op.box v12 v13 := by exact rfl) (h3 : v2.dst = some v5 := by exact rfl) (h4 : (S.mk v6 v7 v8 v9).eval v13 = X.c v26 := by exact rfl) (h5 : v26.cells = r := by exact rfl) (h6 : v8 v5 = none := by exact rfl) (h7 : v5.blt v6 = true := by exact rfl) (h8 : v2.guard = none := by exact rfl) : SeqK v0 v1 v3 (v2 :: v4) (S.mk v6 v7 v8 v9) := SeqK.r (b_box (r := r) h2 h3 h4 h5 h6 h7) h8 k9
theorem Z24 (a2 : elB v0 v12 v22 v10 v16 = true) (k9 : SeqK v0 v1 v3 v4 (S.mk v5 (upd v7 v6 (X.c (C.a (A.t (T.sl Nz.nn v10 v35))))) v8 v9)) (h1 : v2.op = Op.buildSlice v12 v15 v41 := by exact rfl) (h3 : v41.size = v15 := by exact rfl) (h4 : v15 * v10 ≤ 16777216 := by decide) (h5 : elemsX (S.mk v5 v7 v8 v9) v10 0 v41.toList = some v35 := by exact rfl) (h6 : v2.guard = none := by exact rfl) (h7 : v2.dst = some v6 := by exact rfl) (h8 : v6.blt v5 = true := by exact rfl) : SeqK v0 v1 v3 (v2 :: v4) (S.mk v5 v7 v8 v9) := SeqK.q (q_buildSlice _ h1 a2 h3 h4 h5) h6 h7 h8 k9
theorem Z25 (k7 : SeqK v0 v1 v3 v4 (S.mk v5 (upd v7 v6 (bX (decide (v21 ≠ v24)))) v8 v9)) (h1 : v2.op = Op.binOp BinOp.neq v12 v13 v23 v22 := by exact rfl) (h2 : (S.mk v5 v7 v8 v9).eval v13 = iX v20 v21 := by exact rfl) (h3 : (S.mk v5 v7 v8 v9).eval v23 = iX v20 v24 := by exact rfl) (h4 : v2.guard = none := by exact rfl) (h5 : v2.dst = some v6 := by exact rfl) (h6 : v6.blt v5 = true := by exact rfl) : SeqK v0 v1 v3 (v2 :: v4) (S.mk v5 v7 v8 v9) := SeqK.q (q_neq h1 h2 h3) h4 h5 h6 k7
theorem Z26 (a2 : tyB v0 v12 v14 v10 = true) (k10 : SeqK v0 v1 v3 v4 (S.mk v5 (upd v7 v6 (X.c (C.a v11))) v8 v9)) (h1 : v2.op = Op.load v12 v13 := by exact rfl) (h3 : (S.mk v5 v7 v8 v9).eval v13 = X.c (C.a (A.bp v15 v16)) := by exact rfl) (h4 : v9 v15 = some (AO.box v17) := by (repeat rw [upd_ne _ _ (by first | assumption | exact Ne.symm (by assumption))]); first | assumption | exact upd_same _ _ _) (h5 : mkC v14 (List.take v10 (List.drop v16 v17)) = C.a v11 := by exact rfl) (h6 : (v16 + v10).ble v17.length = true := by exact rfl) (h7 : v2.dst = some v6 := by exact rfl) (h8 : v6.blt v5 = true := by exact rfl) (h9 : v2.guard = none := by exact rfl) : SeqK v0 v1 v3 (v2 :: v4) (S.mk v5 v7 v8 v9) := SeqK.r (g_load (r := .a _) h1 a2 h3 h4 h5 h6 h7 h8) h9 k10
theorem Z27 (k6 : LexK v0 v1 v3 v4 (S.mk v6 (upd v7 v10 (X.c v26)) v8 v9) v5 (v44 ++ [(lookT v1 v2, dstT v2)])) (h1 : v2.op = Op.move v13 := by exact rfl) (h2 : (S.mk v6 v7 v8 v9).eval v13 = X.c v26 := by exact rfl) (h3 : v2.guard = none := by exact rfl) (h4 : v2.dst = some v10 := by exact rfl) (h5 : v10.blt v6 = true := by exact rfl) : LexK v0 v1 v3 (v2 :: v4) (S.mk v6 v7 v8 v9) v5 v44 := LexK.q (q_mvC h1 h2) h3 h4 h5 k6
theorem Z28 (a2 : slB v0 v12 v22 v15 = true) (a6 : v35[v21.toNat]? = some v33) (k10 : LexK v0 v1 v3 v4 (S.mk v6 (upd v7 v10 (X.pc v33)) v8 v9) v5 (v44 ++ [(lookT v1 v2, dstT v2)])) (h1 : v2.op = Op.indexAddr v12 v13 v23 := by exact rfl) (h3 : (S.mk v6 v7 v8 v9).eval v13 = X.c (C.a (A.t (T.sl v34 v15 v35))) := by exact rfl) (h4 : (S.mk v6 v7 v8 v9).eval v23 = iX v20 v21 := by exact rfl) (h5 : 0 ≤ v21 := by omega) (h7 : v2.guard = none := by exact rfl) (h8 : v2.dst = some v10 := by exact rfl) (h9 : v10.blt v6 = true := by exact rfl) : LexK v0 v1 v3 (v2 :: v4) (S.mk v6 v7 v8 v9) v5 v44 := LexK.q (q_index _ h1 a2 h3 h4 h5 a6) h7 h8 h9 k10
theorem Z29 (k9 : SeqK v0 v1 v3 v4 (S.mk v5 (upd v7 v6 (bX (decide (v21 = v24)))) v8 v9)) (h1 : v2.op = Op.binOp BinOp.eql v12 v13 v23 v22 := by exact rfl) (h2 : (S.mk v5 v7 v8 v9).eval v13 = iX v20 v21 := by exact rfl) (h3 : (S.mk v5 v7 v8 v9).eval v23 = iX v20 v24 := by exact rfl) (h4 : v2.guard = some (v10, v14) := by exact rfl) (h5 : (v1[v10]?.bind fun x ↦ x.dst) = some v15 := by exact rfl) (h6 : v7 v15 = tv (Value.bool v14) := by exact rfl) (h7 : v2.dst = some v6 := by exact rfl) (h8 : v6.blt v5 = true := by exact rfl) : SeqK v0 v1 v3 (v2 :: v4) (S.mk v5 v7 v8 v9) := SeqK.on (q_eql h1 h2 h3) h4 h5 h6 h7 h8 k9
theorem Z30 (k9 : SeqK v0 v1 v3 v4 (S.mk v5 (upd v7 v6 (bX (decide (v21 < v24)))) v8 v9)) (h1 : v2.op = Op.binOp BinOp.gtr v12 v13 v23 v22 := by exact rfl) (h2 : (S.mk v5 v7 v8 v9).eval v13 = iX v20 v24 := by exact rfl) (h3 : (S.mk v5 v7 v8 v9).eval v23 = iX v20 v21 := by exact rfl) (h4 : v2.guard = some (v10, v14) := by exact rfl) (h5 : (v1[v10]?.bind fun x ↦ x.dst) = some v15 := by exact rfl) (h6 : v7 v15 = tv (Value.bool v14) := by exact rfl) (h7 : v2.dst = some v6 := by exact rfl) (h8 : v6.blt v5 = true := by exact rfl) : SeqK v0 v1 v3 (v2 :: v4) (S.mk v5 v7 v8 v9) := SeqK.on (q_gtr h1 h2 h3) h4 h5 h6 h7 h8 k9
theorem Z31 (k9 : SeqK v0 v1 v3 v4 (S.mk v5 (upd v7 v6 (X.c v26)) v8 v9)) (h1 : v2.op = Op.pick v13 v23 v29 := by exact rfl) (h2 : (S.mk v5 v7 v8 v9).eval v13 = bX true := by exact rfl) (h3 : (S.mk v5 v7 v8 v9).eval v23 = X.c v26 := by exact rfl) (h4 : v2.guard = some (v10, v14) := by exact rfl) (h5 : (v1[v10]?.bind fun x ↦ x.dst) = some v15 := by exact rfl) (h6 : v7 v15 = tv (Value.bool v14) := by exact rfl) (h7 : v2.dst = some v6 := by exact rfl) (h8 : v6.blt v5 = true := by exact rfl) : SeqK v0 v1 v3 (v2 :: v4) (S.mk v5 v7 v8 v9) := SeqK.on (q_pkT h1 h2 h3) h4 h5 h6 h7 h8 k9
theorem Z32 (k9 : SeqK v0 v1 v3 v4 (S.mk v5 (upd v7 v6 (X.c v26)) v8 v9)) (h1 : v2.op = Op.pick v13 v23 v29 := by exact rfl) (h2 : (S.mk v5 v7 v8 v9).eval v13 = bX false := by exact rfl) (h3 : (S.mk v5 v7 v8 v9).eval v29 = X.c v26 := by exact rfl) (h4 : v2.guard = some (v10, v14) := by exact rfl) (h5 : (v1[v10]?.bind fun x ↦ x.dst) = some v15 := by exact rfl) (h6 : v7 v15 = tv (Value.bool v14) := by exact rfl) (h7 : v2.dst = some v6 := by exact rfl) (h8 : v6.blt v5 = true := by exact rfl) : SeqK v0 v1 v3 (v2 :: v4) (S.mk v5 v7 v8 v9) := SeqK.on (q_pkF h1 h2 h3) h4 h5 h6 h7 h8 k9
theorem Z33 (a1 : C) (a3 : tyB v0 v12 v14 v15 = true) (k10 : LexK v0 v1 v3 v4 (S.mk v6 (upd v7 v10 (X.c a1)) v8 v9) v5 (v44 ++ [(lookT v1 v2, dstT v2)])) (h2 : v2.op = Op.load v12 v13 := by exact rfl) (h4 : (S.mk v6 v7 v8 v9).eval v13 = X.pc v33 := by exact rfl) (h5 : mkC v14 (List.map A.t (List.take v15 v33)) = a1 := by exact rfl) (h6 : v15.ble v33.length = true := by exact rfl) (h7 : v2.guard = none := by exact rfl) (h8 : v2.dst = some v10 := by exact rfl) (h9 : v10.blt v6 = true := by exact rfl) : LexK v0 v1 v3 (v2 :: v4) (S.mk v6 v7 v8 v9) v5 v44 := LexK.q (q_load a1 h2 a3 h4 h5 h6) h7 h8 h9 k10
theorem Z34 (a2 : v0.underlying v12 = some TypeDesc.string) (a6 : v46.data.toList[v21.toNat]? = some v45) (k12 : SeqK v0 v1 v3 v4 (S.mk v5 (upd v7 v6 (iX IntKind.u8 ↑v45.toNat)) v8 v9)) (h1 : v2.op = Op.index v12 v13 v23 := by exact rfl) (h3 : (S.mk v5 v7 v8 v9).eval v13 = sX v46 := by exact rfl) (h4 : (S.mk v5 v7 v8 v9).eval v23 = iX v20 v21 := by exact rfl) (h5 : 0 ≤ v21 := by omega) (h7 : v2.guard = some (v10, v14) := by exact rfl) (h8 : (v1[v10]?.bind fun x ↦ x.dst) = some v15 := by exact rfl) (h9 : v7 v15 = tv (Value.bool v14) := by exact rfl) (h10 : v2.dst = some v6 := by exact rfl) (h11 : v6.blt v5 = true := by exact rfl) : SeqK v0 v1 v3 (v2 :: v4) (S.mk v5 v7 v8 v9) := SeqK.on (q_indexS _ h1 a2 h3 h4 h5 a6) h7 h8 h9 h10 h11 k12
theorem Z35 (a2 : fnB v0 v37 = true) (a4 : Pure v0 v37 v32 v36) (k9 : LexK v0 v1 v3 v4 (S.mk v6 (upd v7 v10 v36) v8 v9) v5 (v44 ++ [(lookT v1 v2, dstT v2)])) (h1 : v2.op = Op.call { callee := Callee.value (Operand.func v37), args := v38, argTypes := v39 } := by exact rfl) (h3 : argsX (S.mk v6 v7 v8 v9) v38.toList = some v32 := by exact rfl) (h5 : v36.loc = none := by exact rfl) (h6 : v2.guard = none := by exact rfl) (h7 : v2.dst = some v10 := by exact rfl) (h8 : v10.blt v6 = true := by exact rfl) : LexK v0 v1 v3 (v2 :: v4) (S.mk v6 v7 v8 v9) v5 v44 := LexK.q (q_call _ h1 a2 h3 a4 h5) h6 h7 h8 k9
theorem Z36 (a2 : fldB v0 v12 v10 v15 = true) (k8 : SeqK v0 v1 v3 v4 (S.mk v5 (upd v7 v6 (X.pc v33)) v8 v9)) (h1 : v2.op = Op.fieldAddr v12 v13 v10 := by exact rfl) (h3 : (S.mk v5 v7 v8 v9).eval v13 = X.pc v48 := by exact rfl) (h4 : List.drop v15 v48 = v33 := by exact rfl) (h5 : v2.guard = none := by exact rfl) (h6 : v2.dst = some v6 := by exact rfl) (h7 : v6.blt v5 = true := by exact rfl) : SeqK v0 v1 v3 (v2 :: v4) (S.mk v5 v7 v8 v9) := SeqK.q (q_fieldP _ h1 a2 h3 h4) h5 h6 h7 k8
theorem Z37 (k9 : SeqK v0 v1 v3 v4 (S.mk v5 (upd v7 v6 (bX (decide (v21 ≤ v24)))) v8 v9)) (h1 : v2.op = Op.binOp BinOp.leq v12 v13 v23 v22 := by exact rfl) (h2 : (S.mk v5 v7 v8 v9).eval v13 = iX v20 v21 := by exact rfl) (h3 : (S.mk v5 v7 v8 v9).eval v23 = iX v20 v24 := by exact rfl) (h4 : v2.guard = some (v10, v14) := by exact rfl) (h5 : (v1[v10]?.bind fun x ↦ x.dst) = some v15 := by exact rfl) (h6 : v7 v15 = tv (Value.bool v14) := by exact rfl) (h7 : v2.dst = some v6 := by exact rfl) (h8 : v6.blt v5 = true := by exact rfl) : SeqK v0 v1 v3 (v2 :: v4) (S.mk v5 v7 v8 v9) := SeqK.on (q_leq h1 h2 h3) h4 h5 h6 h7 h8 k9
theorem Z38 (k6 : SeqK v0 v1 v3 v4 (S.mk v5 (upd v7 v6 (bX !v14)) v8 v9)) (h1 : v2.op = Op.unOp UnOp.not v12 v13 := by exact rfl) (h2 : (S.mk v5 v7 v8 v9).eval v13 = bX v14 := by exact rfl) (h3 : v2.guard = none := by exact rfl) (h4 : v2.dst = some v6 := by exact rfl) (h5 : v6.blt v5 = true := by exact rfl) : SeqK v0 v1 v3 (v2 :: v4) (S.mk v5 v7 v8 v9) := SeqK.q (q_not h1 h2) h3 h4 h5 k6
theorem Z39 (k6 : SeqK v0 v1 v3 v4 (S.mk v5 (upd v7 v6 (X.tup v32)) v8 v9)) (h1 : v2.op = Op.move v13 := by exact rfl) (h2 : (S.mk v5 v7 v8 v9).eval v13 = X.tup v32 := by exact rfl) (h3 : v2.guard = none := by exact rfl) (h4 : v2.dst = some v6 := by exact rfl) (h5 : v6.blt v5 = true := by exact rfl) : SeqK v0 v1 v3 (v2 :: v4) (S.mk v5 v7 v8 v9) := SeqK.q (q_mvT h1 h2) h3 h4 h5 k6
theorem Z40 (k7 : SeqK v0 v1 v3 v4 (S.mk v5 (upd v7 v6 (bX (decide (v21 < v24)))) v8 v9)) (h1 : v2.op = Op.binOp BinOp.gtr v12 v13 v23 v22 := by exact rfl) (h2 : (S.mk v5 v7 v8 v9).eval v13 = iX v20 v24 := by exact rfl) (h3 : (S.mk v5 v7 v8 v9).eval v23 = iX v20 v21 := by exact rfl) (h4 : v2.guard = none := by exact rfl) (h5 : v2.dst = some v6 := by exact rfl) (h6 : v6.blt v5 = true := by exact rfl) : SeqK v0 v1 v3 (v2 :: v4) (S.mk v5 v7 v8 v9) := SeqK.q (q_gtr h1 h2 h3) h4 h5 h6 k7
theorem Z41 (k8 : SeqK v0 v1 v3 v4 (S.mk v5 (upd v7 v6 (bX !v14)) v8 v9)) (h1 : v2.op = Op.unOp UnOp.not v12 v13 := by exact rfl) (h2 : (S.mk v5 v7 v8 v9).eval v13 = bX v14 := by exact rfl) (h3 : v2.guard = some (v10, v28) := by exact rfl) (h4 : (v1[v10]?.bind fun x ↦ x.dst) = some v15 := by exact rfl) (h5 : v7 v15 = tv (Value.bool v28) := by exact rfl) (h6 : v2.dst = some v6 := by exact rfl) (h7 : v6.blt v5 = true := by exact rfl) : SeqK v0 v1 v3 (v2 :: v4) (S.mk v5 v7 v8 v9) := SeqK.on (q_not h1 h2) h3 h4 h5 h6 h7 k8
theorem Z42 (k6 : LexK v0 v1 v3 v4 (S.mk v6 (upd v7 v10 (X.c v26)) v8 v9) v5 (v44 ++ [(lookT v1 v2, dstT v2)])) (h1 : v2.op = Op.assign v13 := by exact rfl) (h2 : (S.mk v6 v7 v8 v9).eval v13 = X.c v26 := by exact rfl) (h3 : v2.guard = none := by exact rfl) (h4 : v2.dst = some v10 := by exact rfl) (h5 : v10.blt v6 = true := by exact rfl) : LexK v0 v1 v3 (v2 :: v4) (S.mk v6 v7 v8 v9) v5 v44 := LexK.q (q_asC h1 h2) h3 h4 h5 k6
theorem Z43 (k2 : v3 v27) (h1 : okFp v1 v5 v44 = true := by kernel_rfl) : LexK v0 v1 v3 [] v27 v5 v44 := LexK.nil h1 k2
theorem Z44 {r : List A} (a4 : tyB v0 v12 v14 v15 = true) (k12 : LexK v0 v1 v3 v4 (S.mk v10 v7 (upd v8 v6 (some (AO.box r))) v9) v5 (v44 ++ [(Loc.b v6 :: lk v2, [Loc.b v6])])) (h2 : v2.op = Op.store v12 v13 v23 := by exact rfl) (h3 : v2.dst = none := by exact rfl) (h5 : (S.mk v10 v7 v8 v9).eval v13 = X.lp v6 v16 := by exact rfl) (h6 : (S.mk v10 v7 v8 v9).eval v23 = X.c v26 := by exact rfl) (h7 : v8 v6 = some (AO.box v17) := by exact rfl) (h8 : splice v17 v16 v26.cells = r := by exact rfl) (h9 : v26.cells.length = v15 := by exact rfl) (h10 : (v16 + v15).ble v17.length = true := by exact rfl) (h11 : v2.guard = none := by exact rfl) : LexK v0 v1 v3 (v2 :: v4) (S.mk v10 v7 v8 v9) v5 v44 := LexK.r (b_store (r := r) h2 h3 a4 h5 h6 h7 h8 h9 h10) h11 k12
theorem Z45 (a2 : v0.underlying v12 = some (TypeDesc.slice v22)) (k9 : SeqK v0 v1 v3 v4 (S.mk v5 (upd v7 v6 (iX IntKind.i64 ↑v35.length)) v8 v9)) (h1 : v2.op = Op.call { callee := Callee.builtin Builtin.len, args := #[v13], argTypes := #[v12] } := by exact rfl) (h3 : (S.mk v5 v7 v8 v9).eval v13 = X.c (C.a (A.t (T.sl v34 v16 v35))) := by exact rfl) (h4 : v2.guard = some (v10, v14) := by exact rfl) (h5 : (v1[v10]?.bind fun x ↦ x.dst) = some v15 := by exact rfl) (h6 : v7 v15 = tv (Value.bool v14) := by exact rfl) (h7 : v2.dst = some v6 := by exact rfl) (h8 : v6.blt v5 = true := by exact rfl) : SeqK v0 v1 v3 (v2 :: v4) (S.mk v5 v7 v8 v9) := SeqK.on (q_len h1 a2 h3) h4 h5 h6 h7 h8 k9
theorem Z46 (k7 : LexK v0 v1 v3 v4 (S.mk v6 (upd v7 v10 (X.c v26)) v8 v9) v5 (v44 ++ [(lookT v1 v2, dstT v2)])) (h1 : v2.op = Op.extract v13 v15 := by exact rfl) (h2 : (S.mk v6 v7 v8 v9).eval v13 = X.tup v32 := by exact rfl) (h3 : v32[v15]? = some v26 := by exact rfl) (h4 : v2.guard = none := by exact rfl) (h5 : v2.dst = some v10 := by exact rfl) (h6 : v10.blt v6 = true := by exact rfl) : LexK v0 v1 v3 (v2 :: v4) (S.mk v6 v7 v8 v9) v5 v44 := LexK.q (q_extract _ h1 h2 h3) h4 h5 h6 k7
theorem Z47 (a2 : v0.underlying v12 = some TypeDesc.string) (k7 : SeqK v0 v1 v3 v4 (S.mk v5 (upd v7 v6 (iX IntKind.i64 ↑v46.size)) v8 v9)) (h1 : v2.op = Op.call { callee := Callee.builtin Builtin.len, args := #[v13], argTypes := #[v12] } := by exact rfl) (h3 : (S.mk v5 v7 v8 v9).eval v13 = sX v46 := by exact rfl) (h4 : v2.guard = none := by exact rfl) (h5 : v2.dst = some v6 := by exact rfl) (h6 : v6.blt v5 = true := by exact rfl) : SeqK v0 v1 v3 (v2 :: v4) (S.mk v5 v7 v8 v9) := SeqK.q (q_lenS h1 a2 h3) h4 h5 h6 k7
theorem Z48 {v14' : Decidable v40} (a8 : v40 → SeqK v0 v1 v3 v4 (S.mk v5 (upd v7 v6 (bX true)) v8 v9)) (a9 : ¬v40 → SeqK v0 v1 v3 v4 (S.mk v5 (upd v7 v6 (bX false)) v8 v9)) (h1 : v2.op = Op.move v13 := by exact rfl) (h2 : (S.mk v5 v7 v8 v9).eval v13 = X.c (C.a (A.t (T.v (Value.bool (decide v40))))) := by exact rfl) (h3 : v2.guard = some (v10, v14) := by exact rfl) (h4 : (v1[v10]?.bind fun x ↦ x.dst) = some v15 := by exact rfl) (h5 : v7 v15 = tv (Value.bool v14) := by exact rfl) (h6 : v2.dst = some v6 := by exact rfl) (h7 : v6.blt v5 = true := by exact rfl) : SeqK v0 v1 v3 (v2 :: v4) (S.mk v5 v7 v8 v9) := SeqK.onD (q_mvC h1 h2) h3 h4 h5 h6 h7 a8 a9
theorem Z49 (k7 : SeqK v0 v1 v3 v4 (S.mk v5 (upd v7 v6 (X.tup [])) v8 v9)) (h1 : v2.guard = some (v10, v14) := by exact rfl) (h2 : (v1[v10]?.bind fun x ↦ x.dst) = some v15 := by exact rfl) (h3 : v7 v15 = tv (Value.bool v28) := by exact rfl) (h4 : (v28 == v14) = false := by exact rfl) (h5 : v2.dst = some v6 := by exact rfl) (h6 : v6.blt v5 = true := by exact rfl) : SeqK v0 v1 v3 (v2 :: v4) (S.mk v5 v7 v8 v9) := SeqK.off h1 h2 h3 h4 h5 h6 k7
theorem Z50 (a2 : slB v0 v12 v22 v16 = true) (a6 : v35[v21.toNat]? = some v33) (k12 : SeqK v0 v1 v3 v4 (S.mk v5 (upd v7 v6 (X.pc v33)) v8 v9)) (h1 : v2.op = Op.indexAddr v12 v13 v23 := by exact rfl) (h3 : (S.mk v5 v7 v8 v9).eval v13 = X.c (C.a (A.t (T.sl v34 v16 v35))) := by exact rfl) (h4 : (S.mk v5 v7 v8 v9).eval v23 = iX v20 v21 := by exact rfl) (h5 : 0 ≤ v21 := by omega) (h7 : v2.guard = some (v10, v14) := by exact rfl) (h8 : (v1[v10]?.bind fun x ↦ x.dst) = some v15 := by exact rfl) (h9 : v7 v15 = tv (Value.bool v14) := by exact rfl) (h10 : v2.dst = some v6 := by exact rfl) (h11 : v6.blt v5 = true := by exact rfl) : SeqK v0 v1 v3 (v2 :: v4) (S.mk v5 v7 v8 v9) := SeqK.on (q_index _ h1 a2 h3 h4 h5 a6) h7 h8 h9 h10 h11 k12
theorem Z51 {r : C} (a3 : tyB v0 v12 v14 v16 = true) (k11 : LexK v0 v1 v3 v4 (S.mk v10 (upd v7 v15 (X.c r)) v8 v9) v5 (v44 ++ [(Loc.b v6 :: lk v2, dstT v2)])) (h2 : v2.op = Op.load v12 v13 := by exact rfl) (h4 : (S.mk v10 v7 v8 v9).eval v13 = X.lp v6 v18 := by exact rfl) (h5 : v8 v6 = some (AO.box v17) := by exact rfl) (h6 : mkC v14 (List.take v16 (List.drop v18 v17)) = r := by exact rfl) (h7 : (v18 + v16).ble v17.length = true := by exact rfl) (h8 : v2.dst = some v15 := by exact rfl) (h9 : v15.blt v10 = true := by exact rfl) (h10 : v2.guard = none := by exact rfl) : LexK v0 v1 v3 (v2 :: v4) (S.mk v10 v7 v8 v9) v5 v44 := LexK.r (b_load (r := r) h2 a3 h4 h5 h6 h7 h8 h9) h10 k11
theorem Z52 (a2 : fnB v0 v37 = true) (a4 : Pure v0 v37 v32 v36) (k11 : SeqK v0 v1 v3 v4 (S.mk v5 (upd v7 v6 v36) v8 v9)) (h1 : v2.op = Op.call { callee := Callee.value (Operand.func v37), args := v38, argTypes := v39 } := by exact rfl) (h3 : argsX (S.mk v5 v7 v8 v9) v38.toList = some v32 := by exact rfl) (h5 : v36.loc = none := by exact rfl) (h6 : v2.guard = some (v10, v14) := by exact rfl) (h7 : (v1[v10]?.bind fun x ↦ x.dst) = some v15 := by exact rfl) (h8 : v7 v15 = tv (Value.bool v14) := by exact rfl) (h9 : v2.dst = some v6 := by exact rfl) (h10 : v6.blt v5 = true := by exact rfl) : SeqK v0 v1 v3 (v2 :: v4) (S.mk v5 v7 v8 v9) := SeqK.on (q_call _ h1 a2 h3 a4 h5) h6 h7 h8 h9 h10 k11
theorem Z53 (a6 : v14 = true → SeqK v0 v1 v3 v4 (S.mk v5 (upd v7 v6 (bX true)) v8 v9)) (a7 : v14 = false → SeqK v0 v1 v3 v4 (S.mk v5 (upd v7 v6 (bX false)) v8 v9)) (h1 : v2.op = Op.move v13 := by exact rfl) (h2 : (S.mk v5 v7 v8 v9).eval v13 = X.c (C.a (A.t (T.v (Value.bool v14)))) := by exact rfl) (h3 : v2.guard = none := by exact rfl) (h4 : v2.dst = some v6 := by exact rfl) (h5 : v6.blt v5 = true := by exact rfl) : SeqK v0 v1 v3 (v2 :: v4) (S.mk v5 v7 v8 v9) := SeqK.qB (q_mvC h1 h2) h3 h4 h5 a6 a7
theorem Z54 (a1 : C) (a3 : tyB v0 v12 v28 v16 = true) (k12 : SeqK v0 v1 v3 v4 (S.mk v5 (upd v7 v6 (X.c a1)) v8 v9)) (h2 : v2.op = Op.load v12 v13 := by exact rfl) (h4 : (S.mk v5 v7 v8 v9).eval v13 = X.pc v33 := by exact rfl) (h5 : mkC v28 (List.map A.t (List.take v16 v33)) = a1 := by exact rfl) (h6 : v16.ble v33.length = true := by exact rfl) (h7 : v2.guard = some (v10, v14) := by exact rfl) (h8 : (v1[v10]?.bind fun x ↦ x.dst) = some v15 := by exact rfl) (h9 : v7 v15 = tv (Value.bool v14) := by exact rfl) (h10 : v2.dst = some v6 := by exact rfl) (h11 : v6.blt v5 = true := by exact rfl) : SeqK v0 v1 v3 (v2 :: v4) (S.mk v5 v7 v8 v9) := SeqK.on (q_load a1 h2 a3 h4 h5 h6) h7 h8 h9 h10 h11 k12
theorem Z55 (k9 : SeqK v0 v1 v3 v4 (S.mk v5 (upd v7 v6 (bX (decide (v21 ≠ v24)))) v8 v9)) (h1 : v2.op = Op.binOp BinOp.neq v12 v13 v23 v22 := by exact rfl) (h2 : (S.mk v5 v7 v8 v9).eval v13 = iX v20 v21 := by exact rfl) (h3 : (S.mk v5 v7 v8 v9).eval v23 = iX v20 v24 := by exact rfl) (h4 : v2.guard = some (v10, v14) := by exact rfl) (h5 : (v1[v10]?.bind fun x ↦ x.dst) = some v15 := by exact rfl) (h6 : v7 v15 = tv (Value.bool v14) := by exact rfl) (h7 : v2.dst = some v6 := by exact rfl) (h8 : v6.blt v5 = true := by exact rfl) : SeqK v0 v1 v3 (v2 :: v4) (S.mk v5 v7 v8 v9) := SeqK.on (q_neq h1 h2 h3) h4 h5 h6 h7 h8 k9
theorem Z56 (k7 : SeqK v0 v1 v3 v4 (S.mk v5 (upd v7 v6 (bX (decide (v21 ≤ v24)))) v8 v9)) (h1 : v2.op = Op.binOp BinOp.geq v12 v13 v23 v22 := by exact rfl) (h2 : (S.mk v5 v7 v8 v9).eval v13 = iX v20 v24 := by exact rfl) (h3 : (S.mk v5 v7 v8 v9).eval v23 = iX v20 v21 := by exact rfl) (h4 : v2.guard = none := by exact rfl) (h5 : v2.dst = some v6 := by exact rfl) (h6 : v6.blt v5 = true := by exact rfl) : SeqK v0 v1 v3 (v2 :: v4) (S.mk v5 v7 v8 v9) := SeqK.q (q_geq h1 h2 h3) h4 h5 h6 k7
theorem Z57 (a3 : tyB v0 v12 v14 v10 = true) (k11 : SeqK v0 v1 v3 v4 (S.mk v5 v7 v8 (upd v9 v6 (some (AO.box v17))))) (h1 : v2.op = Op.store v12 v13 v23 := by exact rfl) (h2 : v2.dst = none := by exact rfl) (h4 : (S.mk v5 v7 v8 v9).eval v13 = X.c (C.a (A.bp v6 v15)) := by exact rfl) (h5 : (S.mk v5 v7 v8 v9).eval v23 = X.c v26 := by exact rfl) (h6 : v9 v6 = some (AO.box v49) := by (repeat rw [upd_ne _ _ (by first | assumption | exact Ne.symm (by assumption))]); first | assumption | exact upd_same _ _ _) (h7 : splice v49 v15 v26.cells = v17 := by exact rfl) (h8 : v26.cells.length = v10 := by exact rfl) (h9 : (v15 + v10).ble v49.length = true := by exact rfl) (h10 : v2.guard = none := by exact rfl) : SeqK v0 v1 v3 (v2 :: v4) (S.mk v5 v7 v8 v9) := SeqK.r (g_store h1 h2 a3 h4 h5 h6 h7 h8 h9) h10 k11
theorem Z58 (a2 : v0.underlying v12 = some TypeDesc.string) (a6 : v46.data.toList[v21.toNat]? = some v45) (k10 : SeqK v0 v1 v3 v4 (S.mk v5 (upd v7 v6 (iX IntKind.u8 ↑v45.toNat)) v8 v9)) (h1 : v2.op = Op.index v12 v13 v23 := by exact rfl) (h3 : (S.mk v5 v7 v8 v9).eval v13 = sX v46 := by exact rfl) (h4 : (S.mk v5 v7 v8 v9).eval v23 = iX v20 v21 := by exact rfl) (h5 : 0 ≤ v21 := by omega) (h7 : v2.guard = none := by exact rfl) (h8 : v2.dst = some v6 := by exact rfl) (h9 : v6.blt v5 = true := by exact rfl) : SeqK v0 v1 v3 (v2 :: v4) (S.mk v5 v7 v8 v9) := SeqK.q (q_indexS _ h1 a2 h3 h4 h5 a6) h7 h8 h9 k10
theorem Z59 (a2 : v0.underlying v12 = some TypeDesc.string) (k9 : SeqK v0 v1 v3 v4 (S.mk v5 (upd v7 v6 (iX IntKind.i64 ↑v46.size)) v8 v9)) (h1 : v2.op = Op.call { callee := Callee.builtin Builtin.len, args := #[v13], argTypes := #[v12] } := by exact rfl) (h3 : (S.mk v5 v7 v8 v9).eval v13 = sX v46 := by exact rfl) (h4 : v2.guard = some (v10, v14) := by exact rfl) (h5 : (v1[v10]?.bind fun x ↦ x.dst) = some v15 := by exact rfl) (h6 : v7 v15 = tv (Value.bool v14) := by exact rfl) (h7 : v2.dst = some v6 := by exact rfl) (h8 : v6.blt v5 = true := by exact rfl) : SeqK v0 v1 v3 (v2 :: v4) (S.mk v5 v7 v8 v9) := SeqK.on (q_lenS h1 a2 h3) h4 h5 h6 h7 h8 k9
theorem Z60 {r : C} (a3 : tyB v0 v12 v28 v18 = true) (k13 : SeqK v0 v1 v3 v4 (S.mk v6 (upd v7 v10 (X.c r)) v8 v9)) (h2 : v2.op = Op.load v12 v13 := by exact rfl) (h4 : (S.mk v6 v7 v8 v9).eval v13 = X.lp v5 v19 := by exact rfl) (h5 : v8 v5 = some (AO.box v17) := by exact rfl) (h6 : mkC v28 (List.take v18 (List.drop v19 v17)) = r := by exact rfl) (h7 : (v19 + v18).ble v17.length = true := by exact rfl) (h8 : v2.dst = some v10 := by exact rfl) (h9 : v10.blt v6 = true := by exact rfl) (h10 : v2.guard = some (v15, v14) := by exact rfl) (h11 : (v1[v15]?.bind fun x ↦ x.dst) = some v16 := by exact rfl) (h12 : v7 v16 = tv (Value.bool v14) := by exact rfl) : SeqK v0 v1 v3 (v2 :: v4) (S.mk v6 v7 v8 v9) := SeqK.rOn (b_load (r := r) h2 a3 h4 h5 h6 h7 h8 h9) h10 h11 h12 k13
end
section
variable {v0 : Program} {v1 : Array Oper} {v2 : Oper} {v3 : S → Prop} {v4 : List Oper} {v5 v6 v10 v15 v16 v18 v19 v30 v31 : Nat} {v7 : Nat → X} {v8 : Nat → Option AO} {v9 : Heap} {v11 : A} {v12 v22 : TypeId} {v13 v23 v29 : Operand} {v14 v28 : Bool} {v17 v49 : List A} {v20 : IntKind} {v21 v24 v25 : Int} {v26 : C} {v27 : S} {v32 : List C} {v33 v48 : List T} {v34 : Nz} {v35 : List (List T)} {v36 : X} {v37 : FuncId} {v38 : Array Operand} {v39 : Array TypeId} {v40 : Prop} {v41 : Array (Nat × Operand)} {v42 : Value} {v43 : List (Nat × List A)} {v44 : List Fp} {v45 : UInt8} {v46 : ByteArray} {v47 : Sort _}
theorem Z90 {p q : ByteArray} {x y : Operand} {u w : TypeId} (k7 : SeqK v0 v1 v3 v4 (S.mk v5 (upd v7 v6 (sX (p ++ q))) v8 v9)) (h1 : v2.op = Op.binOp BinOp.add w x y u := by exact rfl) (h2 : (S.mk v5 v7 v8 v9).eval x = sX p := by exact rfl) (h3 : (S.mk v5 v7 v8 v9).eval y = sX q := by exact rfl) (h4 : p.size + q.size ≤ 9223372036854775807 := by first | omega | (simp only [qE]; omega)) (h5 : v2.guard = none := by exact rfl) (h6 : v2.dst = some v6 := by exact rfl) (h7 : v6.blt v5 = true := by exact rfl) : SeqK v0 v1 v3 (v2 :: v4) (S.mk v5 v7 v8 v9) := SeqK.q (q_addS h1 h2 h3 h4) h5 h6 h7 k7
theorem Z91 {p q : ByteArray} {x y : Operand} {u w : TypeId} (k7 : LexK v0 v1 v3 v4 (S.mk v6 (upd v7 v10 (sX (p ++ q))) v8 v9) v5 (v44 ++ [(lookT v1 v2, dstT v2)])) (h1 : v2.op = Op.binOp BinOp.add w x y u := by exact rfl) (h2 : (S.mk v6 v7 v8 v9).eval x = sX p := by exact rfl) (h3 : (S.mk v6 v7 v8 v9).eval y = sX q := by exact rfl) (h4 : p.size + q.size ≤ 9223372036854775807 := by first | omega | (simp only [qE]; omega)) (h5 : v2.guard = none := by exact rfl) (h6 : v2.dst = some v10 := by exact rfl) (h7 : v10.blt v6 = true := by exact rfl) : LexK v0 v1 v3 (v2 :: v4) (S.mk v6 v7 v8 v9) v5 v44 := LexK.q (q_addS h1 h2 h3 h4) h5 h6 h7 k7
structure Hd (Q : Prop) : Prop where
 q : Q
theorem patL {a b : List A} (h : a = b := by first | exact (rfl : (_ : List A) = [_, _]) | exact (rfl : (_ : List A) = [_, _, _, _, _, _, _, _]) | exact (rfl : (_ : List A) = [_, _, _]) | exact (rfl : (_ : List A) = [_, _, _, _, _, _, _, _, _, _, _, _, _, _, _, _, _, _, _, _, _, _, _, _, _, _]) | exact (rfl : (_ : List A) = [_, _, _, _, _]) | exact (rfl : (_ : List A) = [_, _, _, _, _, _, _, _, _, _, _, _, _, _, _, _, _, _, _, _, _, _]) | exact (rfl : (_ : List A) = [_, _, _, _, _, _, _, _, _]) | exact (rfl : (_ : List A) = [_, _, _, _]) | exact (rfl : (_ : List A) = [_, _, _, _, _, _]) | exact (rfl : (_ : List A) = [_, _, _, _, _, _, _]) | exact (rfl : (_ : List A) = [_, _, _, _, _, _, _, _, _, _])) : a = b := h
theorem patC {a b : C} (h : a = b := by first | exact (rfl : (_ : C) = .g [_, _, _, _, _, _, _, _]) | exact (rfl : (_ : C) = .a _) | exact (rfl : (_ : C) = .g [_, _, _, _, _]) | exact (rfl : (_ : C) = .g [_, _]) | exact (rfl : (_ : C) = .g [_, _, _]) | exact (rfl : (_ : C) = .g [_, _, _, _, _, _, _, _, _, _, _, _, _, _, _, _, _, _, _, _, _, _]) | exact (rfl : (_ : C) = .g [_, _, _, _, _, _, _, _, _, _, _, _, _, _, _, _, _, _, _, _, _, _, _, _, _, _]) | exact (rfl : (_ : C) = .g [_, _, _, _, _, _, _, _, _]) | exact (rfl : (_ : C) = .g [_, _, _, _]) | exact (rfl : (_ : C) = .g [_, _, _, _, _, _]) | exact (rfl : (_ : C) = .g [_, _, _, _, _, _, _, _, _, _]) | exact (rfl : (_ : C) = .g [_, _, _, _, _, _, _])) : a = b := h
theorem facB {p : Prop} (h : p := by with_reducible first | exact bp35 | exact bp37 | exact bp40 | exact bp47 | exact bp58 | exact bp65 | exact bp72 | exact bp77 | exact bp85 | exact bp88 | exact bp92 | exact bp101 | exact bp143 | exact bp199 | exact bp219) : p := h
theorem facE {p : Prop} (h : p := by with_reducible first | exact el23 | exact el24 | exact el27 | exact el30 | exact el31 | exact el32 | exact el33 | exact el43 | exact el44 | exact el45 | exact el51 | exact el54 | exact el69 | exact el70 | exact el90 | exact el98 | exact el197 | exact el204 | exact el217) : p := h
theorem facL {p : Prop} (h : p := by with_reducible first | exact fl29_0 | exact fl29_1 | exact fl29_2 | exact fl29_3 | exact fl35_0 | exact fl35_1 | exact fl35_2 | exact fl37_0 | exact fl37_1 | exact fl37_2 | exact fl37_3 | exact fl37_4 | exact fl37_5 | exact fl40_0 | exact fl40_1 | exact fl40_2 | exact fl40_3 | exact fl40_4 | exact fl40_5 | exact fl40_6 | exact fl40_7 | exact fl40_8 | exact fl40_9 | exact fl40_10 | exact fl40_11 | exact fl47_0 | exact fl47_2 | exact fl47_3 | exact fl47_4 | exact fl58_0 | exact fl58_1 | exact fl65_0 | exact fl65_1 | exact fl72_0 | exact fl72_1 | exact fl72_2 | exact fl72_3 | exact fl72_4 | exact fl77_0 | exact fl77_1 | exact fl77_2 | exact fl77_3 | exact fl77_4 | exact fl77_5 | exact fl85_0 | exact fl85_1 | exact fl85_2 | exact fl88_0 | exact fl92_0 | exact fl92_1 | exact fl92_2 | exact fl101_0 | exact fl101_1 | exact fl110_0 | exact fl110_1 | exact fl110_2 | exact fl131_0 | exact fl131_1 | exact fl143_0 | exact fl143_1 | exact fl143_2 | exact fl199_0 | exact fl199_1 | exact fl219_0 | exact fl219_1 | exact fl219_2 | exact fl219_3 | exact fl219_4) : p := h
theorem facS {p : Prop} (h : p := by with_reducible first | exact sl23 | exact sl24 | exact sl25 | exact sl26 | exact sl27 | exact sl30 | exact sl31 | exact sl32 | exact sl33 | exact sl38 | exact sl43 | exact sl44 | exact sl51 | exact sl54 | exact sl55 | exact sl69 | exact sl70 | exact sl90 | exact sl98 | exact sl197) : p := h
theorem facT {p : Prop} (h : p := by with_reducible first | exact ty2 | exact ty3 | exact ty4 | exact ty9 | exact ty24 | exact ty25 | exact ty26 | exact ty27 | exact ty29 | exact ty30 | exact ty31 | exact ty32 | exact ty33 | exact ty35 | exact ty37 | exact ty38 | exact ty40 | exact ty43 | exact ty44 | exact ty45 | exact ty47 | exact ty51 | exact ty58 | exact ty65 | exact ty69 | exact ty70 | exact ty72 | exact ty77 | exact ty85 | exact ty90 | exact ty92 | exact ty101 | exact ty110 | exact ty131 | exact ty132 | exact ty143 | exact ty179 | exact ty197 | exact ty199 | exact ty217 | exact ty219) : p := h
theorem facU {p : Prop} (h : p := by with_reducible first | exact un9 | exact un23 | exact un24 | exact un25 | exact un26 | exact un27 | exact un30 | exact un31 | exact un32 | exact un33 | exact un38 | exact un43 | exact un44 | exact un51 | exact un55 | exact un69 | exact un70 | exact un90 | exact un98 | exact un197 | exact un217) : p := h
theorem facZ {p : Prop} (h : p := by with_reducible first | exact ze29 | exact ze35 | exact ze37 | exact ze40 | exact ze47 | exact ze58 | exact ze65 | exact ze72 | exact ze77 | exact ze85 | exact ze88 | exact ze92 | exact ze101 | exact ze110 | exact ze143 | exact ze199 | exact ze219) : p := h
theorem Y1 (k8 : SeqK v0 v1 v3 v4 (S.mk v5 (upd v7 v6 (X.lp v10 v15)) v8 v9)) (h1 : v2.op = Op.fieldAddr v12 v13 v16 := by exact rfl) (a2 : fldB v0 v12 v16 v18 = true := by exact facL) (h3 : (S.mk v5 v7 v8 v9).eval v13 = X.lp v10 v19 := by exact rfl) (h4 : v19 + v18 = v15 := by exact rfl) (h5 : v2.guard = none := by exact rfl) (h6 : v2.dst = some v6 := by exact rfl) (h7 : v6.blt v5 = true := by exact rfl) : SeqK v0 v1 v3 (v2 :: v4) (S.mk v5 v7 v8 v9) := Z1 (a2 := a2) (k8 := k8) (h1 := h1) (h3 := h3) (h4 := h4) (h5 := h5) (h6 := h6) (h7 := h7)
theorem Y0 (k10 : SeqK v0 v1 v3 v4 (S.mk v6 (upd v7 v10 (X.c (C.a v11))) v8 v9)) (h1 : v2.op = Op.load v12 v13 := by exact rfl) (a2 : tyB v0 v12 v14 v15 = true := by exact facT) (h3 : (S.mk v6 v7 v8 v9).eval v13 = X.lp v5 v16 := by exact rfl) (h4 : v8 v5 = some (AO.box v17) := by exact rfl) (h5 : mkC v14 (List.take v15 (List.drop v16 v17)) = C.a v11 := by exact rfl) (h6 : (v16 + v15).ble v17.length = true := by exact rfl) (h7 : v2.dst = some v10 := by exact rfl) (h8 : v10.blt v6 = true := by exact rfl) (h9 : v2.guard = none := by exact rfl) : SeqK v0 v1 v3 (v2 :: v4) (S.mk v6 v7 v8 v9) := Z0 (a2 := a2) (k10 := k10) (h1 := h1) (h3 := h3) (h4 := h4) (h5 := h5) (h6 := h6) (h7 := h7) (h8 := h8) (h9 := h9)
theorem Y3 {r : List A} (k12 : SeqK v0 v1 v3 v4 (S.mk v6 v7 (upd v8 v5 (some (AO.box r))) v9)) (h2 : v2.op = Op.store v12 v13 v23 := by exact rfl) (a4 : tyB v0 v12 v14 v10 = true := by exact facT) (h3 : v2.dst = none := by exact rfl) (h5 : (S.mk v6 v7 v8 v9).eval v13 = X.lp v5 v15 := by exact rfl) (h6 : (S.mk v6 v7 v8 v9).eval v23 = X.c v26 := by exact rfl) (h7 : v8 v5 = some (AO.box v17) := by exact rfl) (h8 : splice v17 v15 v26.cells = r := by exact patL) (h9 : v26.cells.length = v10 := by exact rfl) (h10 : (v15 + v10).ble v17.length = true := by exact rfl) (h11 : v2.guard = none := by exact rfl) : SeqK v0 v1 v3 (v2 :: v4) (S.mk v6 v7 v8 v9) := Z3 (r := r) (a4 := a4) (k12 := k12) (h2 := h2) (h3 := h3) (h5 := h5) (h6 := h6) (h7 := h7) (h8 := h8) (h9 := h9) (h10 := h10) (h11 := h11)
theorem Y8 (k10 : SeqK v0 v1 v3 v4 (S.mk v5 (upd v7 v6 (X.lp v10 v15)) v8 v9)) (h1 : v2.op = Op.fieldAddr v12 v13 v19 := by exact rfl) (a2 : fldB v0 v12 v19 v30 = true := by exact facL) (h3 : (S.mk v5 v7 v8 v9).eval v13 = X.lp v10 v31 := by exact rfl) (h4 : v31 + v30 = v15 := by exact rfl) (h5 : v2.guard = some (v16, v14) := by exact rfl) (h6 : (v1[v16]?.bind fun x ↦ x.dst) = some v18 := by exact rfl) (h7 : v7 v18 = tv (Value.bool v14) := by exact rfl) (h8 : v2.dst = some v6 := by exact rfl) (h9 : v6.blt v5 = true := by exact rfl) : SeqK v0 v1 v3 (v2 :: v4) (S.mk v5 v7 v8 v9) := Z8 (a2 := a2) (k10 := k10) (h1 := h1) (h3 := h3) (h4 := h4) (h5 := h5) (h6 := h6) (h7 := h7) (h8 := h8) (h9 := h9)
theorem Y5 (k12 : SeqK v0 v1 v3 v4 (S.mk v6 (upd v7 v10 (X.c (C.a v11))) v8 v9)) (h1 : v2.op = Op.load v12 v13 := by exact rfl) (a2 : tyB v0 v12 v28 v18 = true := by exact facT) (h3 : (S.mk v6 v7 v8 v9).eval v13 = X.lp v5 v19 := by exact rfl) (h4 : v8 v5 = some (AO.box v17) := by exact rfl) (h5 : mkC v28 (List.take v18 (List.drop v19 v17)) = C.a v11 := by exact rfl) (h6 : (v19 + v18).ble v17.length = true := by exact rfl) (h7 : v2.dst = some v10 := by exact rfl) (h8 : v10.blt v6 = true := by exact rfl) (h9 : v2.guard = some (v15, v14) := by exact rfl) (h10 : (v1[v15]?.bind fun x ↦ x.dst) = some v16 := by exact rfl) (h11 : v7 v16 = tv (Value.bool v14) := by exact rfl) : SeqK v0 v1 v3 (v2 :: v4) (S.mk v6 v7 v8 v9) := Z5 (a2 := a2) (k12 := k12) (h1 := h1) (h3 := h3) (h4 := h4) (h5 := h5) (h6 := h6) (h7 := h7) (h8 := h8) (h9 := h9) (h10 := h10) (h11 := h11)
theorem Y10 {r : C} (k11 : SeqK v0 v1 v3 v4 (S.mk v6 (upd v7 v10 (X.c r)) v8 v9)) (h2 : v2.op = Op.load v12 v13 := by exact rfl) (a3 : tyB v0 v12 v14 v15 = true := by exact facT) (h4 : (S.mk v6 v7 v8 v9).eval v13 = X.lp v5 v16 := by exact rfl) (h5 : v8 v5 = some (AO.box v17) := by exact rfl) (h6 : mkC v14 (List.take v15 (List.drop v16 v17)) = r := by exact patC) (h7 : (v16 + v15).ble v17.length = true := by exact rfl) (h8 : v2.dst = some v10 := by exact rfl) (h9 : v10.blt v6 = true := by exact rfl) (h10 : v2.guard = none := by exact rfl) : SeqK v0 v1 v3 (v2 :: v4) (S.mk v6 v7 v8 v9) := Z10 (r := r) (a3 := a3) (k11 := k11) (h2 := h2) (h4 := h4) (h5 := h5) (h6 := h6) (h7 := h7) (h8 := h8) (h9 := h9) (h10 := h10)
theorem Y18 (k7 : SeqK v0 v1 v3 v4 (S.mk v5 (upd v7 v6 (iX IntKind.i64 ↑v35.length)) v8 v9)) (h1 : v2.op = Op.call { callee := Callee.builtin Builtin.len, args := #[v13], argTypes := #[v12] } := by exact rfl) (a2 : v0.underlying v12 = some (TypeDesc.slice v22) := by exact facU) (h3 : (S.mk v5 v7 v8 v9).eval v13 = X.c (C.a (A.t (T.sl v34 v10 v35))) := by exact rfl) (h4 : v2.guard = none := by exact rfl) (h5 : v2.dst = some v6 := by exact rfl) (h6 : v6.blt v5 = true := by exact rfl) : SeqK v0 v1 v3 (v2 :: v4) (S.mk v5 v7 v8 v9) := Z18 (a2 := a2) (k7 := k7) (h1 := h1) (h3 := h3) (h4 := h4) (h5 := h5) (h6 := h6)
theorem Y13 {a1 : C} (k10 : SeqK v0 v1 v3 v4 (S.mk v5 (upd v7 v6 (X.c a1)) v8 v9)) (h2 : v2.op = Op.load v12 v13 := by exact rfl) (a3 : tyB v0 v12 v14 v10 = true := by exact facT) (h4 : (S.mk v5 v7 v8 v9).eval v13 = X.pc v33 := by exact rfl) (h5 : mkC v14 (List.map A.t (List.take v10 v33)) = a1 := by exact patC) (h6 : v10.ble v33.length = true := by exact rfl) (h7 : v2.guard = none := by exact rfl) (h8 : v2.dst = some v6 := by exact rfl) (h9 : v6.blt v5 = true := by exact rfl) : SeqK v0 v1 v3 (v2 :: v4) (S.mk v5 v7 v8 v9) := Z13 (a1 := a1) (a3 := a3) (k10 := k10) (h2 := h2) (h4 := h4) (h5 := h5) (h6 := h6) (h7 := h7) (h8 := h8) (h9 := h9)
theorem Y12 (k10 : SeqK v0 v1 v3 v4 (S.mk v5 (upd v7 v6 (X.pc v33)) v8 v9)) (h1 : v2.op = Op.indexAddr v12 v13 v23 := by exact rfl) (a2 : slB v0 v12 v22 v10 = true := by exact facS) (h3 : (S.mk v5 v7 v8 v9).eval v13 = X.c (C.a (A.t (T.sl v34 v10 v35))) := by exact rfl) (h4 : (S.mk v5 v7 v8 v9).eval v23 = iX v20 v21 := by exact rfl) (a6 : v35[v21.toNat]? = some v33 := by first | exact idx_ex hi | exact idx_ex h01 | exact idx_ex h12 | exact idx_map hi | exact idx_map hj | exact idx_ex hj | exact idx_map hnt | exact idx_map h0 | exact idx_map hx | exact idx_map hil | exact idx_map hib | exact idx_map hjl | exact idx_map hv2 | exact idx_map hi2 | exact idx_map hw2 | exact idx_map hmk | exact idx_map hl | exact idx_map h12 | exact idx_map hv | exact idx_map hjc | exact idx_ex hk | exact idx_ex h0 | exact idx_map (by assumption) | exact idx_ex (by assumption)) (h5 : 0 ≤ v21 := by omega) (h7 : v2.guard = none := by exact rfl) (h8 : v2.dst = some v6 := by exact rfl) (h9 : v6.blt v5 = true := by exact rfl) : SeqK v0 v1 v3 (v2 :: v4) (S.mk v5 v7 v8 v9) := Z12 (a2 := a2) (a6 := a6) (k10 := k10) (h1 := h1) (h3 := h3) (h4 := h4) (h5 := h5) (h7 := h7) (h8 := h8) (h9 := h9)
theorem Y20 {r : List A} (k10 : SeqK v0 v1 v3 v4 (S.mk v6 (upd v7 v5 (X.lp v5 0)) (upd v8 v5 (some (AO.box r))) v9)) (h2 : v2.op = Op.alloc v12 := by exact rfl) (a4 : zeroIs v0 v12 v42 := by exact facZ) (h3 : v2.dst = some v5 := by exact rfl) (h5 : v42.cells.toList.all Value.oneCell' = true := by exact rfl) (h6 : List.map litA v42.cells.toList = r := by exact patL) (h7 : v8 v5 = none := by exact rfl) (h8 : v5.blt v6 = true := by exact rfl) (h9 : v2.guard = none := by exact rfl) : SeqK v0 v1 v3 (v2 :: v4) (S.mk v6 v7 v8 v9) := Z20 (r := r) (a4 := a4) (k10 := k10) (h2 := h2) (h3 := h3) (h5 := h5) (h6 := h6) (h7 := h7) (h8 := h8) (h9 := h9)
theorem Y22 (k8 : LexK v0 v1 v3 v4 (S.mk v6 (upd v7 v10 (X.lp v15 v16)) v8 v9) v5 (v44 ++ [(lookT v1 v2, dstT v2)])) (h1 : v2.op = Op.fieldAddr v12 v13 v18 := by exact rfl) (a2 : fldB v0 v12 v18 v19 = true := by exact facL) (h3 : (S.mk v6 v7 v8 v9).eval v13 = X.lp v15 v30 := by exact rfl) (h4 : v30 + v19 = v16 := by exact rfl) (h5 : v2.guard = none := by exact rfl) (h6 : v2.dst = some v10 := by exact rfl) (h7 : v10.blt v6 = true := by exact rfl) : LexK v0 v1 v3 (v2 :: v4) (S.mk v6 v7 v8 v9) v5 v44 := Z22 (a2 := a2) (k8 := k8) (h1 := h1) (h3 := h3) (h4 := h4) (h5 := h5) (h6 := h6) (h7 := h7)
theorem Y23 {r : List A} (k9 : SeqK v0 v1 v3 v4 (S.mk v6 (upd v7 v5 (X.lp v5 0)) (upd v8 v5 (some (AO.box r))) v9)) (h2 : v2.op = Op.box v12 v13 := by exact rfl) (h3 : v2.dst = some v5 := by exact rfl) (h4 : (S.mk v6 v7 v8 v9).eval v13 = X.c v26 := by exact rfl) (h5 : v26.cells = r := by exact patL) (h6 : v8 v5 = none := by exact rfl) (h7 : v5.blt v6 = true := by exact rfl) (h8 : v2.guard = none := by exact rfl) : SeqK v0 v1 v3 (v2 :: v4) (S.mk v6 v7 v8 v9) := Z23 (r := r) (k9 := k9) (h2 := h2) (h3 := h3) (h4 := h4) (h5 := h5) (h6 := h6) (h7 := h7) (h8 := h8)
theorem Y19 {r : List A} {zs : List A} {a3 : List (Nat × Nat)} (k15 : SeqK v0 v1 v3 v4 (S.mk v5 (upd v7 v6 (X.c (C.g r))) v8 v9)) (h4 : v2.op = Op.build v12 v41 := by exact rfl) (a5 : zeroIs v0 v12 v42 := by exact facZ) (a7 : bplB v0 v12 a3 = true := by exact facB) (h6 : v42.cells.toList.all Value.oneCell' = true := by exact rfl) (h8 : partsX (S.mk v5 v7 v8 v9) v41.toList = some v43 := by exact rfl) (h9 : List.map litA v42.cells.toList = zs := by exact patL) (h10 : contB a3 0 zs.length = true := by exact rfl) (h11 : buildA a3 0 zs v43 = some r := by exact rfl) (h12 : v2.guard = none := by exact rfl) (h13 : v2.dst = some v6 := by exact rfl) (h14 : v6.blt v5 = true := by exact rfl) : SeqK v0 v1 v3 (v2 :: v4) (S.mk v5 v7 v8 v9) := Z19 (r := r) (zs := zs) (a3 := a3) (a5 := a5) (a7 := a7) (k15 := k15) (h4 := h4) (h6 := h6) (h8 := h8) (h9 := h9) (h10 := h10) (h11 := h11) (h12 := h12) (h13 := h13) (h14 := h14)
theorem Y21 (k10 : LexK v0 v1 v3 v4 (S.mk v10 (upd v7 v15 (X.c (C.a v11))) v8 v9) v5 (v44 ++ [(Loc.b v6 :: lk v2, dstT v2)])) (h1 : v2.op = Op.load v12 v13 := by exact rfl) (a2 : tyB v0 v12 v14 v16 = true := by exact facT) (h3 : (S.mk v10 v7 v8 v9).eval v13 = X.lp v6 v18 := by exact rfl) (h4 : v8 v6 = some (AO.box v17) := by exact rfl) (h5 : mkC v14 (List.take v16 (List.drop v18 v17)) = C.a v11 := by exact rfl) (h6 : (v18 + v16).ble v17.length = true := by exact rfl) (h7 : v2.dst = some v15 := by exact rfl) (h8 : v15.blt v10 = true := by exact rfl) (h9 : v2.guard = none := by exact rfl) : LexK v0 v1 v3 (v2 :: v4) (S.mk v10 v7 v8 v9) v5 v44 := Z21 (a2 := a2) (k10 := k10) (h1 := h1) (h3 := h3) (h4 := h4) (h5 := h5) (h6 := h6) (h7 := h7) (h8 := h8) (h9 := h9)
theorem Y24 (k9 : SeqK v0 v1 v3 v4 (S.mk v5 (upd v7 v6 (X.c (C.a (A.t (T.sl Nz.nn v10 v35))))) v8 v9)) (h1 : v2.op = Op.buildSlice v12 v15 v41 := by exact rfl) (a2 : elB v0 v12 v22 v10 v16 = true := by exact facE) (h3 : v41.size = v15 := by exact rfl) (h4 : v15 * v10 ≤ 16777216 := by decide) (h5 : elemsX (S.mk v5 v7 v8 v9) v10 0 v41.toList = some v35 := by exact rfl) (h6 : v2.guard = none := by exact rfl) (h7 : v2.dst = some v6 := by exact rfl) (h8 : v6.blt v5 = true := by exact rfl) : SeqK v0 v1 v3 (v2 :: v4) (S.mk v5 v7 v8 v9) := Z24 (a2 := a2) (k9 := k9) (h1 := h1) (h3 := h3) (h4 := h4) (h5 := h5) (h6 := h6) (h7 := h7) (h8 := h8)
theorem Y33 {a1 : C} (k10 : LexK v0 v1 v3 v4 (S.mk v6 (upd v7 v10 (X.c a1)) v8 v9) v5 (v44 ++ [(lookT v1 v2, dstT v2)])) (h2 : v2.op = Op.load v12 v13 := by exact rfl) (a3 : tyB v0 v12 v14 v15 = true := by exact facT) (h4 : (S.mk v6 v7 v8 v9).eval v13 = X.pc v33 := by exact rfl) (h5 : mkC v14 (List.map A.t (List.take v15 v33)) = a1 := by exact patC) (h6 : v15.ble v33.length = true := by exact rfl) (h7 : v2.guard = none := by exact rfl) (h8 : v2.dst = some v10 := by exact rfl) (h9 : v10.blt v6 = true := by exact rfl) : LexK v0 v1 v3 (v2 :: v4) (S.mk v6 v7 v8 v9) v5 v44 := Z33 (a1 := a1) (a3 := a3) (k10 := k10) (h2 := h2) (h4 := h4) (h5 := h5) (h6 := h6) (h7 := h7) (h8 := h8) (h9 := h9)
theorem Y36 (k8 : SeqK v0 v1 v3 v4 (S.mk v5 (upd v7 v6 (X.pc v33)) v8 v9)) (h1 : v2.op = Op.fieldAddr v12 v13 v10 := by exact rfl) (a2 : fldB v0 v12 v10 v15 = true := by exact facL) (h3 : (S.mk v5 v7 v8 v9).eval v13 = X.pc v48 := by exact rfl) (h4 : List.drop v15 v48 = v33 := by exact rfl) (h5 : v2.guard = none := by exact rfl) (h6 : v2.dst = some v6 := by exact rfl) (h7 : v6.blt v5 = true := by exact rfl) : SeqK v0 v1 v3 (v2 :: v4) (S.mk v5 v7 v8 v9) := Z36 (a2 := a2) (k8 := k8) (h1 := h1) (h3 := h3) (h4 := h4) (h5 := h5) (h6 := h6) (h7 := h7)
theorem Y47 (k7 : SeqK v0 v1 v3 v4 (S.mk v5 (upd v7 v6 (iX IntKind.i64 ↑v46.size)) v8 v9)) (h1 : v2.op = Op.call { callee := Callee.builtin Builtin.len, args := #[v13], argTypes := #[v12] } := by exact rfl) (a2 : v0.underlying v12 = some TypeDesc.string := by exact facU) (h3 : (S.mk v5 v7 v8 v9).eval v13 = sX v46 := by exact rfl) (h4 : v2.guard = none := by exact rfl) (h5 : v2.dst = some v6 := by exact rfl) (h6 : v6.blt v5 = true := by exact rfl) : SeqK v0 v1 v3 (v2 :: v4) (S.mk v5 v7 v8 v9) := Z47 (a2 := a2) (k7 := k7) (h1 := h1) (h3 := h3) (h4 := h4) (h5 := h5) (h6 := h6)
theorem Y28 (k10 : LexK v0 v1 v3 v4 (S.mk v6 (upd v7 v10 (X.pc v33)) v8 v9) v5 (v44 ++ [(lookT v1 v2, dstT v2)])) (h1 : v2.op = Op.indexAddr v12 v13 v23 := by exact rfl) (a2 : slB v0 v12 v22 v15 = true := by exact facS) (h3 : (S.mk v6 v7 v8 v9).eval v13 = X.c (C.a (A.t (T.sl v34 v15 v35))) := by exact rfl) (h4 : (S.mk v6 v7 v8 v9).eval v23 = iX v20 v21 := by exact rfl) (a6 : v35[v21.toNat]? = some v33 := by first | exact idx_ex hi | exact idx_ex h01 | exact idx_ex h12 | exact idx_map hi | exact idx_map hj | exact idx_ex hj | exact idx_map hnt | exact idx_map h0 | exact idx_map hx | exact idx_map hil | exact idx_map hib | exact idx_map hjl | exact idx_map hv2 | exact idx_map hi2 | exact idx_map hw2 | exact idx_map hmk | exact idx_map hl | exact idx_map h12 | exact idx_map hv | exact idx_map hjc | exact idx_ex hk | exact idx_ex h0 | exact idx_map (by assumption) | exact idx_ex (by assumption)) (h5 : 0 ≤ v21 := by omega) (h7 : v2.guard = none := by exact rfl) (h8 : v2.dst = some v10 := by exact rfl) (h9 : v10.blt v6 = true := by exact rfl) : LexK v0 v1 v3 (v2 :: v4) (S.mk v6 v7 v8 v9) v5 v44 := Z28 (a2 := a2) (a6 := a6) (k10 := k10) (h1 := h1) (h3 := h3) (h4 := h4) (h5 := h5) (h7 := h7) (h8 := h8) (h9 := h9)
theorem Y45 (k9 : SeqK v0 v1 v3 v4 (S.mk v5 (upd v7 v6 (iX IntKind.i64 ↑v35.length)) v8 v9)) (h1 : v2.op = Op.call { callee := Callee.builtin Builtin.len, args := #[v13], argTypes := #[v12] } := by exact rfl) (a2 : v0.underlying v12 = some (TypeDesc.slice v22) := by exact facU) (h3 : (S.mk v5 v7 v8 v9).eval v13 = X.c (C.a (A.t (T.sl v34 v16 v35))) := by exact rfl) (h4 : v2.guard = some (v10, v14) := by exact rfl) (h5 : (v1[v10]?.bind fun x ↦ x.dst) = some v15 := by exact rfl) (h6 : v7 v15 = tv (Value.bool v14) := by exact rfl) (h7 : v2.dst = some v6 := by exact rfl) (h8 : v6.blt v5 = true := by exact rfl) : SeqK v0 v1 v3 (v2 :: v4) (S.mk v5 v7 v8 v9) := Z45 (a2 := a2) (k9 := k9) (h1 := h1) (h3 := h3) (h4 := h4) (h5 := h5) (h6 := h6) (h7 := h7) (h8 := h8)
theorem Y44 {r : List A} (k12 : LexK v0 v1 v3 v4 (S.mk v10 v7 (upd v8 v6 (some (AO.box r))) v9) v5 (v44 ++ [(Loc.b v6 :: lk v2, [Loc.b v6])])) (h2 : v2.op = Op.store v12 v13 v23 := by exact rfl) (a4 : tyB v0 v12 v14 v15 = true := by exact facT) (h3 : v2.dst = none := by exact rfl) (h5 : (S.mk v10 v7 v8 v9).eval v13 = X.lp v6 v16 := by exact rfl) (h6 : (S.mk v10 v7 v8 v9).eval v23 = X.c v26 := by exact rfl) (h7 : v8 v6 = some (AO.box v17) := by exact rfl) (h8 : splice v17 v16 v26.cells = r := by exact patL) (h9 : v26.cells.length = v15 := by exact rfl) (h10 : (v16 + v15).ble v17.length = true := by exact rfl) (h11 : v2.guard = none := by exact rfl) : LexK v0 v1 v3 (v2 :: v4) (S.mk v10 v7 v8 v9) v5 v44 := Z44 (r := r) (a4 := a4) (k12 := k12) (h2 := h2) (h3 := h3) (h5 := h5) (h6 := h6) (h7 := h7) (h8 := h8) (h9 := h9) (h10 := h10) (h11 := h11)
theorem Y51 {r : C} (k11 : LexK v0 v1 v3 v4 (S.mk v10 (upd v7 v15 (X.c r)) v8 v9) v5 (v44 ++ [(Loc.b v6 :: lk v2, dstT v2)])) (h2 : v2.op = Op.load v12 v13 := by exact rfl) (a3 : tyB v0 v12 v14 v16 = true := by exact facT) (h4 : (S.mk v10 v7 v8 v9).eval v13 = X.lp v6 v18 := by exact rfl) (h5 : v8 v6 = some (AO.box v17) := by exact rfl) (h6 : mkC v14 (List.take v16 (List.drop v18 v17)) = r := by exact patC) (h7 : (v18 + v16).ble v17.length = true := by exact rfl) (h8 : v2.dst = some v15 := by exact rfl) (h9 : v15.blt v10 = true := by exact rfl) (h10 : v2.guard = none := by exact rfl) : LexK v0 v1 v3 (v2 :: v4) (S.mk v10 v7 v8 v9) v5 v44 := Z51 (r := r) (a3 := a3) (k11 := k11) (h2 := h2) (h4 := h4) (h5 := h5) (h6 := h6) (h7 := h7) (h8 := h8) (h9 := h9) (h10 := h10)
theorem Y59 (k9 : SeqK v0 v1 v3 v4 (S.mk v5 (upd v7 v6 (iX IntKind.i64 ↑v46.size)) v8 v9)) (h1 : v2.op = Op.call { callee := Callee.builtin Builtin.len, args := #[v13], argTypes := #[v12] } := by exact rfl) (a2 : v0.underlying v12 = some TypeDesc.string := by exact facU) (h3 : (S.mk v5 v7 v8 v9).eval v13 = sX v46 := by exact rfl) (h4 : v2.guard = some (v10, v14) := by exact rfl) (h5 : (v1[v10]?.bind fun x ↦ x.dst) = some v15 := by exact rfl) (h6 : v7 v15 = tv (Value.bool v14) := by exact rfl) (h7 : v2.dst = some v6 := by exact rfl) (h8 : v6.blt v5 = true := by exact rfl) : SeqK v0 v1 v3 (v2 :: v4) (S.mk v5 v7 v8 v9) := Z59 (a2 := a2) (k9 := k9) (h1 := h1) (h3 := h3) (h4 := h4) (h5 := h5) (h6 := h6) (h7 := h7) (h8 := h8)
theorem Y54 {a1 : C} (k12 : SeqK v0 v1 v3 v4 (S.mk v5 (upd v7 v6 (X.c a1)) v8 v9)) (h2 : v2.op = Op.load v12 v13 := by exact rfl) (a3 : tyB v0 v12 v28 v16 = true := by exact facT) (h4 : (S.mk v5 v7 v8 v9).eval v13 = X.pc v33 := by exact rfl) (h5 : mkC v28 (List.map A.t (List.take v16 v33)) = a1 := by exact patC) (h6 : v16.ble v33.length = true := by exact rfl) (h7 : v2.guard = some (v10, v14) := by exact rfl) (h8 : (v1[v10]?.bind fun x ↦ x.dst) = some v15 := by exact rfl) (h9 : v7 v15 = tv (Value.bool v14) := by exact rfl) (h10 : v2.dst = some v6 := by exact rfl) (h11 : v6.blt v5 = true := by exact rfl) : SeqK v0 v1 v3 (v2 :: v4) (S.mk v5 v7 v8 v9) := Z54 (a1 := a1) (a3 := a3) (k12 := k12) (h2 := h2) (h4 := h4) (h5 := h5) (h6 := h6) (h7 := h7) (h8 := h8) (h9 := h9) (h10 := h10) (h11 := h11)
theorem Y26 (k10 : SeqK v0 v1 v3 v4 (S.mk v5 (upd v7 v6 (X.c (C.a v11))) v8 v9)) (h1 : v2.op = Op.load v12 v13 := by exact rfl) (a2 : tyB v0 v12 v14 v10 = true := by exact facT) (h3 : (S.mk v5 v7 v8 v9).eval v13 = X.c (C.a (A.bp v15 v16)) := by exact rfl) (h4 : v9 v15 = some (AO.box v17) := by (repeat rw [upd_ne _ _ (by first | assumption | exact Ne.symm (by assumption))]); first | assumption | exact upd_same _ _ _) (h5 : mkC v14 (List.take v10 (List.drop v16 v17)) = C.a v11 := by exact rfl) (h6 : (v16 + v10).ble v17.length = true := by exact rfl) (h7 : v2.dst = some v6 := by exact rfl) (h8 : v6.blt v5 = true := by exact rfl) (h9 : v2.guard = none := by exact rfl) : SeqK v0 v1 v3 (v2 :: v4) (S.mk v5 v7 v8 v9) := Z26 (a2 := a2) (k10 := k10) (h1 := h1) (h3 := h3) (h4 := h4) (h5 := h5) (h6 := h6) (h7 := h7) (h8 := h8) (h9 := h9)
theorem Y60 {r : C} (k13 : SeqK v0 v1 v3 v4 (S.mk v6 (upd v7 v10 (X.c r)) v8 v9)) (h2 : v2.op = Op.load v12 v13 := by exact rfl) (a3 : tyB v0 v12 v28 v18 = true := by exact facT) (h4 : (S.mk v6 v7 v8 v9).eval v13 = X.lp v5 v19 := by exact rfl) (h5 : v8 v5 = some (AO.box v17) := by exact rfl) (h6 : mkC v28 (List.take v18 (List.drop v19 v17)) = r := by exact patC) (h7 : (v19 + v18).ble v17.length = true := by exact rfl) (h8 : v2.dst = some v10 := by exact rfl) (h9 : v10.blt v6 = true := by exact rfl) (h10 : v2.guard = some (v15, v14) := by exact rfl) (h11 : (v1[v15]?.bind fun x ↦ x.dst) = some v16 := by exact rfl) (h12 : v7 v16 = tv (Value.bool v14) := by exact rfl) : SeqK v0 v1 v3 (v2 :: v4) (S.mk v6 v7 v8 v9) := Z60 (r := r) (a3 := a3) (k13 := k13) (h2 := h2) (h4 := h4) (h5 := h5) (h6 := h6) (h7 := h7) (h8 := h8) (h9 := h9) (h10 := h10) (h11 := h11) (h12 := h12)
theorem Y50 (k12 : SeqK v0 v1 v3 v4 (S.mk v5 (upd v7 v6 (X.pc v33)) v8 v9)) (h1 : v2.op = Op.indexAddr v12 v13 v23 := by exact rfl) (a2 : slB v0 v12 v22 v16 = true := by exact facS) (h3 : (S.mk v5 v7 v8 v9).eval v13 = X.c (C.a (A.t (T.sl v34 v16 v35))) := by exact rfl) (h4 : (S.mk v5 v7 v8 v9).eval v23 = iX v20 v21 := by exact rfl) (a6 : v35[v21.toNat]? = some v33 := by first | exact idx_ex hi | exact idx_ex h01 | exact idx_ex h12 | exact idx_map hi | exact idx_map hj | exact idx_ex hj | exact idx_map hnt | exact idx_map h0 | exact idx_map hx | exact idx_map hil | exact idx_map hib | exact idx_map hjl | exact idx_map hv2 | exact idx_map hi2 | exact idx_map hw2 | exact idx_map hmk | exact idx_map hl | exact idx_map h12 | exact idx_map hv | exact idx_map hjc | exact idx_ex hk | exact idx_ex h0 | exact idx_map (by assumption) | exact idx_ex (by assumption)) (h5 : 0 ≤ v21 := by omega) (h7 : v2.guard = some (v10, v14) := by exact rfl) (h8 : (v1[v10]?.bind fun x ↦ x.dst) = some v15 := by exact rfl) (h9 : v7 v15 = tv (Value.bool v14) := by exact rfl) (h10 : v2.dst = some v6 := by exact rfl) (h11 : v6.blt v5 = true := by exact rfl) : SeqK v0 v1 v3 (v2 :: v4) (S.mk v5 v7 v8 v9) := Z50 (a2 := a2) (a6 := a6) (k12 := k12) (h1 := h1) (h3 := h3) (h4 := h4) (h5 := h5) (h7 := h7) (h8 := h8) (h9 := h9) (h10 := h10) (h11 := h11)
theorem Y57 (k11 : SeqK v0 v1 v3 v4 (S.mk v5 v7 v8 (upd v9 v6 (some (AO.box v17))))) (h1 : v2.op = Op.store v12 v13 v23 := by exact rfl) (a3 : tyB v0 v12 v14 v10 = true := by exact facT) (h2 : v2.dst = none := by exact rfl) (h4 : (S.mk v5 v7 v8 v9).eval v13 = X.c (C.a (A.bp v6 v15)) := by exact rfl) (h5 : (S.mk v5 v7 v8 v9).eval v23 = X.c v26 := by exact rfl) (h6 : v9 v6 = some (AO.box v49) := by (repeat rw [upd_ne _ _ (by first | assumption | exact Ne.symm (by assumption))]); first | assumption | exact upd_same _ _ _) (h7 : splice v49 v15 v26.cells = v17 := by exact rfl) (h8 : v26.cells.length = v10 := by exact rfl) (h9 : (v15 + v10).ble v49.length = true := by exact rfl) (h10 : v2.guard = none := by exact rfl) : SeqK v0 v1 v3 (v2 :: v4) (S.mk v5 v7 v8 v9) := Z57 (a3 := a3) (k11 := k11) (h1 := h1) (h2 := h2) (h4 := h4) (h5 := h5) (h6 := h6) (h7 := h7) (h8 := h8) (h9 := h9) (h10 := h10)
theorem G0 {P Q : Prop} (k : Q) (h : Hd Q → P := by intro k; first | exact sB k.1 | exact sM k.1 | exact Z4 k.1 | exact Y1 k.1 | exact Y0 k.1 | exact Z6 k.1 | exact Z7 k.1 | exact Y3 k.1 | exact Z9 k.1 | exact Z2 k.1 | exact Y8 k.1 | exact Z11 k.1 | exact Y5 k.1 | exact Y10 k.1 | exact Y18 k.1 | exact Y13 k.1 | exact Z15 k.1 | exact sA k.1 | exact Y12 k.1 | exact Z14 k.1 | exact Y20 k.1 | exact Y23 k.1 | exact Y19 k.1 | exact Z25 k.1 | exact Y24 k.1 | exact Z29 k.1 | exact Z30 k.1 | exact Z39 k.1 | exact Z31 k.1 | exact Z32 k.1 | exact Z90 k.1 | exact Z38 k.1 | exact Z40 k.1 | exact Y36 k.1 | exact Y47 k.1 | exact Z49 k.1 | exact Z37 k.1 | exact Z41 k.1 | exact Y45 k.1 | exact Z56 k.1 | exact Y59 k.1 | exact Y54 k.1 | exact Z55 k.1 | exact Y26 k.1 | exact Y60 k.1 | exact Y50 k.1 | exact Y57 k.1) : P := h ⟨k⟩
theorem N0 {P Q : Prop} (k : Q) (h : Hd Q → P := by intro k; first | exact Y22 k.1 | exact Y21 k.1 | exact Z27 k.1 | exact Y33 k.1 | exact Z42 k.1 | exact Z43 k.1 | exact Y28 k.1 | exact Z46 k.1 | exact Z91 k.1 | exact Y44 k.1 | exact Y51 k.1) : P := h ⟨k⟩
theorem B1 {P : Program} {Q : Exit → S → Prop} {s : S} {id : Nat} {l : List Oper} {R : Prop} (k : R) (h : Hd R → SeqK P l.toArray (Q .normal) l s := by intro k; exact G0 k.1) : AW P (.region id l.toArray false) Q s := AW.reg (h ⟨k⟩)
theorem B2 {P : Program} {Q : Exit → S → Prop} {s : S} {id : Nat} {l : List Oper} {R : Prop} (k : R) (h : Hd R → SeqK P l.toArray (Q .normal) l s := by intro k; (iterate 1 refine G0 ?_); exact G0 k.1) : AW P (.region id l.toArray false) Q s := AW.reg (h ⟨k⟩)
theorem B3 {P : Program} {Q : Exit → S → Prop} {s : S} {id : Nat} {l : List Oper} {R : Prop} (k : R) (h : Hd R → SeqK P l.toArray (Q .normal) l s := by intro k; (iterate 2 refine G0 ?_); exact G0 k.1) : AW P (.region id l.toArray false) Q s := AW.reg (h ⟨k⟩)
theorem B4 {P : Program} {Q : Exit → S → Prop} {s : S} {id : Nat} {l : List Oper} {R : Prop} (k : R) (h : Hd R → SeqK P l.toArray (Q .normal) l s := by intro k; (iterate 3 refine G0 ?_); exact G0 k.1) : AW P (.region id l.toArray false) Q s := AW.reg (h ⟨k⟩)
theorem B5 {P : Program} {Q : Exit → S → Prop} {s : S} {id : Nat} {l : List Oper} {R : Prop} (k : R) (h : Hd R → SeqK P l.toArray (Q .normal) l s := by intro k; (iterate 4 refine G0 ?_); exact G0 k.1) : AW P (.region id l.toArray false) Q s := AW.reg (h ⟨k⟩)
theorem B6 {P : Program} {Q : Exit → S → Prop} {s : S} {id : Nat} {l : List Oper} {R : Prop} (k : R) (h : Hd R → SeqK P l.toArray (Q .normal) l s := by intro k; (iterate 5 refine G0 ?_); exact G0 k.1) : AW P (.region id l.toArray false) Q s := AW.reg (h ⟨k⟩)
theorem B7 {P : Program} {Q : Exit → S → Prop} {s : S} {id : Nat} {l : List Oper} {R : Prop} (k : R) (h : Hd R → SeqK P l.toArray (Q .normal) l s := by intro k; (iterate 6 refine G0 ?_); exact G0 k.1) : AW P (.region id l.toArray false) Q s := AW.reg (h ⟨k⟩)
theorem B8 {P : Program} {Q : Exit → S → Prop} {s : S} {id : Nat} {l : List Oper} {R : Prop} (k : R) (h : Hd R → SeqK P l.toArray (Q .normal) l s := by intro k; (iterate 7 refine G0 ?_); exact G0 k.1) : AW P (.region id l.toArray false) Q s := AW.reg (h ⟨k⟩)
theorem B9 {P : Program} {Q : Exit → S → Prop} {s : S} {id : Nat} {l : List Oper} {R : Prop} (k : R) (h : Hd R → SeqK P l.toArray (Q .normal) l s := by intro k; (iterate 8 refine G0 ?_); exact G0 k.1) : AW P (.region id l.toArray false) Q s := AW.reg (h ⟨k⟩)
theorem B10 {P : Program} {Q : Exit → S → Prop} {s : S} {id : Nat} {l : List Oper} {R : Prop} (k : R) (h : Hd R → SeqK P l.toArray (Q .normal) l s := by intro k; (iterate 9 refine G0 ?_); exact G0 k.1) : AW P (.region id l.toArray false) Q s := AW.reg (h ⟨k⟩)
theorem B12 {P : Program} {Q : Exit → S → Prop} {s : S} {id : Nat} {l : List Oper} {R : Prop} (k : R) (h : Hd R → SeqK P l.toArray (Q .normal) l s := by intro k; (iterate 11 refine G0 ?_); exact G0 k.1) : AW P (.region id l.toArray false) Q s := AW.reg (h ⟨k⟩)
theorem B14 {P : Program} {Q : Exit → S → Prop} {s : S} {id : Nat} {l : List Oper} {R : Prop} (k : R) (h : Hd R → SeqK P l.toArray (Q .normal) l s := by intro k; (iterate 13 refine G0 ?_); exact G0 k.1) : AW P (.region id l.toArray false) Q s := AW.reg (h ⟨k⟩)
theorem G1 {P Q : Prop} (k : Q) (h : Hd Q → P := by intro k; exact G0 k.1) : P := h ⟨k⟩
theorem G2 {P Q : Prop} (k : Q) (h : Hd Q → P := by intro k; (iterate 1 refine G0 ?_); exact G0 k.1) : P := h ⟨k⟩
theorem G3 {P Q : Prop} (k : Q) (h : Hd Q → P := by intro k; (iterate 2 refine G0 ?_); exact G0 k.1) : P := h ⟨k⟩
theorem G4 {P Q : Prop} (k : Q) (h : Hd Q → P := by intro k; (iterate 3 refine G0 ?_); exact G0 k.1) : P := h ⟨k⟩
theorem G5 {P Q : Prop} (k : Q) (h : Hd Q → P := by intro k; (iterate 4 refine G0 ?_); exact G0 k.1) : P := h ⟨k⟩
theorem G6 {P Q : Prop} (k : Q) (h : Hd Q → P := by intro k; (iterate 5 refine G0 ?_); exact G0 k.1) : P := h ⟨k⟩
theorem G7 {P Q : Prop} (k : Q) (h : Hd Q → P := by intro k; (iterate 6 refine G0 ?_); exact G0 k.1) : P := h ⟨k⟩
theorem G8 {P Q : Prop} (k : Q) (h : Hd Q → P := by intro k; (iterate 7 refine G0 ?_); exact G0 k.1) : P := h ⟨k⟩
theorem G9 {P Q : Prop} (k : Q) (h : Hd Q → P := by intro k; (iterate 8 refine G0 ?_); exact G0 k.1) : P := h ⟨k⟩
theorem N1 {P Q : Prop} (k : Q) (h : Hd Q → P := by intro k; exact N0 k.1) : P := h ⟨k⟩
theorem N2 {P Q : Prop} (k : Q) (h : Hd Q → P := by intro k; (iterate 1 refine N0 ?_); exact N0 k.1) : P := h ⟨k⟩
theorem N3 {P Q : Prop} (k : Q) (h : Hd Q → P := by intro k; (iterate 2 refine N0 ?_); exact N0 k.1) : P := h ⟨k⟩
theorem N4 {P Q : Prop} (k : Q) (h : Hd Q → P := by intro k; (iterate 3 refine N0 ?_); exact N0 k.1) : P := h ⟨k⟩
theorem N5 {P Q : Prop} (k : Q) (h : Hd Q → P := by intro k; (iterate 4 refine N0 ?_); exact N0 k.1) : P := h ⟨k⟩
theorem N6 {P Q : Prop} (k : Q) (h : Hd Q → P := by intro k; (iterate 5 refine N0 ?_); exact N0 k.1) : P := h ⟨k⟩
theorem N7 {P Q : Prop} (k : Q) (h : Hd Q → P := by intro k; (iterate 6 refine N0 ?_); exact N0 k.1) : P := h ⟨k⟩
theorem N8 {P Q : Prop} (k : Q) (h : Hd Q → P := by intro k; (iterate 7 refine N0 ?_); exact N0 k.1) : P := h ⟨k⟩
theorem N10 {P Q : Prop} (k : Q) (h : Hd Q → P := by intro k; (iterate 9 refine N0 ?_); exact N0 k.1) : P := h ⟨k⟩
theorem N11 {P Q : Prop} (k : Q) (h : Hd Q → P := by intro k; (iterate 10 refine N0 ?_); exact N0 k.1) : P := h ⟨k⟩
theorem D1 {P : Program} {Q : Exit → S → Prop} {s : S} {cd : Code} {id : Nat} {l : List Oper} {R : Prop} (k : R) (h : Hd R → SeqK P l.toArray ((Eth (AW P cd Q) Q) .normal) l s := by intro k; exact G0 k.1) : AW P (.seq (.region id l.toArray false) cd) Q s := sR (h ⟨k⟩)
theorem D2 {P : Program} {Q : Exit → S → Prop} {s : S} {cd : Code} {id : Nat} {l : List Oper} {R : Prop} (k : R) (h : Hd R → SeqK P l.toArray ((Eth (AW P cd Q) Q) .normal) l s := by intro k; (iterate 1 refine G0 ?_); exact G0 k.1) : AW P (.seq (.region id l.toArray false) cd) Q s := sR (h ⟨k⟩)
theorem D3 {P : Program} {Q : Exit → S → Prop} {s : S} {cd : Code} {id : Nat} {l : List Oper} {R : Prop} (k : R) (h : Hd R → SeqK P l.toArray ((Eth (AW P cd Q) Q) .normal) l s := by intro k; (iterate 2 refine G0 ?_); exact G0 k.1) : AW P (.seq (.region id l.toArray false) cd) Q s := sR (h ⟨k⟩)
theorem D4 {P : Program} {Q : Exit → S → Prop} {s : S} {cd : Code} {id : Nat} {l : List Oper} {R : Prop} (k : R) (h : Hd R → SeqK P l.toArray ((Eth (AW P cd Q) Q) .normal) l s := by intro k; (iterate 3 refine G0 ?_); exact G0 k.1) : AW P (.seq (.region id l.toArray false) cd) Q s := sR (h ⟨k⟩)
theorem D5 {P : Program} {Q : Exit → S → Prop} {s : S} {cd : Code} {id : Nat} {l : List Oper} {R : Prop} (k : R) (h : Hd R → SeqK P l.toArray ((Eth (AW P cd Q) Q) .normal) l s := by intro k; (iterate 4 refine G0 ?_); exact G0 k.1) : AW P (.seq (.region id l.toArray false) cd) Q s := sR (h ⟨k⟩)
theorem D6 {P : Program} {Q : Exit → S → Prop} {s : S} {cd : Code} {id : Nat} {l : List Oper} {R : Prop} (k : R) (h : Hd R → SeqK P l.toArray ((Eth (AW P cd Q) Q) .normal) l s := by intro k; (iterate 5 refine G0 ?_); exact G0 k.1) : AW P (.seq (.region id l.toArray false) cd) Q s := sR (h ⟨k⟩)
theorem D7 {P : Program} {Q : Exit → S → Prop} {s : S} {cd : Code} {id : Nat} {l : List Oper} {R : Prop} (k : R) (h : Hd R → SeqK P l.toArray ((Eth (AW P cd Q) Q) .normal) l s := by intro k; (iterate 6 refine G0 ?_); exact G0 k.1) : AW P (.seq (.region id l.toArray false) cd) Q s := sR (h ⟨k⟩)
theorem D8 {P : Program} {Q : Exit → S → Prop} {s : S} {cd : Code} {id : Nat} {l : List Oper} {R : Prop} (k : R) (h : Hd R → SeqK P l.toArray ((Eth (AW P cd Q) Q) .normal) l s := by intro k; (iterate 7 refine G0 ?_); exact G0 k.1) : AW P (.seq (.region id l.toArray false) cd) Q s := sR (h ⟨k⟩)
theorem D9 {P : Program} {Q : Exit → S → Prop} {s : S} {cd : Code} {id : Nat} {l : List Oper} {R : Prop} (k : R) (h : Hd R → SeqK P l.toArray ((Eth (AW P cd Q) Q) .normal) l s := by intro k; (iterate 8 refine G0 ?_); exact G0 k.1) : AW P (.seq (.region id l.toArray false) cd) Q s := sR (h ⟨k⟩)
theorem D11 {P : Program} {Q : Exit → S → Prop} {s : S} {cd : Code} {id : Nat} {l : List Oper} {R : Prop} (k : R) (h : Hd R → SeqK P l.toArray ((Eth (AW P cd Q) Q) .normal) l s := by intro k; (iterate 10 refine G0 ?_); exact G0 k.1) : AW P (.seq (.region id l.toArray false) cd) Q s := sR (h ⟨k⟩)
theorem D17 {P : Program} {Q : Exit → S → Prop} {s : S} {cd : Code} {id : Nat} {l : List Oper} {R : Prop} (k : R) (h : Hd R → SeqK P l.toArray ((Eth (AW P cd Q) Q) .normal) l s := by intro k; (iterate 16 refine G0 ?_); exact G0 k.1) : AW P (.seq (.region id l.toArray false) cd) Q s := sR (h ⟨k⟩)
end
end Go.Proofs.YtgnnjebfoffphaaGreatDoor.E
namespace Go.Proofs.YtgnnjebfoffphaaGreatDoor.W
open Fx
open Go.RowKit E M
theorem wK {s : S} (N : Nat) {l : List (Nat × X)} {ll : List (Nat × AO)} {H : Heap} (hn : s.n = N := by exact rfl) (ht : keepT s.t l := by repeat first | exact trivial | refine ⟨rfl, ?_⟩) (hL : keepL s.L ll := by repeat first | exact trivial | refine ⟨rfl, ?_⟩) (hH : ∀ k o, H k = some o → s.H k = some o := by exact fun _ _ h => h) (hok : okLoc l ll = true := by exact rfl) : Wk s ⟨N, sp l, lv ll, H⟩ := Wk.keep N l ll H hn ht hL hH hok
theorem sQ {P : Program} {all : Array Oper} {o : Oper} {K : S → Prop} {rest : List Oper} {n d : Nat} {t : Nat → X} {L : Nat → Option AO} {H : Heap} {x : X} (h : QV P o ⟨n, t, L, H⟩ x) (k : SeqK P all K rest ⟨n, upd t d x, L, H⟩) (hg : o.guard = none := by exact rfl) (hdst : o.dst = some d := by exact rfl) (hd : Nat.blt d n = true := by exact rfl) : SeqK P all K (o :: rest) ⟨n, t, L, H⟩ := SeqK.q h hg hdst hd k
theorem sO {P : Program} {all : Array Oper} {o : Oper} {K : S → Prop} {rest : List Oper} {n d j i : Nat} {b : Bool} {t : Nat → X} {L : Nat → Option AO} {H : Heap} {x : X} (h : QV P o ⟨n, t, L, H⟩ x) (k : SeqK P all K rest ⟨n, upd t d x, L, H⟩) (hg : o.guard = some (j, b) := by exact rfl) (hj : (all[j]?).bind (·.dst) = some i := by exact rfl) (hb : t i = tv (.bool b) := by exact rfl) (hdst : o.dst = some d := by exact rfl) (hd : Nat.blt d n = true := by exact rfl) : SeqK P all K (o :: rest) ⟨n, t, L, H⟩ := SeqK.on h hg hj hb hdst hd k
theorem lQ {P : Program} {all : Array Oper} {o : Oper} {K : S → Prop} {rest : List Oper} {n d p : Nat} {fp : List Fp} {t : Nat → X} {L : Nat → Option AO} {H : Heap} {x : X} (h : QV P o ⟨n, t, L, H⟩ x) (k : LexK P all K rest ⟨n, upd t d x, L, H⟩ p (fp ++ [(lookT all o, dstT o)])) (hg : o.guard = none := by exact rfl) (hdst : o.dst = some d := by exact rfl) (hd : Nat.blt d n = true := by exact rfl) : LexK P all K (o :: rest) ⟨n, t, L, H⟩ p fp := LexK.q h hg hdst hd k
theorem lO {P : Program} {all : Array Oper} {o : Oper} {K : S → Prop} {rest : List Oper} {n d p j i : Nat} {b : Bool} {fp : List Fp} {t : Nat → X} {L : Nat → Option AO} {H : Heap} {x : X} (h : QV P o ⟨n, t, L, H⟩ x) (k : LexK P all K rest ⟨n, upd t d x, L, H⟩ p (fp ++ [(lookT all o, dstT o)])) (hg : o.guard = some (j, b) := by exact rfl) (hj : (all[j]?).bind (·.dst) = some i := by exact rfl) (hb : t i = tv (.bool b) := by exact rfl) (hdst : o.dst = some d := by exact rfl) (hd : Nat.blt d n = true := by exact rfl) : LexK P all K (o :: rest) ⟨n, t, L, H⟩ p fp := LexK.on h hg hj hb hdst hd k
abbrev nA : A := .t (.v (.slice none 0 0))
abbrev zI : A := .t (.v (.int .i64 0))
abbrev zS : A := .t (.v (.string ⟨#[]⟩))
abbrev nX (i : Nat) : X := iX .i64 (i : Int)
theorem oI {α β : Type} {f : α → β} {l : List α} {i : Nat} (h : (i : Int) < ((l.map f).length : Int)) : i < l.length := by rw [qA] at h; omega
theorem oE {α β : Type} {f : α → β} {l : List α} {i : Nat} (h : ¬ (i : Int) < ((l.map f).length : Int)) (h0 : i ≤ l.length) : i = l.length := by rw [qA] at h; omega
theorem fE {s : S} {H : Heap} {fn : Func} {P : Program} {z w : C} (h : Res P s fn.results.toList [z] := by exact .tmp rfl .nil) (e : X.c z = .c w) (hh : s.H = H := by exact rfl) : Fin P fn (fun y H' => y = .c w ∧ H' = H) .ret s := f1 h ⟨e, hh⟩
abbrev Pu := Pure Tryz.prog
abbrev iC (n : Int) : C := .a (.t (.v (.int .i64 n)))
abbrev u64C (n : Nat) : C := .a (.t (.v (.int .u64 (n : Int))))
abbrev bC (b : Bool) : C := .a (.t (.v (.bool b)))
abbrev sC (s : ByteArray) : C := .a (.t (.v (.string s)))
abbrev i64T (n : Int) : List E.T := [.v (.int .i64 n)]
abbrev iL (z : Nz) (l : List Int) : C := .a (.t (.sl z 1 (l.map i64T)))
theorem w64 {n : Int} (h : -9223372036854775808 ≤ n) (h' : n ≤ 9223372036854775807) : IntKind.i64.wrap n = n := IntWalk.i64_in n ⟨h, h'⟩
theorem wu64 {n : Int} (h : 0 ≤ n) (h' : n < 18446744073709551616) : IntKind.u64.wrap n = n := by
  simp only [IntKind.wrap, IntKind.bits, IntKind.signed, Bool.false_and, Bool.false_eq_true, if_false]; omega
theorem wu64n {n : Int} (h : n < 0) (h' : -18446744073709551616 ≤ n) : IntKind.u64.wrap n = n + 18446744073709551616 := by
  simp only [IntKind.wrap, IntKind.bits, IntKind.signed, Bool.false_and, Bool.false_eq_true, if_false]; omega
abbrev R64 (n : Int) : Prop := -9223372036854775808 ≤ n ∧ n ≤ 9223372036854775807
mutual
def tmT : Tm → List E.T
  | .mk c ps => [.v (.int .i64 c), .sl .un 5 (ptsT ps)]
def ptsT : List Pt → List (List E.T)
  | [] => []
  | p :: r => ptT' p :: ptsT r
def ptT' : Pt → List E.T
  | .mk a k v b of => [.v (.int .i64 a), .v (.int .i64 k), .v (.int .i64 v), .v (.int .i64 b), .sl .un 2 (tmsT of)]
def tmsT : List Tm → List (List E.T)
  | [] => []
  | t :: r => tmT t :: tmsT r
end
theorem tmsT_map : ∀ l, tmsT l = l.map tmT
  | [] => rfl
  | t :: r => by rw [tmsT, tmsT_map r, qL]
abbrev ptT (p : Pt) : List E.T := [.v (.int .i64 p.coef), .v (.int .i64 p.kind), .v (.int .i64 p.var), .v (.int .i64 p.dv), .sl .un 2 (p.of.map tmT)]
theorem ptT_eq (p : Pt) : ptT' p = ptT p := by cases p; rw [ptT', tmsT_map]
theorem ptsT_map : ∀ l, ptsT l = l.map ptT
  | [] => rfl
  | p :: r => by rw [ptsT, ptsT_map r, ptT_eq, qL]
abbrev tmL (t : Tm) : List E.T := [.v (.int .i64 t.c), .sl .un 5 (t.ps.map ptT)]
theorem tmT_eq (t : Tm) : tmT t = tmL t := by cases t; rw [tmT, ptsT_map]
abbrev ptC (p : Pt) : C := .g [.t (.v (.int .i64 p.coef)), .t (.v (.int .i64 p.kind)), .t (.v (.int .i64 p.var)), .t (.v (.int .i64 p.dv)), .t (.sl .un 2 (p.of.map tmT))]
abbrev tmC (t : Tm) : C := .g [.t (.v (.int .i64 t.c)), .t (.sl .un 5 (t.ps.map ptT))]
theorem idx_map {α : Type} {f : α → List E.T} {l : List α} {i : Nat} (h : i < l.length) : (l.map f)[i]? = some (f l[i]) := by rw [qR, qF h]; rfl
theorem idx_tm {l : List Tm} {i : Nat} (h : i < l.length) : (l.map tmT)[i]? = some (tmL l[i]) := by rw [qR, qF h, Option.map_some, tmT_eq]
theorem tdiv_np {a b : Int} (ha : a ≤ 0) (hb : 0 ≤ b) : a.tdiv b ≤ 0 := by
  have := Int.tdiv_nonneg (a := -a) (b := b) (by omega) hb
  rw [Int.neg_tdiv] at this; omega
theorem tdiv_mul {a b : Int} (hb : 1 ≤ b) : (a.tdiv b * b).natAbs ≤ a.natAbs ∧ (a.tmod b < 0 ↔ a.tdiv b * b > a) ∧ (a < 0 → a.tdiv b * b ≤ 0) := by
  have h0 : a < 0 → a.tdiv b * b ≤ 0 := fun h => by
    have := Int.mul_le_mul_of_nonneg_right (tdiv_np (a := a) (b := b) (by omega) (by omega)) (show 0 ≤ b by omega)
    omega
  have h1 := Int.tdiv_mul_add_tmod a b
  have h2 : (a.tdiv b * b).natAbs = a.natAbs / b.natAbs * b.natAbs := by rw [Int.natAbs_mul, Int.natAbs_tdiv]; rfl
  have h3 := Nat.div_mul_le_self a.natAbs b.natAbs
  refine ⟨by omega, by omega, h0⟩
theorem tdiv_R {a b : Int} (hb : 1 ≤ b) (ha : R64 a) : -9223372036854775808 ≤ a.tdiv b ∧ a.tdiv b ≤ 9223372036854775807 ∧ (a.tdiv b * b > a → -9223372036854775808 < a.tdiv b) := by
  have h1 : (a.tdiv b).natAbs = a.natAbs / b.natAbs := Int.natAbs_tdiv _ _
  have h2 := Nat.div_le_self a.natAbs b.natAbs
  have h3 := (tdiv_mul (a := a) hb).1
  refine ⟨by omega, ?_, fun h => ?_⟩
  · by_cases h : a < 0
    · have := tdiv_np (a := a) (b := b) (by omega) (by omega); omega
    · omega
  · by_cases h4 : a < 0
    · by_cases h5 : b < 2
      · have : b = 1 := by omega
        subst this; simp at h
      · have : a.natAbs / b.natAbs < a.natAbs := Nat.div_lt_self (by omega) (by omega)
        omega
    · have := Int.tdiv_nonneg (a := a) (b := b) (by omega) (show 0 ≤ b by omega); omega
theorem tdiv_floor {a b : Int} (hb : 1 ≤ b) : (a.tdiv b * b > a → a.tdiv b - 1 = a / b) ∧ (¬ a.tdiv b * b > a → a.tdiv b = a / b) := by
  have h1 := Int.tdiv_mul_add_tmod a b
  have h2 := Int.ediv_mul_add_emod a b
  have h3 := Int.emod_nonneg a (show b ≠ 0 by omega)
  have h4 := Int.emod_lt_of_pos a (show 0 < b by omega)
  have h5 := Int.tmod_lt_of_pos a (show 0 < b by omega)
  have h6 : -b < a.tmod b := by
    have := Int.lt_tmod_of_pos a (show 0 < b by omega)
    omega
  refine ⟨fun h => ?_, fun h => ?_⟩
  · refine (Int.ediv_eq_iff_of_pos (show 0 < b by omega)).2 ⟨?_, ?_⟩ |>.symm <;> grind
  · refine (Int.ediv_eq_iff_of_pos (show 0 < b by omega)).2 ⟨?_, ?_⟩ |>.symm <;> grind
theorem abs_any (n : Int) (hn : R64 n) : Pu 197 [iC n] (.c (u64C n.natAbs)) := by
 intro H
 refine Spec.enter Tryz.func197 rfl ?_
 refine AW.wk (wK 10 (l := [(0, .c (iC n))]) (ll := []) (H := (H))) ?_
 refine D1 ?_
 refine AW.seq (D3 ?_)
 refine cD ?_ ?_ <;> intro h4
 ·
  refine D1 ?_
  refine sQ (q_conv _ rfl un232 rfl (wu64n h4 (by omega)) ⟨_, un2⟩) ?_
  refine sQ (q_neg _ rfl rfl ((by rw [wu64n (by omega) (by omega)]; omega : IntKind.u64.wrap _ = ((n.natAbs : Nat) : Int)))) ?_
  refine sB ?_
  exact aR (fin_x (x := .c _) H (.tmp rfl .nil) rfl (fun _ _ h => h) ⟨rfl, rfl⟩)
 refine AW.skip (D1 ?_)
 refine sQ (q_conv _ rfl un232 rfl ((by rw [wu64 (by omega) (by omega)]; omega : IntKind.u64.wrap _ = ((n.natAbs : Nat) : Int))) ⟨_, un2⟩) ?_
 refine sB ?_
 exact aR (fin_x (x := .c _) H (.tmp rfl .nil) rfl (fun _ _ h => h) ⟨rfl, rfl⟩)
theorem floor_any (a b : Int) (hn : R64 a) (hb : 1 ≤ b) : Pu 216 [iC a, iC b] (.c (iC (a / b))) := by
 intro H
 refine Spec.enter Tryz.func216 rfl ?_
 refine AW.wk (wK 16 (l := [(0, .c (iC a)), (1, .c (iC b))]) (ll := []) (H := (H))) ?_
 refine D1 ?_
 refine AW.seq ?_
 have hb1 : (0:Int) < b := by omega
 have hq := tdiv_floor (a := a) hb
 have hm := tdiv_mul (a := a) hb
 have hd := tdiv_R (a := a) hb hn
 refine B2 ?_
 refine sQ (q_quo _ rfl rfl rfl (by omega) (w64 (by omega) (by omega))) ?_
 refine sB ?_
 refine AW.seq (D2 ?_)
 refine sQ (q_rem rfl rfl rfl (by omega)) ?_
 refine G2 ?_
 refine cD ?_ ?_ <;> intro h12
 ·
  refine B1 ?_
  refine sQ (q_sub _ rfl rfl rfl (w64 (by omega) (by omega))) ?_
  refine sB ?_
  refine D2 ?_
  exact aR (f1 (q := ⟨by rw [hq.1 (by omega)], rfl⟩))
 refine AW.skip (D2 ?_)
 exact aR (f1 (q := ⟨by rw [hq.2 (by omega)], rfl⟩))
theorem nan2_any (a : Int) : Pu 248 [iC a] (.c (bC false)) := by
 intro H
 refine Spec.enter Tryz.func248 rfl ?_
 refine AW.wk (wK 6 (l := [(0, .c (iC a))]) (ll := []) (H := (H))) ?_
 refine D1 ?_
 refine D4 ?_
 exact aR (f1 (q := ⟨by simp, rfl⟩))
theorem nan3_any (a : Int) : Pu 247 [iC a] (.c (bC false)) := by
 intro H
 refine Spec.enter Tryz.func247 rfl ?_
 refine AW.wk (wK 6 (l := [(0, .c (iC a))]) (ll := []) (H := (H))) ?_
 refine D1 ?_
 refine D4 ?_
 exact aR (f1 (q := ⟨by simp, rfl⟩))
theorem cmp2_any (a b : Int) : Pu 231 [iC a, iC b] (.c (iC (ints a b))) := by
 intro H
 refine Spec.enter Tryz.func231 rfl ?_
 refine AW.wk (wK 20 (l := [(0, .c (iC a)), (1, .c (iC b))]) (ll := []) (H := (H))) ?_
 refine D1 ?_
 refine D1 ?_
 refine Z16 fn248 (nan2_any _) ?_
 refine sB ?_
 refine D1 ?_
 refine Z16 fn248 (nan2_any _) ?_
 refine sB ?_
 refine AW.seq (D2 ?_)
 refine AW.condF rfl ?_
 refine AW.skip (AW.seq (D2 ?_))
 refine AW.condF rfl ?_
 refine AW.skip (AW.seq (D4 ?_))
 refine cD ?_ ?_ <;> intro h16
 ·
  refine D1 ?_
  exact aR (f1 (q := ⟨by simp [ints, *], rfl⟩))
 refine AW.skip (AW.seq (D4 ?_))
 refine cD ?_ ?_ <;> intro h19
 ·
  refine D1 ?_
  exact aR (f1 (q := ⟨by simp [ints, *], rfl⟩))
 refine AW.skip (D1 ?_)
 exact aR (f1 (q := ⟨by simp [ints, *], rfl⟩))
theorem cmp3_any (a b : Int) : Pu 230 [iC a, iC b] (.c (iC (ints a b))) := by
 intro H
 refine Spec.enter Tryz.func230 rfl ?_
 refine AW.wk (wK 20 (l := [(0, .c (iC a)), (1, .c (iC b))]) (ll := []) (H := (H))) ?_
 refine D1 ?_
 refine D1 ?_
 refine Z16 fn247 (nan3_any _) ?_
 refine sB ?_
 refine D1 ?_
 refine Z16 fn247 (nan3_any _) ?_
 refine sB ?_
 refine AW.seq (D2 ?_)
 refine AW.condF rfl ?_
 refine AW.skip (AW.seq (D2 ?_))
 refine AW.condF rfl ?_
 refine AW.skip (AW.seq (D4 ?_))
 refine cD ?_ ?_ <;> intro h16
 ·
  refine D1 ?_
  exact aR (f1 (q := ⟨by simp [ints, *], rfl⟩))
 refine AW.skip (AW.seq (D4 ?_))
 refine cD ?_ ?_ <;> intro h19
 ·
  refine D1 ?_
  exact aR (f1 (q := ⟨by simp [ints, *], rfl⟩))
 refine AW.skip (D1 ?_)
 exact aR (f1 (q := ⟨by simp [ints, *], rfl⟩))
theorem take_zero_step {l : List Int} {i : Nat} (h : i < l.length) (h0 : ∀ x ∈ l.take i, x = 0) (hi : l[i] = 0) : ∀ x ∈ l.take (i + 1), x = 0 := by
  rw [qJ h]
  intro x hx
  rcases jC.1 hx with h1 | h1
  · exact h0 x h1
  · simp at h1; rw [h1]; exact hi
theorem or_any (l : List Int) (z : Nz) (hl : l.length ≤ 1000) : Pu 229 [iL z l] (.c (iC (orI l))) := by
 intro H
 refine Spec.enter Tryz.func229 rfl ?_
 refine AW.wk (wK 18 (l := [(0, .c (iL z l))]) (ll := []) (H := (H))) ?_
 refine D1 ?_
 refine D1 ?_
 refine AW.seq (D4 ?_)
 refine AW.block (AW.loop (fun (i : Nat) s => (i ≤ l.length ∧ ∀ x ∈ l.take i, x = 0) ∧ s = ⟨18, sp [(3, .c (iC 0)), (6, .c (iL z l)), (7, iX .i64 (((l.map i64T).length : Nat) : Int)), (8, nX i)], lv [], H⟩) (fun i => l.length - i) 0 ⟨_, by exact wK 18, ⟨qZ _, by simp⟩, rfl⟩ (fun i s hs => ?_))
 obtain ⟨⟨hi0, h0⟩, rfl⟩ := hs
 refine D2 ?_
 refine AW.seq ?_
 refine cD ?_ ?_ <;> intro h9
 ·
  have hi : i < l.length := by simpa using h9
  refine AW.skip (AW.seq (AW.block (D3 ?_)))
  refine D4 ?_
  refine cD ?_ ?_ <;> intro h14
  ·
   refine D2 ?_
   exact aR (f1 (q := ⟨by rw [orI_at hi h0 h14], rfl⟩))
  refine AW.skip (B3 ?_)
  exact ⟨i + 1, _, by exact wK 18, by omega, ⟨hi, take_zero_step hi h0 (qY.1 h14)⟩, rfl⟩
 refine AW.exit ?_
 refine eth_e ?_
 refine eth_e ?_
 refine exit_here ?_
 refine D2 ?_
 exact aR (f1 (q := ⟨by rw [orI_none]; intro x hx; exact h0 x (by rw [qU (by simp at h9; omega)]; exact hx), rfl⟩))
theorem cmpP_prog {p q : Pt} (hp : finP p) (hq : finP q) :
    (orI [ints p.kind q.kind, ints p.var q.var, ints p.dv q.dv] ≠ 0 → cmpP p q = orI [ints p.kind q.kind, ints p.var q.var, ints p.dv q.dv]) ∧
    (orI [ints p.kind q.kind, ints p.var q.var, ints p.dv q.dv] = 0 → cmpP p q = cmpO p.of q.of ∧ (p.of = [] ↔ q.of = [])) := by
  rw [cmpP_eq]
  rw [finP_eq] at hp hq
  simp only [orI]
  by_cases h1 : p.kind = q.kind
  · by_cases h2 : p.var = q.var
    · by_cases h3 : p.dv = q.dv
      · simp [h1, h2, h3, ints_zero.2, hp.1, hq.1]
      · have := mt ints_zero.1 h3
        simp [h1, h2, h3, ints_zero.2, this]
    · have := mt ints_zero.1 h2
      simp [h1, h2, ints_zero.2, this]
  · have := mt ints_zero.1 h1
    simp [h1, this]
abbrev cP (p q : Pt) : Int := orI [ints p.kind q.kind, ints p.var q.var, ints p.dv q.dv]
theorem cmpP_c {p q : Pt} (hp : finP p) (hq : finP q) (h : cP p q ≠ 0 ∨ (p.of.length : Int) = 0 ∨ (q.of.length : Int) = 0) : cmpP p q = cP p q := by
  have hc := cmpP_prog hp hq
  by_cases h0 : cP p q = 0
  · rw [(hc.2 h0).1, h0]
    have h1 : p.of = [] := by
      rcases h with h | h | h
      · exact absurd h0 h
      · exact List.eq_nil_of_length_eq_zero (by omega)
      · exact (hc.2 h0).2.2 (List.eq_nil_of_length_eq_zero (by omega))
    rw [h1, (hc.2 h0).2.1 h1, cmpO]
  · exact hc.1 h0
theorem cmpO_at : ∀ {a b : List Tm} (ha : 0 < a.length) (hb : 0 < b.length), cmpO a b = cmpT a[0] b[0]
  | o :: r, o2 :: r2, _, _ => by simp [cmpO]
theorem cmpP_o {p q : Pt} (hp : finP p) (hq : finP q) (h : cP p q = 0) (hp0 : 0 < p.of.length) (hq0 : 0 < q.of.length) : cmpP p q = cmpT p.of[0] q.of[0] := by
  rw [((cmpP_prog hp hq).2 h).1]
  exact cmpO_at hp0 hq0
theorem cmpPart_of (p q : Pt) (hp : finP p) (hq : finP q) (ih : ∀ o ∈ p.of, ∀ b ∈ q.of, Pu 232 [tmC o, tmC b] (.c (iC (cmpT o b)))) : Pu 215 [ptC p, ptC q] (.c (iC (cmpP p q))) := by
 intro H
 refine Spec.enter Tryz.func215 rfl ?_
 refine AW.wk (wK 47 (l := [(0, .c (ptC p)), (1, .c (ptC q))]) (ll := []) (H := (H))) ?_
 refine D3 ?_
 refine AW.seq (AW.draw mo ?_)
 refine N4 ?_
 refine Z35 fn230 (cmp3_any _ _) ?_
 refine N4 ?_
 refine Z35 fn230 (cmp3_any _ _) ?_
 refine N4 ?_
 refine Z35 fn231 (cmp2_any _ _) ?_
 refine lQ (q_buildSlice _ rfl el43 rfl (by decide) rfl) ?_
 refine lQ (q_call _ rfl fn229 rfl (or_any [ints p.kind q.kind, ints p.var q.var, ints p.dv q.dv] .nn (by simp)) rfl) ?_
 refine N2 ?_
 refine AW.seq (AW.seq ?_)
 obtain ⟨cc, hcc⟩ : ∃ cc, cc = cP p q := ⟨_, rfl⟩
 refine B2 ?_
 refine Z17 ?_ ?_ <;> intro g25
 ·
  iterate 4 refine oF ?_
  refine G2 ?_
  iterate 4 refine oF ?_
  refine G2 ?_
  refine AW.condT rfl ?_
  refine D2 ?_
  exact aR (f1 (q := ⟨by rw [cmpP_c hp hq (by first | exact .inl (by assumption) | (simp only [qA] at *; omega))], rfl⟩))
 refine G5 ?_
 refine Z17 ?_ ?_ <;> intro g31
 ·
  iterate 4 refine oF ?_
  refine G2 ?_
  refine AW.condT rfl ?_
  refine D2 ?_
  exact aR (f1 (q := ⟨by rw [cmpP_c hp hq (by first | exact .inl (by assumption) | (simp only [qA] at *; omega))], rfl⟩))
 refine G6 ?_
 refine cD ?_ ?_ <;> intro h36
 ·
  refine D2 ?_
  exact aR (f1 (q := ⟨by rw [cmpP_c hp hq (by first | exact .inl (by assumption) | (simp only [qA] at *; omega))], rfl⟩))
 refine AW.skip (AW.seq ?_)
 have hp0 : 0 < p.of.length := by rw [qA] at g31; omega
 have hq0 : 0 < q.of.length := by rw [qA] at h36; omega
 refine AW.draw mo ?_
 refine N2 ?_
 refine Z28 sl217 (idx_tm hp0) ?_
 refine N3 ?_
 refine Z28 sl217 (idx_tm hq0) ?_
 refine N1 ?_
 refine Z35 fn232 (ih _ (qC hp0) _ (qC hq0)) ?_
 refine N2 ?_
 exact aR (f1 (q := ⟨by rw [cmpP_o hp hq (by first | omega | simp_all) hp0 hq0], rfl⟩))
theorem or2 {x y : Int} : orI [x, y] = if x ≠ 0 then x else y := by
  by_cases h : x = 0 <;> by_cases h2 : y = 0 <;> simp [orI, h, h2]
theorem cmp_stop {a b : Tm} {i : Nat} (hi : i < a.ps.length) (hj : i < b.ps.length) (hI : cmpL (a.ps.drop i) (b.ps.drop i) (ints a.c b.c) = cmpT a b) (h : orI [cmpP a.ps[i] b.ps[i], ints a.ps[i].coef b.ps[i].coef] ≠ 0) : cmpT a b = orI [cmpP a.ps[i] b.ps[i], ints a.ps[i].coef b.ps[i].coef] := by
  rw [← hI, cmpL_step hi hj, or2]
  rw [or2] at h
  by_cases h1 : cmpP a.ps[i] b.ps[i] = 0
  · simp only [h1, ne_eq, not_true_eq_false, if_false] at h ⊢
    rw [if_pos (fun e => h (ints_zero.2 e))]
  · rw [if_pos h1, if_pos h1]
theorem cmp_go {a b : Tm} {i : Nat} (hi : i < a.ps.length) (hj : i < b.ps.length) (hI : cmpL (a.ps.drop i) (b.ps.drop i) (ints a.c b.c) = cmpT a b) (h : orI [cmpP a.ps[i] b.ps[i], ints a.ps[i].coef b.ps[i].coef] = 0) : cmpL (a.ps.drop (i + 1)) (b.ps.drop (i + 1)) (ints a.c b.c) = cmpT a b := by
  rw [← hI, cmpL_step hi hj]
  rw [or2] at h
  by_cases h1 : cmpP a.ps[i] b.ps[i] = 0
  · rw [if_neg (by omega)] at h
    rw [if_neg (by omega), if_neg (fun e => e (ints_zero.1 h))]
  · rw [if_pos h1] at h; exact absurd h h1
theorem cmp_end {a b : Tm} {i : Nat} (hi : i ≤ a.ps.length) (hj : i ≤ b.ps.length) (he : i = a.ps.length ∨ i = b.ps.length) (hI : cmpL (a.ps.drop i) (b.ps.drop i) (ints a.c b.c) = cmpT a b) : cmpT a b = orI [ints a.ps.length b.ps.length, ints a.c b.c] := by
  rw [← hI, cmpL_end hi hj he, or2]
  by_cases h1 : (a.ps.length : Int) = b.ps.length
  · rw [if_neg (by omega), if_neg (by rw [ints_zero.2 h1]; simp)]
  · rw [if_pos h1, if_pos (fun e => h1 (ints_zero.1 e))]
abbrev zTm (x : Tm) : List A := [.t (.v (.int .i64 x.c)), .t (.sl .un 5 (x.ps.map ptT))]
theorem cmp_of (a b : Tm) (ha : finT a) (hb : finT b) (hN : a.cnt ≤ 100000) (ih : ∀ p ∈ a.ps, ∀ o ∈ p.of, ∀ q ∈ b.ps, ∀ o2 ∈ q.of, Pu 232 [tmC o, tmC o2] (.c (iC (cmpT o o2)))) : Pu 232 [tmC a, tmC b] (.c (iC (cmpT a b))) := by
 intro H
 refine Spec.enter Tryz.func232 rfl ?_
 refine AW.wk (wK 57 (l := [(0, .c (tmC a)), (1, .c (tmC b))]) (ll := []) (H := (H))) ?_
 refine D3 ?_
 refine AW.seq (AW.seq ?_)
 have hfa := (finT_eq a).1 ha
 have hfb := (finT_eq b).1 hb
 have hla := len_ps a
 obtain ⟨la, hla0⟩ : ∃ la, la = a.ps.length := ⟨_, rfl⟩
 refine B6 ?_
 refine sQ (q_min rfl rfl rfl) ?_
 refine G2 ?_
 refine AW.block (AW.loop (fun (i : Nat) s => ((i ≤ a.ps.length ∧ i ≤ b.ps.length) ∧ cmpL (a.ps.drop i) (b.ps.drop i) (ints a.c b.c) = cmpT a b) ∧ s = ⟨57, sp [(2, .lp 2 0), (3, .lp 3 0), (15, iX .i64 (min (((a.ps.map ptT).length : Nat) : Int) (((b.ps.map ptT).length : Nat) : Int))), (16, nX i)], lv [(2, .box (zTm a)), (3, .box (zTm b))], H⟩) (fun i => a.ps.length - i) 0 ⟨_, by exact wK 57, ⟨⟨qZ _, qZ _⟩, (cmpT_eq a b).symm⟩, rfl⟩ (fun i s hs => ?_))
 obtain ⟨⟨hi0, hI⟩, rfl⟩ := hs
 refine D2 ?_
 refine AW.seq ?_
 refine cD ?_ ?_ <;> intro h17
 rotate_left
 ·
  refine AW.exit ?_
  refine eth_e ?_
  refine eth_e ?_
  refine exit_here ?_
  refine AW.seq (AW.draw mo ?_)
  refine N2 ?_
  refine lQ (q_len rfl un197 rfl) ?_
  refine N2 ?_
  refine lQ (q_len rfl un197 rfl) ?_
  refine Z35 fn230 (cmp3_any _ _) ?_
  refine N4 ?_
  refine Z35 fn231 (cmp2_any _ _) ?_
  refine lQ (q_buildSlice _ rfl el43 rfl (by decide) rfl) ?_
  refine lQ (q_call _ rfl fn229 rfl (or_any [ints ((a.ps.map ptT).length : Nat) ((b.ps.map ptT).length : Nat), ints a.c b.c] .nn (by simp)) rfl) ?_
  refine N2 ?_
  exact aR (f1 (q := ⟨by rw [cmp_end hi0.1 hi0.2 (by rw [qA, qA] at h17; omega) hI, qA, qA], rfl⟩))
 have hij : i < a.ps.length ∧ i < b.ps.length := by rw [qA, qA] at h17; omega
 have hi := hij.1
 have hj := hij.2
 refine AW.skip (AW.seq (AW.block (D2 ?_)))
 refine AW.seq (AW.draw mo ?_)
 refine N10 ?_
 refine LexK.r (b_alloc (r := [_, _, _, _, _]) rfl rfl ze219 rfl rfl rfl rfl) rfl ?_
 refine LexK.r (b_alloc (r := [_, _, _, _, _]) rfl rfl ze219 rfl rfl rfl rfl) rfl ?_
 refine N3 ?_
 refine AW.seq (AW.draw mo ?_)
 refine N2 ?_
 refine Z35 fn215 (cmpPart_of a.ps[i] b.ps[i] (hfa _ (qC hi)) (hfb _ (qC hj)) (fun o ho b2 hb2 => ih _ (qC hi) o ho _ (qC hj) b2 hb2)) ?_
 refine N4 ?_
 refine Z35 fn231 (cmp2_any _ _) ?_
 refine lQ (q_buildSlice _ rfl el43 rfl (by decide) rfl) ?_
 refine lQ (q_call _ rfl fn229 rfl (or_any [cmpP a.ps[i] b.ps[i], ints a.ps[i].coef b.ps[i].coef] .nn (by simp)) rfl) ?_
 refine N2 ?_
 refine D3 ?_
 refine cD ?_ ?_ <;> intro h40
 ·
  refine D2 ?_
  exact aR (f1 (q := ⟨by rw [cmp_stop hi hj hI h40], rfl⟩))
 refine AW.skip (B3 ?_)
 exact ⟨i + 1, _, by exact wK 57, by omega, ⟨⟨hi, hj⟩, cmp_go hi hj hI (qY.1 h40)⟩, rfl⟩
theorem cmp_any (a : Tm) : finT a → a.cnt ≤ 100000 → ∀ b, finT b → Pu 232 [tmC a, tmC b] (.c (iC (cmpT a b))) := by
  induction a using Tm.ind with
  | h a ih =>
    intro ha hN b hb
    exact cmp_of a b ha hb hN fun p hp o ho q hq o2 ho2 => ih p hp o ho (((finP_eq p).1 ((finT_eq a).1 ha p hp)).2 o ho) (by have := cnt_of hp ho; omega) o2 (((finP_eq q).1 ((finT_eq b).1 hb q hq)).2 o2 ho2)
theorem cmpPart_any (p q : Pt) (hp : finP p) (hq : finP q) (hN : p.cnt ≤ 100000) : Pu 215 [ptC p, ptC q] (.c (iC (cmpP p q))) :=
  cmpPart_of p q hp hq fun o ho b hb => cmp_any o (((finP_eq p).1 hp).2 o ho) (by rw [Pt.cnt_eq] at hN; have := cntTs_mem ho; omega) b (((finP_eq q).1 hq).2 b hb)
theorem mul64_any (x y : Nat) (hx : x < 18446744073709551616) (hy : y < 18446744073709551616) : Pu 213 [u64C x, u64C y] (.tup [u64C (x * y / 18446744073709551616), u64C (x * y % 18446744073709551616)]) :=
  Pure.of_calls [.int .u64 (x : Int), .int .u64 (y : Int)] (fun w => Tryz.bits_Mul64 x y hx hy w) fun c => ⟨_, rfl, .cons (.t (.v rfl)) (.cons (.t (.v rfl)) .nil)⟩
theorem times_any (x y : Nat) (hx : x < 18446744073709551616) (hy : y < 18446744073709551616) : Pu 196 [u64C x, u64C y] (.c (u64C (cap (x * y)))) := by
 intro H
 refine Spec.enter Tryz.func196 rfl ?_
 refine AW.wk (wK 20 (l := [(0, .c (u64C x)), (1, .c (u64C y))]) (ll := []) (H := (H))) ?_
 refine D1 ?_
 refine D2 ?_
 refine Z16 fn213 (mul64_any _ _ hx hy) ?_
 refine G5 ?_
 refine AW.seq (D2 ?_)
 refine Z17 ?_ ?_ <;> intro g15
 ·
  iterate 2 refine oF ?_
  refine G2 ?_
  refine AW.condT rfl ?_
  refine D1 ?_
  exact aR (f1 (q := ⟨by rw [show cap (x * y) = 1152921504606846977 by unfold cap; omega]; rfl, rfl⟩))
 refine G4 ?_
 refine cD ?_ ?_ <;> intro h18
 ·
  refine D1 ?_
  exact aR (f1 (q := ⟨by rw [show cap (x * y) = 1152921504606846977 by unfold cap; omega]; rfl, rfl⟩))
 refine AW.skip (D2 ?_)
 exact aR (f1 (q := ⟨by rw [show cap (x * y) = x * y % 18446744073709551616 by unfold cap; omega], rfl⟩))
theorem plus_any (x y : Nat) (hxy : x + y < 18446744073709551616) : Pu 246 [u64C x, u64C y] (.c (u64C (cap (x + y)))) := by
 intro H
 refine Spec.enter Tryz.func246 rfl ?_
 refine AW.wk (wK 20 (l := [(0, .c (u64C x)), (1, .c (u64C y))]) (ll := []) (H := (H))) ?_
 refine D1 ?_
 refine D2 ?_
 refine sQ (q_ext (ex := add64F) (us := [.int .u64 (x : Int), .int .u64 (y : Int), .int .u64 0]) (x := .tup [u64C ((x + y) % 2 ^ 64), u64C ((x + y) / 2 ^ 64)]) rfl rfl Tryz.func253 (by kernel_rfl) (by kernel_rfl) (by kernel_rfl) (by kernel_rfl) (run_add64N x y) (fun c => ⟨_, rfl, .cons (.t (.v rfl)) (.cons (.t (.v rfl)) .nil)⟩) rfl) ?_
 refine G5 ?_
 refine AW.seq (D2 ?_)
 refine Z17 ?_ ?_ <;> intro g15
 ·
  iterate 2 refine oF ?_
  refine G2 ?_
  refine AW.condT rfl ?_
  refine D1 ?_
  exact aR (f1 (q := ⟨by rw [show cap (x + y) = 1152921504606846977 by unfold cap; omega]; rfl, rfl⟩))
 refine G4 ?_
 refine cD ?_ ?_ <;> intro h18
 ·
  refine D1 ?_
  exact aR (f1 (q := ⟨by rw [show cap (x + y) = 1152921504606846977 by unfold cap; omega]; rfl, rfl⟩))
 refine AW.skip (D2 ?_)
 exact aR (f1 (q := ⟨by rw [show cap (x + y) = (x + y) % 2 ^ 64 by unfold cap; omega], rfl⟩))
theorem plusT (t : Tm) (i : Nat) (hi : i < t.ps.length) : Pu 246 [u64C (cap (t.c.natAbs + bndPs (t.ps.take i))), u64C (cap (t.ps[i].coef.natAbs * bndP t.ps[i]))] (.c (u64C (cap (t.c.natAbs + bndPs (t.ps.take (i + 1)))))) := by
  have h := plus_any (cap (t.c.natAbs + bndPs (t.ps.take i))) (cap (t.ps[i].coef.natAbs * bndP t.ps[i])) (by have := cap_le (t.c.natAbs + bndPs (t.ps.take i)); have := cap_le (t.ps[i].coef.natAbs * bndP t.ps[i]); omega)
  rw [cap_add] at h
  rw [bndPs_take hi, ← Nat.add_assoc]; exact h
theorem plus_zero (t : Tm) (h : R64 t.c) : Pu 246 [u64C t.c.natAbs, .a (.t (.v (.int .u64 0)))] (.c (u64C (cap (t.c.natAbs + bndPs (t.ps.take 0))))) := by
  have := plus_any t.c.natAbs 0 (by omega)
  exact this
theorem timesB (p : Pt) (y : Nat) (hy : bndP p = y) (hc : R64 p.coef) (hp : bokP p) : Pu 196 [u64C p.coef.natAbs, u64C y] (.c (u64C (cap (p.coef.natAbs * bndP p)))) := by
  have := bokP_le hp
  subst hy
  exact times_any _ _ (by omega) (by omega)
theorem quoN {x d : Nat} (hx : x ≤ 2 ^ 62) : IntKind.u64.wrap ((x : Int).tdiv (d : Int)) = ((x / d : Nat) : Int) := by
  have h : (x : Int).tdiv (d : Int) = ((x / d : Nat) : Int) := rfl
  have h1 : ((x / d : Nat) : Int) ≤ (x : Int) := by exact_mod_cast Nat.div_le_self x d
  have h0 : (0 : Int) ≤ ((x / d : Nat) : Int) := Int.natCast_nonneg _
  rw [h, wu64 h0 (by omega)]
theorem bound_of (t : Tm) (h : bokT t) (hN : t.cnt ≤ 100000) (ih : ∀ p ∈ t.ps, ∀ o ∈ p.of, vldT o = true → Pu 228 [tmC o] (.c (u64C (cap (bndT o))))) : Pu 228 [tmC t] (.c (u64C (cap (bndT t)))) := by
 intro H
 refine Spec.enter Tryz.func228 rfl ?_
 refine AW.wk (wK 46 (l := [(0, .c (tmC t))]) (ll := []) (H := (H))) ?_
 refine D2 ?_
 refine AW.seq ?_
 have hlt := len_ps t
 refine B2 ?_
 refine sQ (q_call _ rfl fn197 rfl (abs_any _ (by first | exact h.c | exact h.coef _ (qC hi))) rfl) ?_
 refine Z16 fn246 (plus_zero t h.c) ?_
 refine sB ?_
 refine AW.seq (D5 ?_)
 refine AW.block (AW.loop (fun (i : Nat) s => (i ≤ t.ps.length) ∧ s = ⟨46, sp [(3, .c (u64C (cap (t.c.natAbs + bndPs (t.ps.take i))))), (12, .c (.a (.t (.sl .un 5 (t.ps.map ptT))))), (13, iX .i64 (((t.ps.map ptT).length : Nat) : Int)), (14, nX i)], lv [], H⟩) (fun i => t.ps.length - i) 0 ⟨_, by exact wK 46, qZ _, rfl⟩ (fun i s hs => ?_))
 obtain ⟨hi0, rfl⟩ := hs
 refine D2 ?_
 refine AW.seq ?_
 refine cD ?_ ?_ <;> intro h15
 rotate_left
 ·
  refine AW.exit ?_
  refine eth_e ?_
  refine eth_e ?_
  refine exit_here ?_
  refine D2 ?_
  exact aR (f1 (q := ⟨by rw [qA] at h15; rw [bndT_eq, qU (by omega)], rfl⟩))
 have hi := oI h15
 have hb := h.part _ (qC hi)
 refine AW.skip (AW.seq (AW.block (D5 ?_)))
 refine D1 ?_
 refine AW.seq (D3 ?_)
 refine AW.block (D2 ?_)
 refine cD ?_ ?_ <;> intro h20
 ·
  refine B1 ?_
  refine B3 ?_
  refine sQ (q_call _ rfl fn197 rfl (abs_any _ (by first | exact h.c | exact h.coef _ (qC hi))) rfl) ?_
  refine sM ?_
  refine sQ (q_call _ rfl fn196 rfl (timesB _ 16 (by rw [bndP_eq, if_pos h20]) (h.coef _ (qC hi)) hb) rfl) ?_
  refine Z16 fn246 (plusT t i hi) ?_
  refine sB ?_
  refine B3 ?_
  exact ⟨i + 1, _, by exact wK 46, by omega, hi, rfl⟩
 refine D2 ?_
 refine cD ?_ ?_ <;> intro h22
 rotate_left
 ·
  refine AW.skip (B3 ?_)
  refine sQ (q_call _ rfl fn197 rfl (abs_any _ (by first | exact h.c | exact h.coef _ (qC hi))) rfl) ?_
  refine sM ?_
  refine sQ (q_call _ rfl fn196 rfl (timesB _ (2 ^ 31) (by rw [bndP_eq, if_neg h20, if_neg h22]) (h.coef _ (qC hi)) hb) rfl) ?_
  refine Z16 fn246 (plusT t i hi) ?_
  refine sB ?_
  refine B3 ?_
  exact ⟨i + 1, _, by exact wK 46, by omega, hi, rfl⟩
 refine AW.seq ?_
 obtain ⟨hp0, hv1, hv2⟩ := bokP_bnd hb h22
 obtain ⟨hd, _, hvo⟩ := hb h22
 refine B2 ?_
 refine Z12 sl217 (idx_tm hp0) ?_
 refine G1 ?_
 refine Z16 fn228 (ih _ (qC hi) _ (qC hp0) hvo) ?_
 refine sB ?_
 refine D1 ?_
 refine sQ (q_leq rfl rfl rfl) ?_
 refine Z4 ?_
 refine cD ?_ ?_ <;> intro h30
 rotate_left
 ·
  exact absurd (by unfold cap; omega) h30
 have hcap : cap (bndT t.ps[i].of[0]) = bndT t.ps[i].of[0] := by unfold cap; omega
 rw [hcap] at *
 refine B3 ?_
 refine sQ (q_conv _ rfl un232 rfl ((by rw [wu64 (by omega) (by omega)]; omega : IntKind.u64.wrap t.ps[i].dv = ((t.ps[i].dv.toNat : Nat) : Int))) ⟨_, un2⟩) ?_
 refine sQ (q_quo _ rfl rfl rfl (by omega) (quoN (by omega))) ?_
 refine sQ (q_add _ rfl rfl rfl ((by rw [wu64 (by omega) (by have := Nat.div_le_self (bndT t.ps[i].of[0]) t.ps[i].dv.toNat; omega)]; rfl : IntKind.u64.wrap _ = ((bndT t.ps[i].of[0] / t.ps[i].dv.toNat + 1 : Nat) : Int)))) ?_
 refine sB ?_
 refine B3 ?_
 refine sQ (q_call _ rfl fn197 rfl (abs_any _ (by first | exact h.c | exact h.coef _ (qC hi))) rfl) ?_
 refine sM ?_
 refine Z16 fn196 (timesB _ _ hv2 (h.coef _ (qC hi)) hb) ?_
 refine Z16 fn246 (plusT t i hi) ?_
 refine sB ?_
 refine B3 ?_
 exact ⟨i + 1, _, by exact wK 46, by omega, hi, rfl⟩
theorem bound_any (t : Tm) : bokT t → t.cnt ≤ 100000 → Pu 228 [tmC t] (.c (u64C (cap (bndT t)))) := by
  induction t using Tm.ind with
  | h t ih =>
    intro h hN
    exact bound_of t h hN fun p hp o ho hv => ih p hp o ho (vldT_bok hv) (by have := cnt_of hp ho; omega)
theorem small_no {t : Tm} {i : Nat} (hi : i < t.ps.length) (h : 2 ^ 20 < t.ps[i].coef.natAbs) : smallB t = false := by
  cases hs : smallB t with
  | false => rfl
  | true => have := (smallB_iff.1 hs).2.1 _ (qC hi); omega
theorem small_yes {t : Tm} (hc : t.c.natAbs ≤ 2 ^ 40) (h : ∀ p ∈ t.ps, p.coef.natAbs ≤ 2 ^ 20) : smallB t = decide (bndT t ≤ 2 ^ 60) := by
  by_cases hb : bndT t ≤ 2 ^ 60
  · rw [smallB_iff.2 ⟨hc, h, hb⟩]; simp [hb]
  · cases hs : smallB t with
    | false => simp [hb]
    | true => exact absurd (smallB_iff.1 hs).2.2 hb
theorem take_step {P : Pt → Prop} {l : List Pt} {i : Nat} (hi : i < l.length) (h : ∀ p ∈ l.take i, P p) (hp : P l[i]) : ∀ p ∈ l.take (i + 1), P p := by
  rw [qJ hi]
  intro x hx
  rcases jC.1 hx with h1 | h1
  · exact h x h1
  · simp at h1; rw [h1]; exact hp
theorem small_any (t : Tm) (h : bokT t) (hN : t.cnt ≤ 100000) : Pu 212 [tmC t] (.c (bC (smallB t))) := by
 intro H
 refine Spec.enter Tryz.func212 rfl ?_
 refine AW.wk (wK 24 (l := [(0, .c (tmC t))]) (ll := []) (H := (H))) ?_
 refine D2 ?_
 refine AW.seq (AW.seq ?_)
 have hlt := len_ps t
 refine B2 ?_
 refine sQ (q_call _ rfl fn197 rfl (abs_any _ (by first | exact h.c | exact h.coef _ (qC hi))) rfl) ?_
 refine G2 ?_
 refine cD ?_ ?_ <;> intro h8
 ·
  refine D1 ?_
  exact aR (f1 (q := ⟨by rw [show smallB t = false by cases hs : smallB t with | false => rfl | true => have := (smallB_iff.1 hs).1; omega], rfl⟩))
 refine AW.skip (AW.seq (D5 ?_))
 refine AW.block (AW.loop (fun (i : Nat) s => (i ≤ t.ps.length ∧ ∀ p ∈ t.ps.take i, p.coef.natAbs ≤ 2 ^ 20) ∧ s = ⟨24, sp [(1, .lp 1 0), (2, bX false), (10, .c (.a (.t (.sl .un 5 (t.ps.map ptT))))), (11, iX .i64 (((t.ps.map ptT).length : Nat) : Int)), (12, nX i)], lv [(1, .box (zTm t))], H⟩) (fun i => t.ps.length - i) 0 ⟨_, by exact wK 24, ⟨qZ _, by simp⟩, rfl⟩ (fun i s hs => ?_))
 obtain ⟨⟨hi0, hc⟩, rfl⟩ := hs
 refine D2 ?_
 refine AW.seq ?_
 refine cD ?_ ?_ <;> intro h13
 ·
  have hi := oI h13
  refine AW.skip (AW.seq (AW.block (D5 ?_)))
  refine D2 ?_
  refine sQ (q_call _ rfl fn197 rfl (abs_any _ (by first | exact h.c | exact h.coef _ (qC hi))) rfl) ?_
  refine G2 ?_
  refine cD ?_ ?_ <;> intro h19
  ·
   refine D1 ?_
   exact aR (f1 (q := ⟨by rw [small_no hi (by omega)], rfl⟩))
  refine AW.skip (B3 ?_)
  exact ⟨i + 1, _, by exact wK 24, by omega, ⟨hi, take_step hi hc (by omega)⟩, rfl⟩
 refine AW.exit ?_
 refine eth_e ?_
 refine eth_e ?_
 refine exit_here ?_
 refine D1 ?_
 refine Z16 fn228 (bound_any t h hN) ?_
 refine sQ (q_leq rfl rfl rfl) ?_
 refine sB ?_
 exact aR (f1 (q := ⟨by rw [qA] at h13; rw [qU (by omega)] at hc; rw [small_yes (by omega) hc, decide_eq_decide.2 (show ((cap (bndT t) : Nat) : Int) ≤ 1152921504606846976 ↔ bndT t ≤ 2 ^ 60 by unfold cap; omega)], rfl⟩))
end Go.Proofs.YtgnnjebfoffphaaGreatDoor.W
