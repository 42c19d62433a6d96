import Derived.Test.YtgnnjebfoffphaaGreatDoorM14
set_option maxRecDepth 20000
set_option maxHeartbeats 4000000
set_option linter.unusedSectionVars false
set_option linter.unusedSimpArgs false
set_option linter.unusedVariables false
namespace Go.Proofs.YtgnnjebfoffphaaGreatDoor.W
open Fx
open Go.RowKit E M
theorem bndPs_take_le (l : List Pt) (i : Nat) : bndPs (l.take i) ≤ bndPs l := by
  have h := bndPs_app (a := l.take i) (b := l.drop i)
  rw [List.take_append_drop] at h; omega
theorem small_big {t : Tm} {i : Nat} (h : 2 ^ 60 < t.c.natAbs + bndPs (t.ps.take i)) : smallB t = false := by
  cases hs : smallB t with
  | false => rfl
  | true =>
    have h1 := (smallB_iff.1 hs).2.2
    have h2 := bndPs_take_le t.ps i
    rw [bndT_eq] at h1; omega
theorem small_mul {t : Tm} {i : Nat} (hi : i < t.ps.length) (h0 : 0 < t.ps[i].coef.natAbs) (h : 2 ^ 60 / t.ps[i].coef.natAbs < bndP t.ps[i]) : smallB t = false := by
  have h1 := (Nat.div_lt_iff_lt_mul h0).1 h
  rw [Nat.mul_comm] at h1
  exact small_big (i := i + 1) (by rw [bndPs_take hi]; omega)
theorem mul_le_of {n b : Nat} (h : b ≤ 2 ^ 60 / n) : n * b ≤ 2 ^ 60 := jB (Nat.mul_le_mul_left n h) (Nat.mul_div_le _ _)
theorem mulB {n b : Nat} {y : Int} (hy : y = (b : Int)) (h : n * b ≤ 2 ^ 60) : IntKind.i64.wrap ((n : Int) * y) = ((n * b : Nat) : Int) := by
  subst hy
  have e : (n : Int) * (b : Int) = ((n * b : Nat) : Int) := (Int.natCast_mul n b).symm
  have h0 : (0 : Int) ≤ ((n * b : Nat) : Int) := Int.natCast_nonneg _
  have h1 : ((n * b : Nat) : Int) ≤ ((2 ^ 60 : Nat) : Int) := Int.ofNat_le.2 h
  rw [e, w64 (by omega) (by omega)]
theorem quoI {x d : Nat} (hx : x ≤ 2 ^ 62) : IntKind.i64.wrap ((x : Int).tdiv (d : Int)) = ((x / d : Nat) : Int) := by
  have h : (x : Int).tdiv (d : Int) = ((x / d : Nat) : Int) := rfl
  have h1 : ((x / d : Nat) : Int) ≤ (x : Int) := by exact_mod_cast Nat.div_le_self x d
  have h0 : (0 : Int) ≤ ((x / d : Nat) : Int) := Int.natCast_nonneg _
  rw [h, w64 (by omega) (by omega)]
theorem quoD {x : Nat} {d : Int} (hx : x ≤ 2 ^ 62) (hd : 0 ≤ d) : IntKind.i64.wrap ((x : Int).tdiv d) = ((x / d.toNat : Nat) : Int) := by
  obtain ⟨m, rfl⟩ := Int.eq_ofNat_of_zero_le hd
  exact quoI hx
abbrev rb (t : Tm) : Int := if smallB t = true then (bndT t : Int) else 1152921504606846977
theorem rbound_of (t : Tm) (h : bokT t) (hN : t.cnt ≤ 100000) (ih : ∀ p ∈ t.ps, ∀ o ∈ p.of, vldT o = true → Pu 201 [tmC o] (.c (iC (bndT o)))) : Pu 201 [tmC t] (.c (iC (rb t))) := by
 intro H
 refine Spec.enter Tryz.func201 rfl ?_
 refine AW.wk (wK 68 (l := [(0, .c (tmC t))]) (ll := []) (H := (H))) ?_
 refine D2 ?_
 refine eL192 ?_
 have hlt := len_ps t
 have hcc := h.c
 refine B2 ?_
 refine Z16 fn187 (within_any _ _ _) ?_
 refine eL185 ?_
 refine AW.cond _ rfl (fun h10 => ?_) (fun h10 => ?_)
 ·
  refine D1 ?_
  exact aR (f1 (q := ⟨by rw [rb, if_neg (by intro hs; have := (smallB_iff.1 hs).1; simp at h10; omega)], rfl⟩))
 refine eL240 ?_
 have hc40 : t.c.natAbs ≤ 2 ^ 40 := by simp at h10; omega
 refine B2 ?_
 refine sQ (q_call _ rfl fn202 rfl (rabs_any _ (by simp at *; omega)) rfl) ?_
 refine sB ?_
 refine eL161 ?_
 refine AW.block (AW.loop (fun (i : Nat) s => (i ≤ t.ps.length ∧ (∀ p ∈ t.ps.take i, p.coef.natAbs ≤ 2 ^ 20) ∧ t.c.natAbs + bndPs (t.ps.take i) ≤ 2 ^ 60) ∧ s = ⟨68, sp [(1, .lp 1 0), (2, .c (iC 0)), (3, iX .i64 ((t.c.natAbs + bndPs (t.ps.take i) : Nat) : Int)), (4, nX i)], lv [(1, .box (zTm t))], H⟩) (fun i => t.ps.length - i) 0 ⟨_, by exact wK 68, ⟨qZ _, by simp, by simp [bndPs]; omega⟩, rfl⟩ (fun i s hs => ?_))
 obtain ⟨⟨hi0, hc, hS⟩, rfl⟩ := hs
 refine eL150 ?_
 refine cD ?_ ?_ <;> intro h18
 rotate_left
 ·
  refine eL147 ?_
  refine D2 ?_
  refine AW.ret ?_
  rw [qA] at h18
  rw [qU (by omega)] at hc
  exact f1 (q := ⟨by rw [rb, if_pos (smallB_iff.2 ⟨hc40, hc, by rw [qU (by omega)] at hS; rw [bndT_eq]; exact hS⟩), bndT_eq, qU (by omega)], rfl⟩)
 have hi := oI h18
 have hb := h.part _ (qC hi)
 have hcf := h.coef _ (qC hi)
 have hbl := bokP_le hb
 refine eL152 ?_
 refine eL254 ?_
 refine G3 ?_
 refine Z3 (sR (sB ?_))
 refine eL189 ?_
 refine cD ?_ ?_ <;> intro h28
 ·
  refine B1 ?_
  refine eL189 ?_
  refine cD ?_ ?_ <;> intro h31
  ·
   obtain ⟨hp0, hv1, hv2⟩ := bokP_bnd hb h31
   obtain ⟨hd, _, hvo⟩ := hb h31
   refine eL171 ?_
   have hbp := bndP_eq t.ps[i]
   try rw [if_pos h28] at hbp
   try rw [if_neg h28, if_neg h31] at hbp
   refine eL239 ?_
   refine Z49 ?_ ?_ <;> intro g45
   ·
    iterate 4 refine oF ?_
    iterate 6 refine oU ?_
    refine eL157 ?_
    exact cL11
   refine G3 ?_
   refine Z44 ?_ ?_ <;> intro g49
   ·
    refine eL169 ?_
    refine cD ?_ ?_ <;> intro h57
    ·
     exact cL11
    refine eL240 ?_
    have hle : t.ps[i].coef.natAbs * bndP t.ps[i] ≤ 2 ^ 60 := by first | exact mul_le_of (by omega) | (rw [show t.ps[i].coef.natAbs = 0 by omega]; omega)
    refine eL148 ?_
    refine cD ?_ ?_ <;> intro h66
    ·
     exact cL30
    exact cL26
   iterate 6 refine oF ?_
   refine eL164 ?_
   refine eL240 ?_
   have hle : t.ps[i].coef.natAbs * bndP t.ps[i] ≤ 2 ^ 60 := by first | exact mul_le_of (by omega) | (rw [show t.ps[i].coef.natAbs = 0 by omega]; omega)
   refine eL148 ?_
   refine cD ?_ ?_ <;> intro h66
   ·
    exact cL30
   exact cL26
  refine eL202 ?_
  have hbp := bndP_eq t.ps[i]
  try rw [if_pos h28] at hbp
  try rw [if_neg h28, if_neg h31] at hbp
  refine eL239 ?_
  refine Z49 ?_ ?_ <;> intro g45
  ·
   iterate 4 refine oF ?_
   iterate 6 refine oU ?_
   refine eL157 ?_
   exact cL11
  refine G3 ?_
  refine Z44 ?_ ?_ <;> intro g49
  ·
   refine eL169 ?_
   refine cD ?_ ?_ <;> intro h57
   ·
    exact cL11
   refine eL240 ?_
   have hle : t.ps[i].coef.natAbs * bndP t.ps[i] ≤ 2 ^ 60 := by first | exact mul_le_of (by omega) | (rw [show t.ps[i].coef.natAbs = 0 by omega]; omega)
   refine eL148 ?_
   refine cD ?_ ?_ <;> intro h66
   ·
    exact cL30
   exact cL26
  iterate 6 refine oF ?_
  refine eL164 ?_
  refine eL240 ?_
  have hle : t.ps[i].coef.natAbs * bndP t.ps[i] ≤ 2 ^ 60 := by first | exact mul_le_of (by omega) | (rw [show t.ps[i].coef.natAbs = 0 by omega]; omega)
  refine eL148 ?_
  refine cD ?_ ?_ <;> intro h66
  ·
   exact cL30
  exact cL26
 refine eL187 ?_
 refine cD ?_ ?_ <;> intro h31
 ·
  obtain ⟨hp0, hv1, hv2⟩ := bokP_bnd hb h31
  obtain ⟨hd, _, hvo⟩ := hb h31
  refine eL171 ?_
  have hbp := bndP_eq t.ps[i]
  try rw [if_pos h28] at hbp
  try rw [if_neg h28, if_neg h31] at hbp
  refine eL239 ?_
  refine Z49 ?_ ?_ <;> intro g45
  ·
   iterate 4 refine oF ?_
   iterate 6 refine oU ?_
   refine eL157 ?_
   exact cL11
  refine G3 ?_
  refine Z44 ?_ ?_ <;> intro g49
  ·
   refine eL169 ?_
   refine cD ?_ ?_ <;> intro h57
   ·
    exact cL11
   refine eL240 ?_
   have hle : t.ps[i].coef.natAbs * bndP t.ps[i] ≤ 2 ^ 60 := by first | exact mul_le_of (by omega) | (rw [show t.ps[i].coef.natAbs = 0 by omega]; omega)
   refine eL148 ?_
   refine cD ?_ ?_ <;> intro h66
   ·
    exact cL30
   exact cL26
  iterate 6 refine oF ?_
  refine eL164 ?_
  refine eL240 ?_
  have hle : t.ps[i].coef.natAbs * bndP t.ps[i] ≤ 2 ^ 60 := by first | exact mul_le_of (by omega) | (rw [show t.ps[i].coef.natAbs = 0 by omega]; omega)
  refine eL148 ?_
  refine cD ?_ ?_ <;> intro h66
  ·
   exact cL30
  exact cL26
 refine eL202 ?_
 have hbp := bndP_eq t.ps[i]
 try rw [if_pos h28] at hbp
 try rw [if_neg h28, if_neg h31] at hbp
 refine eL239 ?_
 refine Z49 ?_ ?_ <;> intro g45
 ·
  iterate 4 refine oF ?_
  iterate 6 refine oU ?_
  refine eL157 ?_
  exact cL11
 refine G3 ?_
 refine Z44 ?_ ?_ <;> intro g49
 ·
  refine eL169 ?_
  refine cD ?_ ?_ <;> intro h57
  ·
   exact cL11
  refine eL240 ?_
  have hle : t.ps[i].coef.natAbs * bndP t.ps[i] ≤ 2 ^ 60 := by first | exact mul_le_of (by omega) | (rw [show t.ps[i].coef.natAbs = 0 by omega]; omega)
  refine eL148 ?_
  refine cD ?_ ?_ <;> intro h66
  ·
   exact cL30
  exact cL26
 iterate 6 refine oF ?_
 refine eL164 ?_
 refine eL240 ?_
 have hle : t.ps[i].coef.natAbs * bndP t.ps[i] ≤ 2 ^ 60 := by first | exact mul_le_of (by omega) | (rw [show t.ps[i].coef.natAbs = 0 by omega]; omega)
 refine eL148 ?_
 refine cD ?_ ?_ <;> intro h66
 ·
  exact cL30
 exact cL26
theorem rbound_any (t : Tm) : bokT t → t.cnt ≤ 100000 → Pu 201 [tmC t] (.c (iC (rb t))) := by
  induction t using Tm.ind with
  | h t ih =>
    intro h hN
    refine rbound_of t h hN fun p hp o ho hv => ?_
    have := ih p hp o ho (vldT_bok hv) (by have := cnt_of hp ho; omega)
    rw [rb, if_pos (vldT_small hv)] at this; exact this
theorem bCe {a b : Bool} (h : a = b) : X.c (bC a) = X.c (bC b) := by rw [h]
theorem vT0 {p : Pt} (h : p.coef = 0) : vldP p = false := by rw [vldP_eq]; simp [h]
theorem rsmall_any (t : Tm) (h : bokT t) (hN : t.cnt ≤ 100000) : Pu 184 [tmC t] (.c (bC (smallB t))) := by
 intro H
 refine Spec.enter Tryz.func184 rfl ?_
 refine AW.wk (wK 6 (l := [(0, .c (tmC t))]) (ll := []) (H := (H))) ?_
 refine eL225 ?_
 refine Z16 fn201 (rbound_any t h hN) ?_
 refine sQ (q_leq rfl rfl rfl) ?_
 refine sB ?_
 exact aR (fE (e := bCe (by rw [rb]; cases hs : smallB t with | false => simp | true => have := (smallB_iff.1 hs).2.2; simp; omega)))
abbrev bF : AO := .row 242 2 [.t (.v (.pointer none)), nA]
abbrev bU (k kt : Nat) (z : Nz) (s : ByteArray) : AO := .row 242 2 [.bp k 0, .ts kt z 1 (bT s)]
structure BU (H0 H : Heap) (k : Nat) (s : ByteArray) : Prop where
  k0 : H0 k = none
  sub : ∀ j o, H0 j = some o → H j = some o
  st : (s = ByteArray.empty ∧ H k = some bF) ∨ ∃ kt z, H k = some (bU k kt z s) ∧ H kt = some (.tip 5 1 (bT s).length) ∧ H0 kt = none ∧ kt ≠ k
theorem upd_lt {α : Type} {H : Nat → Option α} {k j : Nat} {x : α} (h : upd H k (some x) j = none) : j ≠ k ∧ H j = none := by
  by_cases e : j = k
  · subst e; rw [upd_same] at h; cases h
  · rw [upd_ne _ _ e] at h; exact ⟨e, h⟩
theorem xwOf {l : List Tm} {h : 0 < l.length} (h1 : l.length = 1) : XW (.c (.a (.t (.sl .nn 2 [tmL l[0]])))) (.c (.a (.t (.sl .un 2 (l.map tmT))))) := by
  match l, h1 with
  | [o], _ =>
    have : [o].map tmT = [tmL o] := by rw [qL, List.map_nil, tmT_eq]
    rw [this]; exact XW.un
structure oneP (p : Pt) : Prop where
  len : p.of.length ≤ 1
  sub : ∀ o ∈ p.of, vldT o = true
theorem vldP_one {p : Pt} (h : vldP p = true) : oneP p := by
  rw [vldP_eq] at h
  split at h
  · simp only [jG, List.isEmpty_iff] at h
    exact ⟨by rw [h.2.2]; simp, by rw [h.2.2]; simp⟩
  · simp only [jG] at h
    have h3 := h.2.2
    cases ho : p.of with
    | nil => exact ⟨by rw [ho]; simp, by rw [ho]; simp⟩
    | cons o r =>
      cases r with
      | cons o2 r2 => rw [ho] at h3; simp [vldO] at h3
      | nil =>
        rw [ho] at h3
        simp only [vldO, jG] at h3
        exact ⟨by rw [ho]; simp, by rw [ho]; intro x hx; simp at hx; subst hx; exact h3.2⟩
theorem upd_back {α : Type} {H : Nat → Option α} {k : Nat} {x : Option α} (h : H k = none) : upd (upd H k x) k none = H := by
  funext j
  by_cases e : j = k
  · subst e; rw [upd_same, h]
  · rw [upd_ne _ _ e, upd_ne _ _ e]
theorem XW.tm0 {n : Int} : XW (.c (.g [.t (.v (.int .i64 n)), nA])) (.c (tmC ⟨n, []⟩)) := ⟨rfl, fun c v h => by
  obtain ⟨us, rfl, h1, h2⟩ := h
  refine ⟨us, rfl, by simpa using h1, fun i x v hx hv => ?_⟩
  match i with
  | 0 => simp at hx; subst hx; exact h2 0 _ v rfl hv
  | 1 =>
    simp at hx; subst hx
    exact XW.nilU.2 c v (h2 1 _ v rfl hv)
  | i + 2 => simp at hx⟩
theorem XW.tmA {n : Int} {a b : A} (h : XW (.c (.a a)) (.c (.a b))) : XW (.c (.g [.t (.v (.int .i64 n)), a])) (.c (.g [.t (.v (.int .i64 n)), b])) := ⟨rfl, fun c v h0 => by
  obtain ⟨us, rfl, h1, h2⟩ := h0
  refine ⟨us, rfl, by simpa using h1, fun i x v hx hv => ?_⟩
  match i with
  | 0 => simp at hx; subst hx; exact h2 0 _ v rfl hv
  | 1 =>
    simp at hx; subst hx
    exact h.2 c v (h2 1 _ v rfl hv)
  | i + 2 => simp at hx⟩
abbrev tm0 : Tm := ⟨0, []⟩
def lim (t : Tm) : Tm × Int := if smallB t = true then (t, 0) else (tm0, 3)
abbrev trC (r : Tm × Int) : X := .tup [tmC r.1, iC r.2]
def mulP (p : Pt) (n : Int) : Pt := ⟨p.coef * n, p.kind, p.var, p.dv, p.of⟩
def mulT (t : Tm) (n : Int) : Tm := ⟨t.c * n, t.ps.map fun p => mulP p n⟩
def scale (t : Tm) (n : Int) : Tm × Int := if n = 0 then (tm0, 0) else lim (mulT t n)
theorem mul_small {t : Tm} {n : Int} (hs : smallB (mulT t n) = true) : t.c.natAbs * n.natAbs ≤ 2 ^ 40 ∧ ∀ p ∈ t.ps, p.coef.natAbs * n.natAbs ≤ 2 ^ 20 := by
  have h := smallB_iff.1 hs
  refine ⟨by have := h.1; rw [← Int.natAbs_mul]; exact this, fun p hp => ?_⟩
  have := h.2.1 (mulP p n) (List.mem_map_of_mem hp)
  rw [← Int.natAbs_mul]; exact this
theorem mul_cnt (t : Tm) (n : Int) : (mulT t n).cnt = t.cnt := by
  have key : ∀ l : List Pt, mxPs (l.map fun p => mulP p n) = mxPs l := fun l => by
    induction l with
    | nil => rfl
    | cons p r ih => rw [qL, mxPs, mxPs, ih]; rw [Pt.cnt_eq, Pt.cnt_eq]; rfl
  rw [Tm.cnt_eq, Tm.cnt_eq, cntPs, cntPs]
  show 1 + ((t.ps.map fun p => mulP p n).length + mxPs (t.ps.map fun p => mulP p n)) = _
  rw [key, qA]
theorem w64m {a b : Int} {M : Nat} (hM : M ≤ 2 ^ 60) (h : a.natAbs * b.natAbs ≤ M) : IntKind.i64.wrap (a * b) = a * b := by
  rw [← Int.natAbs_mul] at h
  exact w64 (by omega) (by omega)
theorem scale_no {t : Tm} {n : Int} (h0 : n ≠ 0) (h : ¬ (t.c.natAbs * n.natAbs ≤ 2 ^ 40 ∧ ∀ p ∈ t.ps, p.coef.natAbs * n.natAbs ≤ 2 ^ 20)) : scale t n = (tm0, 3) := by
  rw [scale, if_neg h0, lim, if_neg (fun hs => h (mul_small hs))]
abbrev divT (t : Tm) (b : Int) : Tm := ⟨0, [⟨1, 2, 0, b, [t]⟩]⟩
def div (t : Tm) (b : Int) : Tm × Int := if b < 1 ∨ b > 1000 then (tm0, 1) else if b = 1 then (t, 0) else if (t.ps.length : Int) = 0 then (⟨t.c / b, []⟩, 0) else lim (divT t b)
theorem divT_bok {t : Tm} {b : Int} (hv : vldT t = true) (h1 : 1 ≤ b) (h2 : b ≤ 1000) : bokT (divT t b) := by
  refine ⟨by show -9223372036854775808 ≤ (0 : Int) ∧ (0 : Int) ≤ 9223372036854775807; decide, fun p hp => ?_, fun p hp => ?_⟩
  · obtain rfl : p = ⟨1, 2, 0, b, [t]⟩ := by simpa using hp
    show -9223372036854775808 ≤ (1 : Int) ∧ (1 : Int) ≤ 9223372036854775807
    decide
  · obtain rfl : p = ⟨1, 2, 0, b, [t]⟩ := by simpa using hp
    exact fun _ => ⟨⟨h1, h2⟩, by simp, hv⟩
theorem divT_cnt (t : Tm) (b : Int) : (divT t b).cnt = t.cnt + 2 := by
  show 1 + (1 + max (t.cnt + 0) 0) = t.cnt + 2
  omega
def nzc (p : Pt) (l : List Pt) : List Pt := if p.coef ≠ 0 then p :: l else l
def addP (p q : Pt) : Pt := ⟨q.coef + p.coef, q.kind, q.var, q.dv, q.of⟩
def mrg : List Pt → List Pt → List Pt
  | [], [] => []
  | [], q :: s => nzc q (mrg [] s)
  | p :: r, [] => nzc p (mrg r [])
  | p :: r, q :: s => if cmpP p q < 0 then nzc p (mrg r (q :: s)) else if 0 < cmpP p q then nzc q (mrg (p :: r) s) else nzc (addP p q) (mrg r s)
termination_by a b => a.length + b.length
theorem put_nz {out r full : List Pt} {p : Pt} {m : List Pt} (h : m = nzc p r) (hI : out ++ m = full) (hp : p.coef ≠ 0) : (out ++ [p]) ++ r = full := by
  rw [← hI, h, nzc, if_pos hp]; simp
theorem put_z {out r full : List Pt} {p : Pt} {m : List Pt} (h : m = nzc p r) (hI : out ++ m = full) (hp : ¬ p.coef ≠ 0) : out ++ r = full := by
  rw [← hI, h, nzc, if_neg hp]
def like (l : List Pt) (p : Pt) : Prop := ∃ q ∈ l, p.kind = q.kind ∧ p.dv = q.dv ∧ p.of = q.of ∧ p.var = q.var
theorem like_mono {l l' : List Pt} {p : Pt} (h : like l p) (hs : ∀ q ∈ l, q ∈ l') : like l' p := by
  obtain ⟨q, h1, h2⟩ := h; exact ⟨q, hs q h1, h2⟩
theorem mem_nzc {p q : Pt} {l : List Pt} (h : q ∈ nzc p l) : q = p ∨ q ∈ l := by
  unfold nzc at h; split at h
  · exact jD.1 h
  · exact .inr h
theorem mrg_mem : ∀ (a b : List Pt), (∀ p ∈ a, p.coef.natAbs ≤ 2 ^ 20) → (∀ p ∈ b, p.coef.natAbs ≤ 2 ^ 20) → ∀ p ∈ mrg a b, like (a ++ b) p ∧ p.coef.natAbs ≤ 2 ^ 21
  | [], [], _, _ => by simp [mrg]
  | [], q :: s, ha, hb => by
    intro p hp
    rw [mrg] at hp
    rcases mem_nzc hp with rfl | hp
    · exact ⟨⟨p, by simp, rfl, rfl, rfl, rfl⟩, by have := hb p (by simp); omega⟩
    · obtain ⟨h1, h2⟩ := mrg_mem [] s (by simp) (fun x hx => hb x (by simp [hx])) p hp
      exact ⟨like_mono h1 (by simp; intro x hx; exact .inr hx), h2⟩
  | q :: r, [], ha, hb => by
    intro p hp
    rw [mrg] at hp
    rcases mem_nzc hp with rfl | hp
    · exact ⟨⟨p, by simp, rfl, rfl, rfl, rfl⟩, by have := ha p (by simp); omega⟩
    · obtain ⟨h1, h2⟩ := mrg_mem r [] (fun x hx => ha x (by simp [hx])) (by simp) p hp
      exact ⟨like_mono h1 (by simp; intro x hx; exact .inr hx), h2⟩
  | x :: r, y :: s, ha, hb => by
    intro p hp
    have hx := ha x (by simp)
    have hy := hb y (by simp)
    have ha' : ∀ p ∈ r, p.coef.natAbs ≤ 2 ^ 20 := fun z hz => ha z (by simp [hz])
    have hb' : ∀ p ∈ s, p.coef.natAbs ≤ 2 ^ 20 := fun z hz => hb z (by simp [hz])
    rw [mrg] at hp
    split at hp
    · rcases mem_nzc hp with rfl | hp
      · exact ⟨⟨p, by simp, rfl, rfl, rfl, rfl⟩, by omega⟩
      · obtain ⟨h1, h2⟩ := mrg_mem r (y :: s) ha' hb p hp
        exact ⟨like_mono h1 (by simp only [jC, jD]; intro z hz; rcases hz with h | h | h <;> simp [h]), h2⟩
    · split at hp
      · rcases mem_nzc hp with rfl | hp
        · exact ⟨⟨p, by simp, rfl, rfl, rfl, rfl⟩, by omega⟩
        · obtain ⟨h1, h2⟩ := mrg_mem (x :: r) s ha hb' p hp
          exact ⟨like_mono h1 (by simp only [jC, jD]; intro z hz; rcases hz with (h | h) | h <;> simp [h]), h2⟩
      · rcases mem_nzc hp with rfl | hp
        · exact ⟨⟨y, by simp, rfl, rfl, rfl, rfl⟩, by show (y.coef + x.coef).natAbs ≤ _; omega⟩
        · obtain ⟨h1, h2⟩ := mrg_mem r s ha' hb' p hp
          exact ⟨like_mono h1 (by simp only [jC, jD]; intro z hz; rcases hz with h | h <;> simp [h]), h2⟩
termination_by a b => a.length + b.length
theorem nzc_len (p : Pt) (l : List Pt) : (nzc p l).length ≤ 1 + l.length := by
  unfold nzc; split
  · rw [qM]; omega
  · omega
theorem nzc_mx (p : Pt) (l : List Pt) : mxPs (nzc p l) ≤ max p.cnt (mxPs l) := by
  unfold nzc; split
  · rw [mxPs]; omega
  · omega
theorem mrg_lm : ∀ (a b : List Pt), (mrg a b).length ≤ a.length + b.length ∧ mxPs (mrg a b) ≤ max (mxPs a) (mxPs b)
  | [], [] => by simp [mrg, mxPs]
  | [], q :: s => by
    have h1 := mrg_lm [] s
    have h2 := nzc_len q (mrg [] s)
    have h3 := nzc_mx q (mrg [] s)
    rw [mrg]; simp only [mxPs, qM, qQ] at *; omega
  | p :: r, [] => by
    have h1 := mrg_lm r []
    have h2 := nzc_len p (mrg r [])
    have h3 := nzc_mx p (mrg r [])
    rw [mrg]; simp only [mxPs, qM, qQ] at *; omega
  | p :: r, q :: s => by
    rw [mrg, mxPs, mxPs]
    split
    · have h1 := mrg_lm r (q :: s)
      have h2 := nzc_len p (mrg r (q :: s))
      have h3 := nzc_mx p (mrg r (q :: s))
      rw [mxPs] at h1; simp only [qM] at *; omega
    · split
      · have h1 := mrg_lm (p :: r) s
        have h2 := nzc_len q (mrg (p :: r) s)
        have h3 := nzc_mx q (mrg (p :: r) s)
        rw [mxPs] at h1; simp only [qM] at *; omega
      · have h1 := mrg_lm r s
        have h2 := nzc_len (addP p q) (mrg r s)
        have h3 := nzc_mx (addP p q) (mrg r s)
        have h4 : (addP p q).cnt = q.cnt := by rw [Pt.cnt_eq, Pt.cnt_eq]; rfl
        simp only [qM] at *; omega
termination_by a b => a.length + b.length
theorem mrg_cnt (a b : List Pt) : cntPs (mrg a b) ≤ cntPs a + cntPs b := by
  have := mrg_lm a b
  unfold cntPs; omega
abbrev sumT (a b : Tm) : Tm := ⟨a.c + b.c, mrg a.ps b.ps⟩
def add (a b : Tm) : Tm × Int := lim (sumT a b)
theorem vld_coef {t : Tm} (h : vldT t = true) : t.c.natAbs ≤ 2 ^ 40 ∧ ∀ p ∈ t.ps, p.coef.natAbs ≤ 2 ^ 20 := by
  have := smallB_iff.1 (vldT_small h)
  exact ⟨this.1, this.2.1⟩
theorem vld_parts {t : Tm} (h : vldT t = true) : ∀ p ∈ t.ps, vldP p = true := by
  rw [vldT_eq] at h
  simp only [jG] at h
  exact vldPs_iff.1 h.1.1
theorem sum_bok {a b : Tm} (ha : vldT a = true) (hb : vldT b = true) : bokT (sumT a b) ∧ ∀ p ∈ mrg a.ps b.ps, oneP p := by
  have hca := vld_coef ha
  have hcb := vld_coef hb
  have hm := mrg_mem a.ps b.ps hca.2 hcb.2
  have hv : ∀ q ∈ a.ps ++ b.ps, vldP q = true := fun q hq => (jC.1 hq).elim (vld_parts ha q) (vld_parts hb q)
  refine ⟨⟨by show -9223372036854775808 ≤ a.c + b.c ∧ a.c + b.c ≤ 9223372036854775807; omega, fun p hp => by have := (hm p hp).2; omega, fun p hp => ?_⟩, fun p hp => ?_⟩
  · obtain ⟨⟨q, hq, h1, h2, h3, h4⟩, _⟩ := hm p hp
    have := vldP_bok (hv q hq)
    unfold bokP at this ⊢
    rw [h1, h2]
    simp only [h3]
    exact this
  · obtain ⟨⟨q, hq, h1, h2, h3, h4⟩, _⟩ := hm p hp
    have := vldP_one (hv q hq)
    exact ⟨by rw [h3]; exact this.len, by rw [h3]; exact this.sub⟩
theorem sum_cnt (a b : Tm) : (sumT a b).cnt ≤ a.cnt + b.cnt := by
  have := mrg_cnt a.ps b.ps
  rw [Tm.cnt_eq, Tm.cnt_eq a, Tm.cnt_eq b]; show 1 + cntPs (mrg a.ps b.ps) ≤ _; omega
theorem map_put {zs : List (List E.T)} {out : List Pt} {p : Pt} (h : zs = out.map ptT) : zs ++ [ptT p] = (out ++ [p]).map ptT := by rw [h]; simp
inductive Ex where
  | mk (op : Int) (tb nm : ByteArray) (ix vk vn : Int) (vs : ByteArray) (args : List Ex)
@[reducible] def Ex.op : Ex → Int | .mk a _ _ _ _ _ _ _ => a
@[reducible] def Ex.tb : Ex → ByteArray | .mk _ a _ _ _ _ _ _ => a
@[reducible] def Ex.nm : Ex → ByteArray | .mk _ _ a _ _ _ _ _ => a
@[reducible] def Ex.ix : Ex → Int | .mk _ _ _ a _ _ _ _ => a
@[reducible] def Ex.vk : Ex → Int | .mk _ _ _ _ a _ _ _ => a
@[reducible] def Ex.vn : Ex → Int | .mk _ _ _ _ _ a _ _ => a
@[reducible] def Ex.vs : Ex → ByteArray | .mk _ _ _ _ _ _ a _ => a
@[reducible] def Ex.args : Ex → List Ex | .mk _ _ _ _ _ _ _ a => a
mutual
def exT' : Ex → List E.T
  | .mk op tb nm ix vk vn vs args => [.v (.int .i64 op), .v (.string tb), .v (.string nm), .v (.int .i64 ix), .v (.int .i64 vk), .v (.int .i64 vn), .v (.string vs), .sl .un 8 (exTs args)]
def exTs : List Ex → List (List E.T)
  | [] => []
  | e :: r => exT' e :: exTs r
end
theorem exTs_map : ∀ l, exTs l = l.map exT'
  | [] => rfl
  | t :: r => by rw [exTs, exTs_map r, qL]
abbrev exL (e : Ex) : List E.T := [.v (.int .i64 e.op), .v (.string e.tb), .v (.string e.nm), .v (.int .i64 e.ix), .v (.int .i64 e.vk), .v (.int .i64 e.vn), .v (.string e.vs), .sl .un 8 (e.args.map exT')]
theorem exT_eq (e : Ex) : exT' e = exL e := by cases e; rw [exT', exTs_map]
abbrev exC (e : Ex) : C := .g [.t (.v (.int .i64 e.op)), .t (.v (.string e.tb)), .t (.v (.string e.nm)), .t (.v (.int .i64 e.ix)), .t (.v (.int .i64 e.vk)), .t (.v (.int .i64 e.vn)), .t (.v (.string e.vs)), .t (.sl .un 8 (e.args.map exT'))]
theorem idx_ex {l : List Ex} {i : Nat} (h : i < l.length) : (l.map exT')[i]? = some (exL l[i]) := by rw [qR, qF h, Option.map_some, exT_eq]
def comb (op : Int) (a b : Tm) : Tm × Int :=
  if op = 4 then add a b
  else if op = 5 then (if (scale b (-1)).2 ≠ 0 then (tm0, (scale b (-1)).2) else add a (scale b (-1)).1)
  else if op = 6 then (if a.ps.length = 0 then scale b a.c else if b.ps.length = 0 then scale a b.c else (tm0, 7))
  else if 0 < b.ps.length ∨ b.c < 1 ∨ b.c > 1000 then (tm0, 7)
  else if (div a b.c).2 ≠ 0 ∨ op = 7 then div a b.c
  else if (scale (div a b.c).1 (-b.c)).2 ≠ 0 then (tm0, (scale (div a b.c).1 (-b.c)).2)
  else add a (scale (div a b.c).1 (-b.c)).1
def opsR : List (Tm × Int) → Tm × Int
  | [] => (tm0, 6)
  | r :: l => if r.2 ≠ 0 then (tm0, r.2) else opsR l
def lenE (a : Ex) (rs : List (Tm × Int)) : Tm × Int :=
  if 0 < a.args.length then opsR rs
  else if a.op = 1 ∧ a.vk = 2 then lim ⟨(a.vs.size : Int), []⟩
  else if a.op = 2 ∧ 0 ≤ a.ix then lim ⟨0, [⟨1, 1, a.ix, 0, []⟩]⟩
  else opsR rs
def lenL (rs : List (Tm × Int)) : List Ex → Tm × Int
  | [a] => lenE a rs
  | _ => opsR rs
def leafE (op ix vk vn : Int) (args : List Ex) (rs : List (Tm × Int)) : Tm × Int :=
  if op = 9 then lenL rs args
  else if 0 < args.length then opsR rs
  else if op = 1 ∧ vk = 1 then lim ⟨vn, []⟩
  else if op = 2 ∧ 0 ≤ ix then lim ⟨0, [⟨1, 0, ix, 0, []⟩]⟩
  else (tm0, 6)
def unR : List (Tm × Int) → Tm × Int
  | [r] => if r.2 ≠ 0 then (tm0, r.2) else scale r.1 (-1)
  | rs => opsR rs
def binR (op : Int) : List (Tm × Int) → Tm × Int
  | [r, q] => if r.2 ≠ 0 then (tm0, r.2) else if q.2 ≠ 0 then (tm0, q.2) else comb op r.1 q.1
  | rs => opsR rs
def stepE (op ix vk vn : Int) (args : List Ex) (rs : List (Tm × Int)) : Tm × Int :=
  if op = 1 ∨ op = 2 ∨ op = 9 then leafE op ix vk vn args rs
  else if op = 3 then unR rs
  else if op = 4 ∨ op = 5 ∨ op = 6 ∨ op = 7 ∨ op = 8 then binR op rs
  else opsR rs
theorem unR_ne {rs : List (Tm × Int)} (h : rs.length ≠ 1) : unR rs = opsR rs := by
  match rs, h with
  | [], _ => rfl
  | [r], h => simp at h
  | _ :: _ :: _, _ => rfl
theorem unR_one {rs : List (Tm × Int)} (h0 : 0 < rs.length) (h : rs.length = 1) : unR rs = if rs[0].2 ≠ 0 then (tm0, rs[0].2) else scale rs[0].1 (-1) := by
  match rs, h with
  | [r], _ => rfl
theorem binR_ne {op : Int} {rs : List (Tm × Int)} (h : rs.length ≠ 2) : binR op rs = opsR rs := by
  match rs, h with
  | [], _ => rfl
  | [r], _ => rfl
  | [r, q], h => simp at h
  | _ :: _ :: _ :: _, _ => rfl
theorem binR_two {op : Int} {rs : List (Tm × Int)} (h0 : 0 < rs.length) (h1 : 1 < rs.length) (h : rs.length = 2) : binR op rs = if rs[0].2 ≠ 0 then (tm0, rs[0].2) else if rs[1].2 ≠ 0 then (tm0, rs[1].2) else comb op rs[0].1 rs[1].1 := by
  match rs, h with
  | [r, q], _ => rfl
theorem leaf9_ne {ix vk vn : Int} {args : List Ex} {rs : List (Tm × Int)} {op : Int} (ho : op = 9) (h : args.length ≠ 1) : leafE op ix vk vn args rs = opsR rs := by
  unfold leafE
  rw [if_pos ho]
  match args, h with
  | [], _ => rfl
  | [r], h => simp at h
  | _ :: _ :: _, _ => rfl
theorem leaf9_one {ix vk vn : Int} {args : List Ex} {rs : List (Tm × Int)} {op : Int} (ho : op = 9) (h0 : 0 < args.length) (h : args.length = 1) : leafE op ix vk vn args rs = lenE args[0] rs := by
  unfold leafE
  rw [if_pos ho]
  match args, h with
  | [r], _ => rfl
mutual
def ofE : Ex → Tm × Int
  | .mk op _ _ ix vk vn _ args => stepE op ix vk vn args (resE args)
def resE : List Ex → List (Tm × Int)
  | [] => []
  | a :: r => ofE a :: resE r
end
theorem resE_map : ∀ l, resE l = l.map ofE
  | [] => rfl
  | a :: r => by rw [resE, resE_map r, qL]
theorem ofE_eq (e : Ex) : ofE e = stepE e.op e.ix e.vk e.vn e.args (e.args.map ofE) := by cases e; rw [ofE, resE_map]
mutual
def Ex.dep : Ex → Nat
  | .mk _ _ _ _ _ _ _ args => depEs args + 1
def depEs : List Ex → Nat
  | [] => 0
  | a :: r => max a.dep (depEs r)
end
theorem dep_arg {a : Ex} : ∀ {l : List Ex}, a ∈ l → a.dep ≤ depEs l
  | b :: r, h => by
    rcases jD.1 h with rfl | h
    · simp only [depEs]; omega
    · have := dep_arg h; simp only [depEs]; omega
theorem Ex.ind {motive : Ex → Prop} (h : ∀ e, (∀ a ∈ e.args, motive a) → motive e) (e : Ex) : motive e := by
  have key : ∀ n (e : Ex), e.dep < n → motive e := by
    intro n
    induction n with
    | zero => intro e he; omega
    | succ n ih =>
      intro e he
      refine h e fun a ha => ih a ?_
      cases e with | mk op tb nm ix vk vn vs args =>
      have := dep_arg ha
      simp only [Ex.dep, Ex.args] at *; omega
  exact key _ e (Nat.lt_succ_self _)
theorem opsR_no {rs : List (Tm × Int)} {i : Nat} (hi : i < rs.length) (h0 : ∀ r ∈ rs.take i, r.2 = 0) (h : rs[i].2 ≠ 0) : opsR rs = (tm0, rs[i].2) := by
  induction rs generalizing i with
  | nil => simp at hi
  | cons r l ih =>
    cases i with
    | zero =>
      have h' : r.2 ≠ 0 := h
      rw [opsR, if_pos h']; rfl
    | succ i =>
      have : r.2 = 0 := h0 r (by simp)
      rw [opsR, if_neg (by omega)]
      exact ih (by simpa using hi) (fun x hx => h0 x (by simp [hx])) (by simpa using h)
theorem ops_step {l : List Ex} {i : Nat} (hi : i < l.length) (h0 : ∀ r ∈ (l.map ofE).take i, r.2 = 0) (h : (ofE l[i]).2 = 0) : ∀ r ∈ (l.map ofE).take (i + 1), r.2 = 0 := by
  rw [qJ (by simpa using hi)]
  intro r hr
  rcases jC.1 hr with h1 | h1
  · exact h0 r h1
  · simp at h1; rw [h1]; exact h
theorem opsR_end {rs : List (Tm × Int)} (h0 : ∀ r ∈ rs, r.2 = 0) : opsR rs = (tm0, 6) := by
  induction rs with
  | nil => rfl
  | cons r l ih =>
    have : r.2 = 0 := h0 r (by simp)
    rw [opsR, if_neg (by omega)]
    exact ih fun x hx => h0 x (by simp [hx])
theorem lim_ok {t : Tm} (h : (lim t).2 = 0) : lim t = (t, 0) ∧ smallB t = true := by
  unfold lim at h ⊢
  split at h
  · rename_i hs; exact ⟨by rw [if_pos hs], hs⟩
  · cases h
theorem cmpP_mul (p q : Pt) (n : Int) : cmpP (mulP p n) (mulP q n) = cmpP p q := by rw [cmpP_eq, cmpP_eq]; rfl
theorem ascB_mul (n : Int) : ∀ l : List Pt, ascB (l.map fun p => mulP p n) = ascB l
  | [] => rfl
  | [p] => rfl
  | p :: q :: r => by
    have := ascB_mul n (q :: r)
    simp only [qL, ascB, cmpP_mul] at this ⊢
    rw [this]
theorem vldP_mul {p : Pt} {n : Int} (hn : n ≠ 0) (h : vldP p = true) : vldP (mulP p n) = true := by
  rw [vldP_eq] at h ⊢
  simp only [jG, decide_eq_true_eq] at h
  obtain ⟨h1, h2⟩ := h
  rw [show decide ((mulP p n).coef ≠ 0) = true from jI (Int.mul_ne_zero h1 hn)]
  exact h2
theorem vld0 : vldT tm0 = true := by decide
theorem scale_vld {t : Tm} {n : Int} (h : vldT t = true) (hs : (scale t n).2 = 0) : vldT (scale t n).1 = true := by
  unfold scale at hs ⊢
  by_cases hn : n = 0
  · rw [if_pos hn]; exact vld0
  · rw [if_neg hn] at hs ⊢
    obtain ⟨h1, h2⟩ := lim_ok hs
    rw [h1]
    rw [vldT_eq] at h ⊢
    simp only [jG] at h ⊢
    refine ⟨⟨vldPs_iff.2 fun p hp => ?_, ?_⟩, h2⟩
    · obtain ⟨q, hq, rfl⟩ := jE.1 hp
      exact vldP_mul hn (vldPs_iff.1 h.1.1 q hq)
    · exact (ascB_mul n t.ps).trans h.1.2
theorem tm0_cnt : tm0.cnt ≤ 1 := by decide
theorem lim_cnt' {t : Tm} : (lim t).1.cnt ≤ t.cnt := by
  unfold lim; split
  · exact jA _
  · exact jB tm0_cnt t.cnt_pos
theorem scale_cnt (t : Tm) (n : Int) : (scale t n).1.cnt ≤ t.cnt := by
  unfold scale; split
  · exact jB tm0_cnt t.cnt_pos
  · have := lim_cnt' (t := mulT t n); rw [mul_cnt] at this; exact this
theorem div_cnt (t : Tm) (b : Int) : (div t b).1.cnt ≤ t.cnt + 2 := by
  have h1 := t.cnt_pos
  have h2 := tm0_cnt
  unfold div
  split
  · show tm0.cnt ≤ _; omega
  · split
    · exact Nat.le_add_right _ _
    · split
      · show 1 + (0 + 0) ≤ _; omega
      · have := lim_cnt' (t := divT t b); rw [divT_cnt] at this; exact this
theorem div_vld {t : Tm} {b : Int} (h : vldT t = true) (hs : (div t b).2 = 0) : vldT (div t b).1 = true := by
  unfold div at hs ⊢
  split at hs
  · cases hs
  · rename_i h1
    rw [if_neg h1]
    split at hs
    · rename_i h2; rw [if_pos h2]; exact h
    · rename_i h2
      rw [if_neg h2]
      split at hs
      · rename_i h3
        rw [if_pos h3]
        have hc := (vld_coef h).1
        have hd : (t.c / b).natAbs ≤ 2 ^ 40 := by
          have h4 := Int.ediv_mul_add_emod t.c b
          have h5 := Int.emod_nonneg t.c (show b ≠ 0 by omega)
          have h6 := Int.emod_lt_of_pos t.c (show 0 < b by omega)
          have h7 : -(2 ^ 40) ≤ t.c / b := (Int.le_ediv_iff_mul_le (show 0 < b by omega)).2 (by omega)
          have h8 : t.c / b ≤ 2 ^ 40 := Int.ediv_le_of_le_mul (show 0 < b by omega) (by omega)
          omega
        rw [vldT_eq]
        simp only [vldPs, ascB, Bool.true_and]
        exact smallB_iff.2 ⟨hd, by simp, by simp only [bndT, bndPs]; omega⟩
      · rename_i h3
        rw [if_neg h3]
        obtain ⟨e1, e2⟩ := lim_ok hs
        rw [e1, vldT_eq, e2]
        have hne : t.ps.isEmpty = false := by cases hp : t.ps with | nil => rw [hp] at h3; simp at h3 | cons => rfl
        simp [divT, vldPs, vldP, vldO, ascB, h, hne]
        omega
theorem XW.pt0 {a b c d : A} : XW (.c (.g [a, b, c, d, nA])) (.c (.g [a, b, c, d, .t (.sl .un 2 [])])) := ⟨rfl, fun cx v h => by
  obtain ⟨us, rfl, h1, h2⟩ := h
  refine ⟨us, rfl, by simpa using h1, fun i x v hx hv => ?_⟩
  match i with
  | 0 => simp at hx; subst hx; exact h2 0 _ v rfl hv
  | 1 => simp at hx; subst hx; exact h2 1 _ v rfl hv
  | 2 => simp at hx; subst hx; exact h2 2 _ v rfl hv
  | 3 => simp at hx; subst hx; exact h2 3 _ v rfl hv
  | 4 =>
    simp at hx; subst hx
    exact XW.nilU.2 cx v (h2 4 _ v rfl hv)
  | i + 5 => simp at hx⟩
theorem bok_c {n : Int} (h : R64 n) : bokT ⟨n, []⟩ := ⟨h, by simp, by simp⟩
theorem bok_v {k v : Int} (hk : k ≠ 2) : bokT ⟨0, [⟨1, k, v, 0, []⟩]⟩ := by
  refine ⟨by show -9223372036854775808 ≤ (0 : Int) ∧ (0 : Int) ≤ 9223372036854775807; decide, fun p hp => ?_, fun p hp => ?_⟩
  · obtain rfl : p = ⟨1, k, v, 0, []⟩ := by simpa using hp
    show -9223372036854775808 ≤ (1 : Int) ∧ (1 : Int) ≤ 9223372036854775807
    decide
  · obtain rfl : p = ⟨1, k, v, 0, []⟩ := by simpa using hp
    exact fun h => absurd h hk
theorem cnt_c {n : Int} : (⟨n, []⟩ : Tm).cnt ≤ 100000 := by show 1 + (0 + 0) ≤ 100000; decide
theorem cnt_v {k v : Int} : (⟨0, [⟨1, k, v, 0, []⟩]⟩ : Tm).cnt ≤ 100000 := by show 1 + (1 + max 0 0) ≤ 100000; decide
structure rgE (e : Ex) : Prop where
  vn : R64 e.vn
  len : e.args.length ≤ 1000000
  vs : ∀ a ∈ e.args, a.vs.size ≤ 1152921504606846976
end Go.Proofs.YtgnnjebfoffphaaGreatDoor.W
