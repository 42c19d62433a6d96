import Derived.Test.YtgnnjebfoffphaaGreatDoorM14
set_option maxRecDepth 20000
set_option maxHeartbeats 4000000
set_option linter.unusedSectionVars false
set_option linter.unusedSimpArgs false
set_option linter.unusedVariables false
namespace Go.Proofs.YtgnnjebfoffphaaGreatDoor.W
open Fx
open Go.RowKit E M
theorem bCe {a b : Bool} (h : a = b) : X.c (bC a) = X.c (bC b) := by rw [h]
theorem vT0 {p : Pt} (h : p.coef = 0) : vldP p = false := by rw [vldP_eq]; simp [h]
theorem cnt_p {t : Tm} {p : Pt} (hp : p ∈ t.ps) : p.cnt < t.cnt := by
  have := cntPs_mem hp
  rw [Tm.cnt_eq]; omega
abbrev bF : AO := .row 242 2 [.t (.v (.pointer none)), nA]
abbrev bU (k kt : Nat) (z : Nz) (s : ByteArray) : AO := .row 242 2 [.bp k 0, .ts kt z 1 (bT s)]
structure BU (H0 H : Heap) (k : Nat) (s : ByteArray) : Prop where
  k0 : H0 k = none
  sub : ∀ j o, H0 j = some o → H j = some o
  st : (s = ByteArray.empty ∧ H k = some bF) ∨ ∃ kt z, H k = some (bU k kt z s) ∧ H kt = some (.tip 5 1 (bT s).length) ∧ H0 kt = none ∧ kt ≠ k
theorem upd_lt {α : Type} {H : Nat → Option α} {k j : Nat} {x : α} (h : upd H k (some x) j = none) : j ≠ k ∧ H j = none := by
  by_cases e : j = k
  · subst e; rw [upd_same] at h; cases h
  · rw [upd_ne _ _ e] at h; exact ⟨e, h⟩
theorem ptT_len (p : Pt) : (ptT p).length = 5 := rfl
theorem QV.xw {P : Program} {o : Oper} {s : S} {x y : X} (h : QV P o s x) (hx : XW x y) : QV P o s y := by
  refine ⟨fun d e => (by rw [hx.1] at e; cases e), fun c w a hm hr => ?_⟩
  refine wp_weak0 (h.2 c w a hm hr) ?_
  rintro a' w' ⟨v, c', h1, h2, h3⟩
  exact ⟨v, c', h1, hx.2 _ _ h2, h3⟩
theorem clone_row (H : Heap) (z : Nz) (l : List Pt) (hb : l.length ≤ 100000) : E.Spec Tryz.prog 214 [.a (.t (.sl z 5 (l.map ptT)))] H fun x H' => ∃ k, H k = none ∧ x = .c (.a (.os k 0 l.length 5)) ∧ H' = upd H k (some (.row 219 5 (rowE ptT l))) := by
 refine Spec.enter Tryz.func214 rfl ?_
 refine AW.wk (wK 8 (l := [(0, .c (.a (.t (.sl z 5 (l.map ptT)))))]) (ll := []) (H := (H))) ?_
 refine D1 ?_
 refine AW.seq (D1 ?_)
 refine SeqK.eqlNU rfl rfl rfl rfl rfl rfl nk197 (fun b4 hb4 => ?_)
 refine Z4 ?_
 refine AW.cond _ rfl (fun h4 => ?_) (fun h4 => ?_)
 ·
  have he := hb4 h4
  have he2 : l = [] := List.map_eq_nil_iff.1 he
  refine D1 ?_
  refine AW.gh (Gh.row 2 219 5 rfl) ?_
  rintro s1 ⟨k2, hk2, rfl⟩
  exact aR (fin_x (x := .c _) (_) (.tmp rfl .nil) rfl (fun _ _ h => h) (⟨k2, hk2, by rw [he2]; rfl, by rw [he2]; rfl⟩))
 refine AW.skip (sR (sQ (q_build0 rfl el197) ?_))
 refine sM ?_
 refine SeqK.appZR (es := l.map ptT) rfl rfl el197 rfl rfl (by simp; omega) rfl rfl (fun k7 hk7 => ?_)
 rw [show (l.map ptT).length = l.length by simp]
 refine sB ?_
 exact aR (fin_x (x := .c _) (_) (.tmp rfl .nil) rfl (fun _ _ h => h) (⟨k7, hk7, rfl, rfl⟩))
theorem upd_upd' {α : Type} (H : Nat → α) (k : Nat) (x y : α) : upd (upd H k x) k y = upd H k y := by
  funext j
  by_cases h : j = k
  · subst h; rw [upd_same, upd_same]
  · rw [upd_ne _ _ h, upd_ne _ _ h, upd_ne _ _ h]
theorem xwOf {l : List Tm} {h : 0 < l.length} (h1 : l.length = 1) : XW (.c (.a (.t (.sl .nn 2 [tmL l[0]])))) (.c (.a (.t (.sl .un 2 (l.map tmT))))) := by
  match l, h1 with
  | [o], _ =>
    have : [o].map tmT = [tmL o] := by rw [qL, List.map_nil, tmT_eq]
    rw [this]; exact XW.un
structure oneP (p : Pt) : Prop where
  len : p.of.length ≤ 1
  sub : ∀ o ∈ p.of, vldT o = true
theorem vldP_one {p : Pt} (h : vldP p = true) : oneP p := by
  rw [vldP_eq] at h
  split at h
  · simp only [jG, List.isEmpty_iff] at h
    exact ⟨by rw [h.2.2]; simp, by rw [h.2.2]; simp⟩
  · simp only [jG] at h
    have h3 := h.2.2
    cases ho : p.of with
    | nil => exact ⟨by rw [ho]; simp, by rw [ho]; simp⟩
    | cons o r =>
      cases r with
      | cons o2 r2 => rw [ho] at h3; simp [vldO] at h3
      | nil =>
        rw [ho] at h3
        simp only [vldO, jG] at h3
        exact ⟨by rw [ho]; simp, by rw [ho]; intro x hx; simp at hx; subst hx; exact h3.2⟩
theorem vldT_one {t : Tm} (h : vldT t = true) : ∀ p ∈ t.ps, oneP p := fun p hp => by
  rw [vldT_eq] at h
  simp only [jG] at h
  exact vldP_one (vldPs_iff.1 h.1.1 p hp)
theorem clone_of (H : Heap) (t : Tm) (h1 : ∀ p ∈ t.ps, oneP p) (hN : t.cnt ≤ 100000) (ih : ∀ p ∈ t.ps, ∀ o ∈ p.of, vldT o = true → Pu 198 [tmC o] (.c (tmC o))) : E.Spec Tryz.prog 198 [tmC t] H fun x H' => ∃ k, H k = none ∧ x = .c (.g [.t (.v (.int .i64 t.c)), .os k 0 t.ps.length 5]) ∧ H' = upd H k (some (.row 219 5 (rowE ptT t.ps))) := by
 refine Spec.enter Tryz.func198 rfl ?_
 refine AW.wk (wK 34 (l := [(0, .c (tmC t))]) (ll := []) (H := (H))) ?_
 refine D3 ?_
 refine AW.seq ?_
 have hlt := len_ps t
 refine B2 ?_
 refine SeqK.callE rfl rfl rfl rfl fn214 rfl (clone_row _ .un t.ps (by omega)) (fun _ _ ⟨_, _, h, _⟩ => by rw [h]; rfl) (fun x7 H7 q7 => ?_)
 obtain ⟨k7, hk7, rfl, rfl⟩ := q7
 refine G3 ?_
 refine AW.seq (D2 ?_)
 refine sQ (q_lenOs rfl un197 rfl) ?_
 refine G2 ?_
 refine AW.block (AW.loop (fun (i : Nat) s => (i ≤ t.ps.length) ∧ s = ⟨34, sp [(1, .lp 1 0), (2, .lp 2 0), (10, .c (.a (.os k7 0 t.ps.length 5))), (11, iX .i64 ((t.ps.length : Nat) : Int)), (12, nX i)], lv [(1, .box [.t (.v (.int .i64 t.c)), .os k7 0 t.ps.length 5]), (2, .box zL0)], upd H k7 (some (.row 219 5 (rowE ptT t.ps)))⟩) (fun i => t.ps.length - i) 0 ⟨_, by exact wK 34, qZ _, rfl⟩ (fun i s hs => ?_))
 obtain ⟨hi0, rfl⟩ := hs
 refine D2 ?_
 refine AW.seq ?_
 refine cD ?_ ?_ <;> intro h13
 rotate_left
 ·
  refine AW.exit ?_
  refine eth_e ?_
  refine eth_e ?_
  refine exit_here ?_
  refine D3 ?_
  refine AW.ret ?_
  exact fin_x (x := .c _) (_) (.cellL rfl rfl ty199 rfl rfl .nil) rfl (fun _ _ h => h) (⟨k7, hk7, rfl, rfl⟩)
 have hi : i < t.ps.length := by omega
 have h1i := h1 _ (qC hi)
 refine AW.skip (AW.seq (AW.block (D1 ?_)))
 refine sQ (q_indexOs _ rfl sl197 rfl rfl (by omega) (by omega) rfl) ?_
 refine SeqK.r (g_loadR rfl ty219 rfl (upd_same _ _ _) (congrArg (mkC _) (row_load ptT_len hi)) (row_in0 ptT_len hi) (by decide) rfl rfl) rfl ?_
 refine G4 ?_
 refine D5 ?_
 refine cD ?_ ?_ <;> intro h20
 rotate_left
 ·
  refine AW.skip (B3 ?_)
  exact ⟨i + 1, _, by exact wK 34, by omega, hi, rfl⟩
 have hp0 : 0 < t.ps[i].of.length := by rw [qA] at h20; omega
 have hp1 : t.ps[i].of.length = 1 := by have := h1i.len; omega
 refine AW.draw mo ?_
 refine N5 ?_
 refine Z28 sl217 (idx_tm hp0) ?_
 refine N1 ?_
 refine Z35 fn198 (ih _ (qC hi) _ (qC hp0) (h1i.sub _ (qC hp0))) ?_
 refine lQ (QV.xw (q_buildSlice _ rfl el217 rfl (by decide) rfl) (xwOf (h := hp0) hp1)) ?_
 refine lQ (q_indexOs _ rfl sl197 rfl rfl (by omega) (by omega) rfl) ?_
 refine lQ (q_fieldH _ rfl fl219_4 rfl rfl) ?_
 refine LexK.r (g_storeR rfl rfl ty217 rfl rfl (upd_same _ _ _) ((row_stf (v := [.t (.sl .un 2 (t.ps[i].of.map tmT))]) ptT_len hi (by simp) t.ps[i] rfl).trans (by rw [List.set_getElem_self])) rfl (row_in ptT_len hi (by decide)) (by decide)) rfl ?_
 refine Z43 ?_
 rw [upd_upd' H k7]
 refine B3 ?_
 exact ⟨i + 1, _, by exact wK 34, by omega, hi, rfl⟩
theorem upd_back {α : Type} {H : Nat → Option α} {k : Nat} {x : Option α} (h : H k = none) : upd (upd H k x) k none = H := by
  funext j
  by_cases e : j = k
  · subst e; rw [upd_same, h]
  · rw [upd_ne _ _ e, upd_ne _ _ e]
theorem clone_any (t : Tm) : (∀ p ∈ t.ps, oneP p) → t.cnt ≤ 100000 → Pu 198 [tmC t] (.c (tmC t)) := by
  induction t using Tm.ind with
  | h t ih =>
    intro h1 hN H
    refine E.Spec.freeze (clone_of H t h1 hN fun p hp o ho hv => ih p hp o ho (vldT_one hv) (by have := cnt_of hp ho; omega)) fun x H' ⟨k, hk, hx, hH⟩ => ?_
    subst hx hH
    refine ⟨k, 5, 219, t.ps.map ptT, upd_same _ _ _, fun e he => by obtain ⟨p, _, rfl⟩ := jE.1 he; rfl, by decide, ?_, upd_back hk⟩
    simp [fzX, fzC, fzA]
theorem XW.tm0 {n : Int} : XW (.c (.g [.t (.v (.int .i64 n)), nA])) (.c (tmC ⟨n, []⟩)) := ⟨rfl, fun c v h => by
  obtain ⟨us, rfl, h1, h2⟩ := h
  refine ⟨us, rfl, by simpa using h1, fun i x v hx hv => ?_⟩
  match i with
  | 0 => simp at hx; subst hx; exact h2 0 _ v rfl hv
  | 1 =>
    simp at hx; subst hx
    exact XW.nilU.2 c v (h2 1 _ v rfl hv)
  | i + 2 => simp at hx⟩
theorem XW.tmA {n : Int} {a b : A} (h : XW (.c (.a a)) (.c (.a b))) : XW (.c (.g [.t (.v (.int .i64 n)), a])) (.c (.g [.t (.v (.int .i64 n)), b])) := ⟨rfl, fun c v h0 => by
  obtain ⟨us, rfl, h1, h2⟩ := h0
  refine ⟨us, rfl, by simpa using h1, fun i x v hx hv => ?_⟩
  match i with
  | 0 => simp at hx; subst hx; exact h2 0 _ v rfl hv
  | 1 =>
    simp at hx; subst hx
    exact h.2 c v (h2 1 _ v rfl hv)
  | i + 2 => simp at hx⟩
abbrev tm0 : Tm := ⟨0, []⟩
def lim (t : Tm) : Tm × Int := if smallB t = true then (t, 0) else (tm0, 3)
abbrev trC (r : Tm × Int) : X := .tup [tmC r.1, iC r.2]
theorem checked_any (t : Tm) (h : bokT t) (hN : t.cnt ≤ 100000) : Pu 195 [tmC t] (trC (lim t)) := by
 intro H
 refine Spec.enter Tryz.func195 rfl ?_
 refine AW.wk (wK 9 (l := [(0, .c (tmC t))]) (ll := []) (H := (H))) ?_
 refine D3 ?_
 refine AW.seq (D1 ?_)
 refine Z16 fn212 (small_any t h hN) ?_
 refine G2 ?_
 refine AW.cond _ rfl (fun h6 => ?_) (fun h6 => ?_)
 ·
  refine D1 ?_
  refine SeqK.xw 7 rfl XW.tm0 ?_
  refine G2 ?_
  exact aR (f2 (.cellL rfl rfl ty199 rfl rfl (.tmp rfl .nil)) (⟨by rw [lim, if_neg (by intro hs; rw [hs] at h6; cases h6)]; rfl, rfl⟩))
 refine AW.skip (D3 ?_)
 exact aR (f2 (.cellL rfl rfl ty199 rfl rfl (.tmp rfl .nil)) (⟨by rw [lim, if_pos (by simpa using h6)]; rfl, rfl⟩))
def mulP (p : Pt) (n : Int) : Pt := ⟨p.coef * n, p.kind, p.var, p.dv, p.of⟩
def mulT (t : Tm) (n : Int) : Tm := ⟨t.c * n, t.ps.map fun p => mulP p n⟩
def scale (t : Tm) (n : Int) : Tm × Int := if n = 0 then (tm0, 0) else lim (mulT t n)
abbrev sclP (l : List Pt) (n : Int) (i : Nat) : List Pt := (l.take i).map (fun p => mulP p n) ++ l.drop i
theorem sclP_len (l : List Pt) (n : Int) (i : Nat) : (sclP l n i).length = l.length := by simp [sclP]; omega
theorem sclP_at {l : List Pt} {n : Int} {i : Nat} (hi : i < l.length) (h : i < (sclP l n i).length) : (sclP l n i)[i] = l[i] := by
  simp [sclP, List.getElem_append, Nat.min_eq_left (Nat.le_of_lt hi)]
theorem sclP_set {l : List Pt} {n : Int} {i : Nat} (hi : i < l.length) : (sclP l n i).set i (mulP l[i] n) = sclP l n (i + 1) := by
  unfold sclP
  have h1 : ((l.take i).map (fun p => mulP p n)).length = i := by simp; omega
  rw [List.set_append, if_neg (by omega), h1, Nat.sub_self, qH hi, List.set_cons_zero, qJ hi, qK, qO]
  rfl
theorem sclP_end (l : List Pt) (n : Int) : sclP l n l.length = l.map fun p => mulP p n := by simp [sclP]
theorem mul_small {t : Tm} {n : Int} (hs : smallB (mulT t n) = true) : t.c.natAbs * n.natAbs ≤ 2 ^ 40 ∧ ∀ p ∈ t.ps, p.coef.natAbs * n.natAbs ≤ 2 ^ 20 := by
  have h := smallB_iff.1 hs
  refine ⟨by have := h.1; rw [← Int.natAbs_mul]; exact this, fun p hp => ?_⟩
  have := h.2.1 (mulP p n) (List.mem_map_of_mem hp)
  rw [← Int.natAbs_mul]; exact this
theorem mul_bok {t : Tm} {n : Int} (h : bokT t) (hc : t.c.natAbs * n.natAbs ≤ 2 ^ 40) (hp : ∀ p ∈ t.ps, p.coef.natAbs * n.natAbs ≤ 2 ^ 20) : bokT (mulT t n) := by
  refine ⟨?_, fun p hp' => ?_, fun p hp' => ?_⟩
  · rw [← Int.natAbs_mul] at hc
    show -9223372036854775808 ≤ t.c * n ∧ t.c * n ≤ 9223372036854775807
    omega
  · obtain ⟨q, hq, rfl⟩ := jE.1 hp'
    have := hp q hq
    rw [← Int.natAbs_mul] at this
    show -9223372036854775808 ≤ q.coef * n ∧ q.coef * n ≤ 9223372036854775807
    omega
  · obtain ⟨q, hq, rfl⟩ := jE.1 hp'
    exact h.part q hq
theorem mul_cnt (t : Tm) (n : Int) : (mulT t n).cnt = t.cnt := by
  have key : ∀ l : List Pt, mxPs (l.map fun p => mulP p n) = mxPs l := fun l => by
    induction l with
    | nil => rfl
    | cons p r ih => rw [qL, mxPs, mxPs, ih]; rw [Pt.cnt_eq, Pt.cnt_eq]; rfl
  rw [Tm.cnt_eq, Tm.cnt_eq, cntPs, cntPs]
  show 1 + ((t.ps.map fun p => mulP p n).length + mxPs (t.ps.map fun p => mulP p n)) = _
  rw [key, qA]
theorem w64m {a b : Int} {M : Nat} (hM : M ≤ 2 ^ 60) (h : a.natAbs * b.natAbs ≤ M) : IntKind.i64.wrap (a * b) = a * b := by
  rw [← Int.natAbs_mul] at h
  exact w64 (by omega) (by omega)
theorem cap_le_iff {x m : Nat} (hm : m ≤ 2 ^ 60) : ((cap x : Nat) : Int) > (m : Int) ↔ m < x := by unfold cap; omega
theorem cloneR_any (H : Heap) (t : Tm) (h1 : ∀ p ∈ t.ps, oneP p) (hN : t.cnt ≤ 100000) : E.Spec Tryz.prog 198 [tmC t] H fun x H' => ∃ k, H k = none ∧ x = .c (.g [.t (.v (.int .i64 t.c)), .os k 0 t.ps.length 5]) ∧ H' = upd H k (some (.row 219 5 (rowE ptT t.ps))) :=
  clone_of H t h1 hN fun p hp o ho hv => clone_any o (vldT_one hv) (by have := cnt_of hp ho; omega)
theorem scale_no {t : Tm} {n : Int} (h0 : n ≠ 0) (h : ¬ (t.c.natAbs * n.natAbs ≤ 2 ^ 40 ∧ ∀ p ∈ t.ps, p.coef.natAbs * n.natAbs ≤ 2 ^ 20)) : scale t n = (tm0, 3) := by
  rw [scale, if_neg h0, lim, if_neg (fun hs => h (mul_small hs))]
theorem scale_any (t : Tm) (n : Int) (h : bokT t) (h1 : ∀ p ∈ t.ps, oneP p) (hn : R64 n) (hN : t.cnt ≤ 100000) : Pu 181 [tmC t, iC n] (trC (scale t n)) := by
 intro H
 refine Spec.enter Tryz.func181 rfl ?_
 refine AW.wk (wK 57 (l := [(0, .c (tmC t)), (1, .c (iC n))]) (ll := []) (H := (H))) ?_
 refine D3 ?_
 refine AW.seq (D3 ?_)
 refine cD ?_ ?_ <;> intro h10
 ·
  refine D1 ?_
  refine SeqK.xw 11 rfl XW.tm0 ?_
  refine G2 ?_
  exact aR (f2 (.cellL rfl rfl ty199 rfl rfl (.tmp rfl .nil)) (⟨by rw [scale, if_pos h10]; rfl, rfl⟩))
 refine AW.skip (AW.seq (AW.seq ?_))
 have hlt := len_ps t
 have hcR := h.c
 refine B2 ?_
 refine sQ (q_call _ rfl fn197 rfl (abs_any _ (by first | exact h.c | exact hn | exact h.coef _ (qC hi))) rfl) ?_
 refine sM ?_
 refine sQ (q_call _ rfl fn197 rfl (abs_any _ (by first | exact h.c | exact hn | exact h.coef _ (qC hi))) rfl) ?_
 refine sQ (q_call _ rfl fn196 rfl (times_any _ _ (by omega) (by omega)) rfl) ?_
 refine G2 ?_
 refine cD ?_ ?_ <;> intro h18
 ·
  refine D1 ?_
  refine SeqK.xw 19 rfl XW.tm0 ?_
  refine G2 ?_
  exact aR (f2 (.cellL rfl rfl ty199 rfl rfl (.tmp rfl .nil)) (⟨by rw [scale_no h10 (fun hh => absurd hh.1 (Nat.not_le_of_lt ((cap_le_iff (m := 2 ^ 40) (by decide)).1 h18)))]; rfl, rfl⟩))
 refine AW.skip (AW.seq ?_)
 have hcM : t.c.natAbs * n.natAbs ≤ 2 ^ 40 := Nat.le_of_not_lt (fun hh => h18 ((cap_le_iff (m := 2 ^ 40) (by decide)).2 hh))
 refine B1 ?_
 refine SeqK.callE rfl rfl rfl rfl fn198 rfl (cloneR_any _ t h1 hN) (fun _ _ ⟨_, _, h, _⟩ => by rw [h]; rfl) (fun x21 H21 q21 => ?_)
 obtain ⟨k21, hk21, rfl, rfl⟩ := q21
 refine G3 ?_
 refine D3 ?_
 refine sQ (q_mul _ rfl rfl rfl (w64m (M := 2 ^ 40) (by decide) hcM)) ?_
 refine G3 ?_
 refine AW.seq (D5 ?_)
 refine AW.block (AW.loop (fun (i : Nat) s => (i ≤ t.ps.length ∧ ∀ p ∈ t.ps.take i, p.coef.natAbs * n.natAbs ≤ 2 ^ 20) ∧ s = ⟨57, sp [(1, .c (iC n)), (2, .lp 2 0), (4, .lp 4 0), (5, .c (iC 0)), (6, .lp 6 0), (28, .c (.a (.t (.sl .un 5 (t.ps.map ptT))))), (29, iX .i64 (((t.ps.map ptT).length : Nat) : Int)), (30, nX i)], lv [(2, .box (zTm t)), (4, .box zL0), (6, .box [.t (.v (.int .i64 (t.c * n))), .os k21 0 t.ps.length 5])], upd H k21 (some (.row 219 5 (rowE ptT (sclP t.ps n i))))⟩) (fun i => t.ps.length - i) 0 ⟨_, by exact wK 57, ⟨qZ _, by simp⟩, rfl⟩ (fun i s hs => ?_))
 obtain ⟨⟨hi0, hall⟩, rfl⟩ := hs
 refine D2 ?_
 refine AW.seq ?_
 refine cD ?_ ?_ <;> intro h31
 rotate_left
 ·
  refine AW.exit ?_
  refine eth_e ?_
  refine eth_e ?_
  refine exit_here ?_
  refine AW.seq ?_
  obtain rfl := oE h31 hi0
  rw [qT] at hall
  rw [sclP_end]
  refine B1 ?_
  refine SeqK.gh (Gh.freeze k21 5 219 ((mulT t n).ps.map ptT) (upd_same _ _ _) (fun e he => by obtain ⟨p, _, rfl⟩ := jE.1 he; rfl) (by decide)) ?_
  rintro s1 rfl
  refine SeqK.gh (Wk.gh (Wk.keep 57 [(4, .lp 4 0), (5, .c (iC 0)), (53, .c (tmC (mulT t n)))] [(4, .box zL0)] (H) rfl ⟨rfl, rfl, by show fzX _ _ _ (.c (.g [.t (.v (.int .i64 (t.c * n))), .os k21 0 t.ps.length 5])) = _; rw [show t.ps.length = ((mulT t n).ps.map ptT).length by simp [mulT]]; simp [fzX, fzC, fzA, mulT], trivial⟩ ⟨rfl, trivial⟩ (fun j o h => by show upd (upd H k21 _) k21 none j = _; rw [upd_back hk21]; exact h) rfl)) ?_
  rintro s1 rfl
  refine sQ (q_call _ rfl fn195 rfl (checked_any (mulT t n) (mul_bok h hcM hall) (by rw [mul_cnt]; exact hN)) rfl) ?_
  refine G4 ?_
  exact aR (f2 (.cellL rfl rfl ty199 rfl rfl (.tmp rfl .nil)) (⟨by rw [scale, if_neg h10]; rfl, rfl⟩))
 have hi := oI h31
 have hcf := h.coef _ (qC hi)
 refine AW.skip (AW.seq (AW.block (D7 ?_)))
 refine AW.seq (D2 ?_)
 refine sQ (q_call _ rfl fn197 rfl (abs_any _ (by first | exact h.c | exact hn | exact h.coef _ (qC hi))) rfl) ?_
 refine sM ?_
 refine sQ (q_call _ rfl fn197 rfl (abs_any _ (by first | exact h.c | exact hn | exact h.coef _ (qC hi))) rfl) ?_
 refine sQ (q_call _ rfl fn196 rfl (times_any _ _ (by omega) (by omega)) rfl) ?_
 refine G2 ?_
 refine cD ?_ ?_ <;> intro h41
 ·
  refine D1 ?_
  refine SeqK.xw 42 rfl XW.tm0 ?_
  refine G2 ?_
  exact aR (fin_x (x := .tup [_, _]) (H) (.cellL rfl rfl ty199 rfl rfl (.tmp rfl .nil)) rfl (fun j o h => by show upd H k21 _ j = _; rw [upd_ne _ _ (fun e => by subst e; rw [hk21] at h; cases h)]; exact h) (⟨by rw [scale_no h10 (fun hh => absurd (hh.2 _ (qC hi)) (Nat.not_le_of_lt ((cap_le_iff (m := 2 ^ 20) (by decide)).1 h41)))]; rfl, rfl⟩))
 refine AW.skip ?_
 have hcoM : t.ps[i].coef.natAbs * n.natAbs ≤ 2 ^ 20 := Nat.le_of_not_lt (fun hh => h41 ((cap_le_iff (m := 2 ^ 20) (by decide)).2 hh))
 have hsl := sclP_len t.ps n i
 refine B6 ?_
 refine sQ (q_mul _ rfl rfl rfl (w64m (M := 2 ^ 20) (by decide) hcoM)) ?_
 refine sQ (q_indexOs _ rfl sl197 rfl rfl (by omega) (by omega) rfl) ?_
 refine sQ (q_fieldH _ rfl fl219_0 rfl rfl) ?_
 refine SeqK.r (g_storeR rfl rfl ty2 rfl rfl (upd_same _ _ _) ((row_stf (v := [.t (.v (.int .i64 (t.ps[i].coef * n)))]) ptT_len (show i < (sclP t.ps n i).length by omega) (by simp) (mulP t.ps[i] n) (by rw [sclP_at hi]; rfl)).trans (by rw [sclP_set hi])) rfl (row_in ptT_len (show i < (sclP t.ps n i).length by omega) (by decide)) (by decide)) rfl ?_
 refine Z4 ?_
 rw [upd_upd' H k21]
 refine B3 ?_
 exact ⟨i + 1, _, by exact wK 57, by omega, ⟨hi, take_step hi hall hcoM⟩, rfl⟩
abbrev divT (t : Tm) (b : Int) : Tm := ⟨0, [⟨1, 2, 0, b, [t]⟩]⟩
def div (t : Tm) (b : Int) : Tm × Int := if b < 1 ∨ b > 1000 then (tm0, 1) else if b = 1 then (t, 0) else if (t.ps.length : Int) = 0 then (⟨t.c / b, []⟩, 0) else lim (divT t b)
theorem divT_bok {t : Tm} {b : Int} (hv : vldT t = true) (h1 : 1 ≤ b) (h2 : b ≤ 1000) : bokT (divT t b) := by
  refine ⟨by show -9223372036854775808 ≤ (0 : Int) ∧ (0 : Int) ≤ 9223372036854775807; decide, fun p hp => ?_, fun p hp => ?_⟩
  · obtain rfl : p = ⟨1, 2, 0, b, [t]⟩ := by simpa using hp
    show -9223372036854775808 ≤ (1 : Int) ∧ (1 : Int) ≤ 9223372036854775807
    decide
  · obtain rfl : p = ⟨1, 2, 0, b, [t]⟩ := by simpa using hp
    exact fun _ => ⟨⟨h1, h2⟩, by simp, hv⟩
theorem divT_cnt (t : Tm) (b : Int) : (divT t b).cnt = t.cnt + 2 := by
  show 1 + (1 + max (t.cnt + 0) 0) = t.cnt + 2
  omega
theorem div_any (t : Tm) (b : Int) (hv : vldT t = true) (hN : t.cnt ≤ 90000) : Pu 200 [tmC t, iC b] (trC (div t b)) := by
 intro H
 refine Spec.enter Tryz.func200 rfl ?_
 refine AW.wk (wK 39 (l := [(0, .c (tmC t)), (1, .c (iC b))]) (ll := []) (H := (H))) ?_
 refine D3 ?_
 refine AW.seq (AW.block (D2 ?_))
 refine Z17 ?_ ?_ <;> intro g9
 ·
  iterate 2 refine oF ?_
  refine G2 ?_
  refine AW.condT rfl ?_
  refine D1 ?_
  refine SeqK.xw 13 rfl XW.tm0 ?_
  refine G2 ?_
  exact aR (f2 (.cellL rfl rfl ty199 rfl rfl (.tmp rfl .nil)) (⟨by rw [div, if_pos (by omega)]; rfl, rfl⟩))
 refine G4 ?_
 refine cD ?_ ?_ <;> intro h6
 ·
  refine D1 ?_
  refine SeqK.xw 13 rfl XW.tm0 ?_
  refine G2 ?_
  exact aR (f2 (.cellL rfl rfl ty199 rfl rfl (.tmp rfl .nil)) (⟨by rw [div, if_pos (by omega)]; rfl, rfl⟩))
 refine D3 ?_
 refine cD ?_ ?_ <;> intro h14
 ·
  refine D1 ?_
  refine sQ (q_call _ rfl fn198 rfl (clone_any t (vldT_one hv) (by omega)) rfl) ?_
  refine G2 ?_
  exact aR (f2 (.cellL rfl rfl ty199 rfl rfl (.tmp rfl .nil)) (⟨by rw [div, if_neg (by omega), if_pos h14]; rfl, rfl⟩))
 refine D5 ?_
 refine cD ?_ ?_ <;> intro h19
 ·
  refine D3 ?_
  refine sQ (q_call _ rfl fn216 rfl (floor_any _ _ (vldT_bok hv).c (by omega)) rfl) ?_
  refine G1 ?_
  refine SeqK.xw 28 rfl XW.tm0 ?_
  refine G2 ?_
  exact aR (f2 (.cellL rfl rfl ty199 rfl rfl (.tmp rfl .nil)) (⟨by rw [div, if_neg (by omega), if_neg h14, if_pos (by rw [qA] at h19; omega)]; rfl, rfl⟩))
 refine AW.skip (D2 ?_)
 refine sQ (q_call _ rfl fn198 rfl (clone_any t (vldT_one hv) (by omega)) rfl) ?_
 refine G1 ?_
 refine SeqK.xw 32 rfl (xwOf (l := [t]) (h := by simp) rfl) ?_
 refine G2 ?_
 refine SeqK.xw 34 rfl .un ?_
 refine G1 ?_
 refine sQ (q_call _ rfl fn195 rfl (checked_any (divT t b) (divT_bok hv (by omega) (by omega)) (by rw [divT_cnt]; omega)) rfl) ?_
 refine G4 ?_
 exact aR (f2 (.cellL rfl rfl ty199 rfl rfl (.tmp rfl .nil)) (⟨by rw [div, if_neg (by omega), if_neg h14, if_neg (by rw [qA] at h19; omega)]; rfl, rfl⟩))
def nzc (p : Pt) (l : List Pt) : List Pt := if p.coef ≠ 0 then p :: l else l
def addP (p q : Pt) : Pt := ⟨q.coef + p.coef, q.kind, q.var, q.dv, q.of⟩
def mrg : List Pt → List Pt → List Pt
  | [], [] => []
  | [], q :: s => nzc q (mrg [] s)
  | p :: r, [] => nzc p (mrg r [])
  | p :: r, q :: s => if cmpP p q < 0 then nzc p (mrg r (q :: s)) else if 0 < cmpP p q then nzc q (mrg (p :: r) s) else nzc (addP p q) (mrg r s)
termination_by a b => a.length + b.length
theorem mrg_l {a b : List Pt} {i j : Nat} (hi : i < a.length) (hj : j = b.length) : mrg (a.drop i) (b.drop j) = nzc a[i] (mrg (a.drop (i + 1)) (b.drop j)) := by
  subst hj
  rw [List.drop_length, qH hi, mrg]
theorem mrg_r {a b : List Pt} {i j : Nat} (hi : i = a.length) (hj : j < b.length) : mrg (a.drop i) (b.drop j) = nzc b[j] (mrg (a.drop i) (b.drop (j + 1))) := by
  subst hi
  rw [List.drop_length, qH hj, mrg]
theorem mrg_lt {a b : List Pt} {i j : Nat} (hi : i < a.length) (hj : j < b.length) (h : cmpP a[i] b[j] < 0) : mrg (a.drop i) (b.drop j) = nzc a[i] (mrg (a.drop (i + 1)) (b.drop j)) := by
  rw [qH hi, qH hj, mrg, if_pos h, ← qH hj]
theorem mrg_gt {a b : List Pt} {i j : Nat} (hi : i < a.length) (hj : j < b.length) (h : 0 < cmpP a[i] b[j]) : mrg (a.drop i) (b.drop j) = nzc b[j] (mrg (a.drop i) (b.drop (j + 1))) := by
  rw [qH hi, qH hj, mrg, if_neg (by omega), if_pos h, ← qH hi]
theorem mrg_eq {a b : List Pt} {i j : Nat} (hi : i < a.length) (hj : j < b.length) (h : cmpP a[i] b[j] = 0) : mrg (a.drop i) (b.drop j) = nzc (addP a[i] b[j]) (mrg (a.drop (i + 1)) (b.drop (j + 1))) := by
  rw [qH hi, qH hj, mrg, if_neg (by omega), if_neg (by omega)]
theorem put_nz {out r full : List Pt} {p : Pt} {m : List Pt} (h : m = nzc p r) (hI : out ++ m = full) (hp : p.coef ≠ 0) : (out ++ [p]) ++ r = full := by
  rw [← hI, h, nzc, if_pos hp]; simp
theorem put_z {out r full : List Pt} {p : Pt} {m : List Pt} (h : m = nzc p r) (hI : out ++ m = full) (hp : ¬ p.coef ≠ 0) : out ++ r = full := by
  rw [← hI, h, nzc, if_neg hp]
def like (l : List Pt) (p : Pt) : Prop := ∃ q ∈ l, p.kind = q.kind ∧ p.dv = q.dv ∧ p.of = q.of ∧ p.var = q.var
theorem like_mono {l l' : List Pt} {p : Pt} (h : like l p) (hs : ∀ q ∈ l, q ∈ l') : like l' p := by
  obtain ⟨q, h1, h2⟩ := h; exact ⟨q, hs q h1, h2⟩
theorem mem_nzc {p q : Pt} {l : List Pt} (h : q ∈ nzc p l) : q = p ∨ q ∈ l := by
  unfold nzc at h; split at h
  · exact jD.1 h
  · exact .inr h
theorem mrg_mem : ∀ (a b : List Pt), (∀ p ∈ a, p.coef.natAbs ≤ 2 ^ 20) → (∀ p ∈ b, p.coef.natAbs ≤ 2 ^ 20) → ∀ p ∈ mrg a b, like (a ++ b) p ∧ p.coef.natAbs ≤ 2 ^ 21
  | [], [], _, _ => by simp [mrg]
  | [], q :: s, ha, hb => by
    intro p hp
    rw [mrg] at hp
    rcases mem_nzc hp with rfl | hp
    · exact ⟨⟨p, by simp, rfl, rfl, rfl, rfl⟩, by have := hb p (by simp); omega⟩
    · obtain ⟨h1, h2⟩ := mrg_mem [] s (by simp) (fun x hx => hb x (by simp [hx])) p hp
      exact ⟨like_mono h1 (by simp; intro x hx; exact .inr hx), h2⟩
  | q :: r, [], ha, hb => by
    intro p hp
    rw [mrg] at hp
    rcases mem_nzc hp with rfl | hp
    · exact ⟨⟨p, by simp, rfl, rfl, rfl, rfl⟩, by have := ha p (by simp); omega⟩
    · obtain ⟨h1, h2⟩ := mrg_mem r [] (fun x hx => ha x (by simp [hx])) (by simp) p hp
      exact ⟨like_mono h1 (by simp; intro x hx; exact .inr hx), h2⟩
  | x :: r, y :: s, ha, hb => by
    intro p hp
    have hx := ha x (by simp)
    have hy := hb y (by simp)
    have ha' : ∀ p ∈ r, p.coef.natAbs ≤ 2 ^ 20 := fun z hz => ha z (by simp [hz])
    have hb' : ∀ p ∈ s, p.coef.natAbs ≤ 2 ^ 20 := fun z hz => hb z (by simp [hz])
    rw [mrg] at hp
    split at hp
    · rcases mem_nzc hp with rfl | hp
      · exact ⟨⟨p, by simp, rfl, rfl, rfl, rfl⟩, by omega⟩
      · obtain ⟨h1, h2⟩ := mrg_mem r (y :: s) ha' hb p hp
        exact ⟨like_mono h1 (by simp only [jC, jD]; intro z hz; rcases hz with h | h | h <;> simp [h]), h2⟩
    · split at hp
      · rcases mem_nzc hp with rfl | hp
        · exact ⟨⟨p, by simp, rfl, rfl, rfl, rfl⟩, by omega⟩
        · obtain ⟨h1, h2⟩ := mrg_mem (x :: r) s ha hb' p hp
          exact ⟨like_mono h1 (by simp only [jC, jD]; intro z hz; rcases hz with (h | h) | h <;> simp [h]), h2⟩
      · rcases mem_nzc hp with rfl | hp
        · exact ⟨⟨y, by simp, rfl, rfl, rfl, rfl⟩, by show (y.coef + x.coef).natAbs ≤ _; omega⟩
        · obtain ⟨h1, h2⟩ := mrg_mem r s ha' hb' p hp
          exact ⟨like_mono h1 (by simp only [jC, jD]; intro z hz; rcases hz with h | h <;> simp [h]), h2⟩
termination_by a b => a.length + b.length
theorem nzc_len (p : Pt) (l : List Pt) : (nzc p l).length ≤ 1 + l.length := by
  unfold nzc; split
  · rw [qM]; omega
  · omega
theorem nzc_mx (p : Pt) (l : List Pt) : mxPs (nzc p l) ≤ max p.cnt (mxPs l) := by
  unfold nzc; split
  · rw [mxPs]; omega
  · omega
theorem mrg_lm : ∀ (a b : List Pt), (mrg a b).length ≤ a.length + b.length ∧ mxPs (mrg a b) ≤ max (mxPs a) (mxPs b)
  | [], [] => by simp [mrg, mxPs]
  | [], q :: s => by
    have h1 := mrg_lm [] s
    have h2 := nzc_len q (mrg [] s)
    have h3 := nzc_mx q (mrg [] s)
    rw [mrg]; simp only [mxPs, qM, qQ] at *; omega
  | p :: r, [] => by
    have h1 := mrg_lm r []
    have h2 := nzc_len p (mrg r [])
    have h3 := nzc_mx p (mrg r [])
    rw [mrg]; simp only [mxPs, qM, qQ] at *; omega
  | p :: r, q :: s => by
    rw [mrg, mxPs, mxPs]
    split
    · have h1 := mrg_lm r (q :: s)
      have h2 := nzc_len p (mrg r (q :: s))
      have h3 := nzc_mx p (mrg r (q :: s))
      rw [mxPs] at h1; simp only [qM] at *; omega
    · split
      · have h1 := mrg_lm (p :: r) s
        have h2 := nzc_len q (mrg (p :: r) s)
        have h3 := nzc_mx q (mrg (p :: r) s)
        rw [mxPs] at h1; simp only [qM] at *; omega
      · have h1 := mrg_lm r s
        have h2 := nzc_len (addP p q) (mrg r s)
        have h3 := nzc_mx (addP p q) (mrg r s)
        have h4 : (addP p q).cnt = q.cnt := by rw [Pt.cnt_eq, Pt.cnt_eq]; rfl
        simp only [qM] at *; omega
termination_by a b => a.length + b.length
theorem mrg_cnt (a b : List Pt) : cntPs (mrg a b) ≤ cntPs a + cntPs b := by
  have := mrg_lm a b
  unfold cntPs; omega
abbrev sumT (a b : Tm) : Tm := ⟨a.c + b.c, mrg a.ps b.ps⟩
def add (a b : Tm) : Tm × Int := lim (sumT a b)
theorem vld_coef {t : Tm} (h : vldT t = true) : t.c.natAbs ≤ 2 ^ 40 ∧ ∀ p ∈ t.ps, p.coef.natAbs ≤ 2 ^ 20 := by
  have := smallB_iff.1 (vldT_small h)
  exact ⟨this.1, this.2.1⟩
theorem vld_parts {t : Tm} (h : vldT t = true) : ∀ p ∈ t.ps, vldP p = true := by
  rw [vldT_eq] at h
  simp only [jG] at h
  exact vldPs_iff.1 h.1.1
theorem sum_bok {a b : Tm} (ha : vldT a = true) (hb : vldT b = true) : bokT (sumT a b) ∧ ∀ p ∈ mrg a.ps b.ps, oneP p := by
  have hca := vld_coef ha
  have hcb := vld_coef hb
  have hm := mrg_mem a.ps b.ps hca.2 hcb.2
  have hv : ∀ q ∈ a.ps ++ b.ps, vldP q = true := fun q hq => (jC.1 hq).elim (vld_parts ha q) (vld_parts hb q)
  refine ⟨⟨by show -9223372036854775808 ≤ a.c + b.c ∧ a.c + b.c ≤ 9223372036854775807; omega, fun p hp => by have := (hm p hp).2; omega, fun p hp => ?_⟩, fun p hp => ?_⟩
  · obtain ⟨⟨q, hq, h1, h2, h3, h4⟩, _⟩ := hm p hp
    have := vldP_bok (hv q hq)
    unfold bokP at this ⊢
    rw [h1, h2]
    simp only [h3]
    exact this
  · obtain ⟨⟨q, hq, h1, h2, h3, h4⟩, _⟩ := hm p hp
    have := vldP_one (hv q hq)
    exact ⟨by rw [h3]; exact this.len, by rw [h3]; exact this.sub⟩
theorem sum_cnt (a b : Tm) : (sumT a b).cnt ≤ a.cnt + b.cnt := by
  have := mrg_cnt a.ps b.ps
  rw [Tm.cnt_eq, Tm.cnt_eq a, Tm.cnt_eq b]; show 1 + cntPs (mrg a.ps b.ps) ≤ _; omega
theorem lim_one {t : Tm} (h : ∀ p ∈ t.ps, oneP p) : ∀ p ∈ (lim t).1.ps, oneP p := by
  unfold lim; split
  · exact h
  · simp
theorem lim_cnt {t : Tm} (h : t.cnt ≤ 100000) : (lim t).1.cnt ≤ 100000 := by
  unfold lim; split
  · exact h
  · decide
theorem vld_p {t : Tm} (h : vldT t = true) {i : Nat} (hi : i < t.ps.length) : finP t.ps[i] ∧ t.ps[i].coef.natAbs ≤ 2 ^ 20 := ⟨vldP_fin' (vld_parts h _ (qC hi)), (vld_coef h).2 _ (qC hi)⟩
theorem map_put {zs : List (List E.T)} {out : List Pt} {p : Pt} (h : zs = out.map ptT) : zs ++ [ptT p] = (out ++ [p]).map ptT := by rw [h]; simp
theorem add_any (a b : Tm) (ha : vldT a = true) (hb : vldT b = true) (hN : a.cnt + b.cnt ≤ 100000) : Pure Tryz.prog 199 [tmC a, tmC b] (trC (add a b)) := by
 intro H
 refine Spec.enter Tryz.func199 rfl ?_
 refine AW.wk (Wk.keep 97 [(0, .c (tmC a)), (1, .c (tmC b))] [] (H) rfl ⟨rfl, rfl, trivial⟩ trivial (fun _ _ h => h) rfl) ?_
 refine sR (Z23 (r := [_, _]) ?_)
 refine Z23 (r := [_, _]) ?_
 refine Z20 (r := [_, _]) Fx.ze199 ?_
 refine sB ?_
 refine AW.seq ?_
 have hla := len_ps a
 have hlb := len_ps b
 have hca := vld_coef ha
 have hcb := vld_coef hb
 refine AW.reg (Z1 Fx.fl199_0 ?_)
 refine Z0 Fx.ty2 ?_
 refine Z1 Fx.fl199_0 ?_
 refine Z0 Fx.ty2 ?_
 refine Z2 ?_
 refine Z19 (zs := [_, _]) (r := [_, _]) [(0, 1), (1, 1)] Fx.ze199 Fx.bp199 ?_
 refine Z20 (r := [_, _]) Fx.ze199 ?_
 refine Z3 (r := [_, _]) Fx.ty199 ?_
 refine Z4 (AW.seq (sR (sA ?_)))
 refine sB ?_
 refine AW.block ?_
 refine AW.tipL 6 1 219 5 rfl rfl (fun k0 hk0 => ?_)
 refine AW.loop (fun (c : Nat) s => ∃ (kt : Nat) (i j : Nat) (out : List Pt) (zs : List (List E.T)), (i ≤ a.ps.length ∧ j ≤ b.ps.length ∧ c = (a.ps.length - i) + (b.ps.length - j) ∧ H kt = none ∧ out.length ≤ i + j ∧ zs = out.map ptT ∧ out ++ mrg (a.ps.drop i) (b.ps.drop j) = mrg a.ps b.ps) ∧ s = ⟨97, sp [(2, .lp 2 0), (3, .lp 3 0), (4, .lp 4 0), (5, .c (iC 0)), (6, .lp 6 0), (7, iX .i64 ((i : Nat) : Int)), (8, iX .i64 ((j : Nat) : Int))], lv [(2, .box (zTm a)), (3, .box (zTm b)), (4, .box zL0), (6, .box [.t (.v (.int .i64 (a.c + b.c))), .ts kt .ne 5 zs])], upd H kt (some (.tip 219 5 zs.length))⟩) (fun c => c) ((a.ps.length - 0) + (b.ps.length - 0)) ⟨_, by exact Wk.keep 97 _ _ _ rfl ⟨rfl, rfl, rfl, rfl, rfl, rfl, rfl, trivial⟩ ⟨rfl, rfl, rfl, rfl, trivial⟩ (fun _ _ h => h) rfl, k0, 0, 0, [], [], ⟨Nat.zero_le _, Nat.zero_le _, rfl, hk0, by simp, rfl, rfl⟩, rfl⟩ (fun c s hs => ?_)
 obtain ⟨kt, i, j, out, zs, ⟨hi0, hj0, hc, hkt, hol, hzs, hI⟩, rfl⟩ := hs
 refine AW.seq (sR (sM ?_))
 refine Z1 Fx.fl199_1 ?_
 refine Z0 Fx.ty197 ?_
 refine Z18 Fx.un197 ?_
 refine Z15 ?_
 refine Z17 ?_ ?_ <;> intro g25
 rotate_left
 ·
  refine Z14 ?_
  refine Z8 Fx.fl199_1 ?_
  refine Z5 Fx.ty197 ?_
  refine Z45 Fx.un197 ?_
  refine SeqK.on (q_lss rfl rfl rfl) rfl rfl rfl rfl rfl ?_
  refine Z6 ?_
  refine Z4 ?_
  refine cD ?_ ?_ <;> intro h31
  rotate_left
  ·
   refine AW.exit ?_
   refine eth_e ?_
   refine eth_e ?_
   refine exit_here ?_
   refine AW.seq ?_
   have hij : i = a.ps.length ∧ j = b.ps.length := by rw [List.length_map] at g25 h31; omega
   obtain ⟨rfl, rfl⟩ := hij
   rw [List.drop_length, List.drop_length, mrg, List.append_nil] at hI
   subst hI
   subst hzs
   refine AW.reg (Z10 (r := .g [_, _]) Fx.ty199 ?_)
   refine SeqK.xw 90 rfl (XW.tmA XW.ts) ?_
   refine SeqK.xw 90 rfl (XW.tmA XW.un) ?_
   refine SeqK.q (q_call _ rfl Fx.fn195 rfl (checked_any (sumT a b) (sum_bok ha hb).1 (by have := sum_cnt a b; omega)) rfl) rfl rfl rfl ?_
   refine Z39 ?_
   refine Z11 ?_
   refine Z11 ?_
   refine Z20 (r := [_, _]) Fx.ze199 ?_
   refine Z3 (r := [_, _]) Fx.ty199 ?_
   refine sB ?_
   refine sR (Z10 (r := .g [_, _]) Fx.ty199 ?_)
   refine SeqK.q (q_call _ rfl Fx.fn198 rfl (clone_any _ (lim_one (sum_bok ha hb).2) (lim_cnt (by have := sum_cnt a b; omega))) rfl) rfl rfl rfl ?_
   refine sM ?_
   refine Z3 (r := [_, _]) Fx.ty199 ?_
   refine sB ?_
   exact aR (fin_x (x := .tup [_, _]) (H) (.cellL rfl rfl Fx.ty199 rfl rfl (.tmp rfl .nil)) rfl (fun j o h => by show upd H kt _ j = _; rw [upd_ne _ _ (fun e => by subst e; rw [hkt] at h; cases h)]; exact h) (⟨rfl, rfl⟩))
  have hi2 : i = a.ps.length := by rw [List.length_map] at g25; omega
  have hj : j < b.ps.length := by rw [List.length_map] at h31; omega
  have hpj := vld_p hb hj
  refine AW.skip (AW.block (sR (sB ?_)))
  refine AW.seq (AW.block (sR (sM ?_)))
  refine Z1 Fx.fl199_1 ?_
  refine Z0 Fx.ty197 ?_
  refine Z18 Fx.un197 ?_
  refine Z9 ?_
  refine sB ?_
  refine cD ?_ ?_ <;> intro h43
  rotate_left
  ·
   exact absurd (by rw [List.length_map]; omega) h43
  refine AW.reg (sB ?_)
  refine sR (Z20 (r := [_, _, _, _, _]) Fx.ze219 ?_)
  refine Z4 (AW.seq (sR (sM ?_)))
  refine SeqK.q (q_leq rfl rfl rfl) rfl rfl rfl ?_
  refine Z4 ?_
  refine cD ?_ ?_ <;> intro h56
  ·
   exact absurd h56 (by omega)
  refine AW.skip (AW.seq (sR (sM ?_)))
  refine Z56 ?_
  refine Z4 ?_
  refine cD ?_ ?_ <;> intro h65
  rotate_left
  ·
   exact absurd (by omega) h65
  refine sR (Z1 Fx.fl219_0 ?_)
  refine Z0 Fx.ty2 ?_
  refine sB ?_
  refine sR (Z1 Fx.fl199_1 ?_)
  refine Z0 Fx.ty197 ?_
  refine sM ?_
  refine Z12 Fx.sl197 (idx_map (f := ptT) hj) ?_
  refine Z13 (.g [_, _, _, _, _]) Fx.ty219 ?_
  refine Z3 (r := [_, _, _, _, _]) Fx.ty219 ?_
  refine Z4 (sR (Z1 Fx.fl219_0 ?_))
  refine Z0 Fx.ty2 ?_
  refine sM ?_
  refine SeqK.q (q_add _ rfl rfl rfl ((by rw [w64 (by omega) (by omega)]; omega : IntKind.i64.wrap _ = b.ps[j].coef))) rfl rfl rfl ?_
  refine Z1 Fx.fl219_0 ?_
  refine Z3 (r := [_, _, _, _, _]) Fx.ty2 ?_
  refine Z4 (AW.reg (sM ?_))
  refine Z2 ?_
  refine sB ?_
  refine sR (Z1 Fx.fl219_0 ?_)
  refine Z0 Fx.ty2 ?_
  refine Z25 ?_
  refine Z4 ?_
  refine cD ?_ ?_ <;> intro h82
  ·
   refine AW.reg (Z1 Fx.fl199_1 ?_)
   refine Z0 Fx.ty197 ?_
   refine Z10 (r := .g [_, _, _, _, _]) Fx.ty219 ?_
   refine Z24 Fx.el197 ?_
   refine SeqK.app1 rfl (hkt) rfl Fx.el197 rfl rfl (by have hzl : zs.length = out.length := (by rw [hzs, List.length_map]); constructor <;> (simp; omega)) rfl rfl (fun k87 hk87 => ?_)
   refine Z1 Fx.fl199_1 ?_
   refine Z3 (r := [_, _]) Fx.ty197 ?_
   refine Z4 ?_
   exact ⟨((a.ps.length - (i)) + (b.ps.length - (j + 1))), _, by exact Wk.keep 97 _ _ _ rfl ⟨rfl, rfl, rfl, rfl, rfl, rfl, rfl, trivial⟩ ⟨rfl, rfl, rfl, rfl, trivial⟩ (fun _ _ h => h) rfl, by omega, k87, i, j + 1, out ++ [b.ps[j]], zs ++ [ptT (b.ps[j])], ⟨by omega, by omega, rfl, hk87, by simp; omega, map_put hzs, put_nz (mrg_r hi2 hj) hI h82⟩, rfl⟩
  refine AW.skip ?_
  exact ⟨((a.ps.length - (i)) + (b.ps.length - (j + 1))), _, by exact Wk.keep 97 _ _ _ rfl ⟨rfl, rfl, rfl, rfl, rfl, rfl, rfl, trivial⟩ ⟨rfl, rfl, rfl, rfl, trivial⟩ (fun _ _ h => h) rfl, by omega, kt, i, j + 1, out, zs, ⟨by omega, by omega, rfl, hkt, by omega, hzs, put_z (mrg_r hi2 hj) hI h82⟩, rfl⟩
 have hi : i < a.ps.length := by rw [List.length_map] at g25; omega
 have hpi := vld_p ha hi
 iterate 5 refine oF ?_
 refine Z7 ?_
 refine Z4 (AW.condT rfl ?_)
 refine AW.skip (AW.block (sR (sB ?_)))
 refine AW.seq (AW.block (sR (sM ?_)))
 refine Z1 Fx.fl199_1 ?_
 refine Z0 Fx.ty197 ?_
 refine Z18 Fx.un197 ?_
 refine Z9 ?_
 refine sB ?_
 refine cD ?_ ?_ <;> intro h43
 ·
  exact absurd h43 (by rw [List.length_map]; omega)
 refine sR (sM ?_)
 refine Z1 Fx.fl199_1 ?_
 refine Z0 Fx.ty197 ?_
 refine Z18 Fx.un197 ?_
 refine Z9 ?_
 refine sB ?_
 refine cD ?_ ?_ <;> intro h49
 ·
  refine AW.reg (sB ?_)
  refine sR (Z20 (r := [_, _, _, _, _]) Fx.ze219 ?_)
  refine Z4 (AW.seq (sR (sM ?_)))
  refine SeqK.q (q_leq rfl rfl rfl) rfl rfl rfl ?_
  refine Z4 ?_
  refine cD ?_ ?_ <;> intro h56
  rotate_left
  ·
   exact absurd (by omega) h56
  refine sR (Z1 Fx.fl199_1 ?_)
  refine Z0 Fx.ty197 ?_
  refine sM ?_
  refine Z12 Fx.sl197 (idx_map (f := ptT) hi) ?_
  refine Z13 (.g [_, _, _, _, _]) Fx.ty219 ?_
  refine Z3 (r := [_, _, _, _, _]) Fx.ty219 ?_
  refine Z4 (AW.reg (sM ?_))
  refine Z2 ?_
  refine sB ?_
  refine AW.seq (sR (sM ?_))
  refine Z56 ?_
  refine Z4 ?_
  refine cD ?_ ?_ <;> intro h65
  ·
   exact absurd h65 (by omega)
  refine AW.skip (sR (Z1 Fx.fl219_0 ?_))
  refine Z0 Fx.ty2 ?_
  refine Z25 ?_
  refine Z4 ?_
  refine cD ?_ ?_ <;> intro h82
  ·
   refine AW.reg (Z1 Fx.fl199_1 ?_)
   refine Z0 Fx.ty197 ?_
   refine Z10 (r := .g [_, _, _, _, _]) Fx.ty219 ?_
   refine Z24 Fx.el197 ?_
   refine SeqK.app1 rfl (hkt) rfl Fx.el197 rfl rfl (by have hzl : zs.length = out.length := (by rw [hzs, List.length_map]); constructor <;> (simp; omega)) rfl rfl (fun k87 hk87 => ?_)
   refine Z1 Fx.fl199_1 ?_
   refine Z3 (r := [_, _]) Fx.ty197 ?_
   refine Z4 ?_
   exact ⟨((a.ps.length - (i + 1)) + (b.ps.length - (j))), _, by exact Wk.keep 97 _ _ _ rfl ⟨rfl, rfl, rfl, rfl, rfl, rfl, rfl, trivial⟩ ⟨rfl, rfl, rfl, rfl, trivial⟩ (fun _ _ h => h) rfl, by omega, k87, i + 1, j, out ++ [a.ps[i]], zs ++ [ptT (a.ps[i])], ⟨by omega, by omega, rfl, hk87, by simp; omega, map_put hzs, put_nz (mrg_l hi (by rw [List.length_map] at h49; omega)) hI h82⟩, rfl⟩
  refine AW.skip ?_
  exact ⟨((a.ps.length - (i + 1)) + (b.ps.length - (j))), _, by exact Wk.keep 97 _ _ _ rfl ⟨rfl, rfl, rfl, rfl, rfl, rfl, rfl, trivial⟩ ⟨rfl, rfl, rfl, rfl, trivial⟩ (fun _ _ h => h) rfl, by omega, kt, i + 1, j, out, zs, ⟨by omega, by omega, rfl, hkt, by omega, hzs, put_z (mrg_l hi (by rw [List.length_map] at h49; omega)) hI h82⟩, rfl⟩
 have hj : j < b.ps.length := by rw [List.length_map] at h49; omega
 have hpj := vld_p hb hj
 refine AW.draw Fx.mo ?_
 refine Z22 Fx.fl199_1 ?_
 refine Z21 Fx.ty197 ?_
 refine Z27 ?_
 refine Z28 Fx.sl197 (idx_map (f := ptT) hi) ?_
 refine Z33 (.g [_, _, _, _, _]) Fx.ty219 ?_
 refine Z22 Fx.fl199_1 ?_
 refine Z21 Fx.ty197 ?_
 refine Z27 ?_
 refine Z28 Fx.sl197 (idx_map (f := ptT) hj) ?_
 refine Z33 (.g [_, _, _, _, _]) Fx.ty219 ?_
 refine LexK.q (q_call _ rfl Fx.fn215 rfl (cmpPart_any _ _ hpi.1 hpj.1 (by have := cnt_p (List.getElem_mem hi); omega)) rfl) rfl rfl rfl ?_
 refine Z42 ?_
 refine Z43 ?_
 refine sR (Z20 (r := [_, _, _, _, _]) Fx.ze219 ?_)
 refine Z4 (AW.seq (sR (sM ?_)))
 refine SeqK.q (q_leq rfl rfl rfl) rfl rfl rfl ?_
 refine Z4 ?_
 refine cD ?_ ?_ <;> intro h56
 rotate_left
 ·
  refine AW.skip (AW.seq (sR (sM ?_)))
  refine Z56 ?_
  refine Z4 ?_
  refine cD ?_ ?_ <;> intro h65
  rotate_left
  ·
   exact absurd (by omega) h65
  refine sR (Z1 Fx.fl219_0 ?_)
  refine Z0 Fx.ty2 ?_
  refine sB ?_
  refine sR (Z1 Fx.fl199_1 ?_)
  refine Z0 Fx.ty197 ?_
  refine sM ?_
  refine Z12 Fx.sl197 (idx_map (f := ptT) hj) ?_
  refine Z13 (.g [_, _, _, _, _]) Fx.ty219 ?_
  refine Z3 (r := [_, _, _, _, _]) Fx.ty219 ?_
  refine Z4 (sR (Z1 Fx.fl219_0 ?_))
  refine Z0 Fx.ty2 ?_
  refine sM ?_
  refine SeqK.q (q_add _ rfl rfl rfl ((by rw [w64 (by omega) (by omega)]; omega : IntKind.i64.wrap _ = b.ps[j].coef))) rfl rfl rfl ?_
  refine Z1 Fx.fl219_0 ?_
  refine Z3 (r := [_, _, _, _, _]) Fx.ty2 ?_
  refine Z4 (AW.reg (sM ?_))
  refine Z2 ?_
  refine sB ?_
  refine sR (Z1 Fx.fl219_0 ?_)
  refine Z0 Fx.ty2 ?_
  refine Z25 ?_
  refine Z4 ?_
  refine cD ?_ ?_ <;> intro h82
  ·
   refine AW.reg (Z1 Fx.fl199_1 ?_)
   refine Z0 Fx.ty197 ?_
   refine Z10 (r := .g [_, _, _, _, _]) Fx.ty219 ?_
   refine Z24 Fx.el197 ?_
   refine SeqK.app1 rfl (hkt) rfl Fx.el197 rfl rfl (by have hzl : zs.length = out.length := (by rw [hzs, List.length_map]); constructor <;> (simp; omega)) rfl rfl (fun k87 hk87 => ?_)
   refine Z1 Fx.fl199_1 ?_
   refine Z3 (r := [_, _]) Fx.ty197 ?_
   refine Z4 ?_
   exact ⟨((a.ps.length - (i)) + (b.ps.length - (j + 1))), _, by exact Wk.keep 97 _ _ _ rfl ⟨rfl, rfl, rfl, rfl, rfl, rfl, rfl, trivial⟩ ⟨rfl, rfl, rfl, rfl, trivial⟩ (fun _ _ h => h) rfl, by omega, k87, i, j + 1, out ++ [b.ps[j]], zs ++ [ptT (b.ps[j])], ⟨by omega, by omega, rfl, hk87, by simp; omega, map_put hzs, put_nz (mrg_gt hi hj (by omega)) hI h82⟩, rfl⟩
  refine AW.skip ?_
  exact ⟨((a.ps.length - (i)) + (b.ps.length - (j + 1))), _, by exact Wk.keep 97 _ _ _ rfl ⟨rfl, rfl, rfl, rfl, rfl, rfl, rfl, trivial⟩ ⟨rfl, rfl, rfl, rfl, trivial⟩ (fun _ _ h => h) rfl, by omega, kt, i, j + 1, out, zs, ⟨by omega, by omega, rfl, hkt, by omega, hzs, put_z (mrg_gt hi hj (by omega)) hI h82⟩, rfl⟩
 refine sR (Z1 Fx.fl199_1 ?_)
 refine Z0 Fx.ty197 ?_
 refine sM ?_
 refine Z12 Fx.sl197 (idx_map (f := ptT) hi) ?_
 refine Z13 (.g [_, _, _, _, _]) Fx.ty219 ?_
 refine Z3 (r := [_, _, _, _, _]) Fx.ty219 ?_
 refine Z4 (AW.reg (sM ?_))
 refine Z2 ?_
 refine sB ?_
 refine AW.seq (sR (sM ?_))
 refine Z56 ?_
 refine Z4 ?_
 refine cD ?_ ?_ <;> intro h65
 rotate_left
 ·
  refine AW.skip (sR (Z1 Fx.fl219_0 ?_))
  refine Z0 Fx.ty2 ?_
  refine Z25 ?_
  refine Z4 ?_
  refine cD ?_ ?_ <;> intro h82
  ·
   refine AW.reg (Z1 Fx.fl199_1 ?_)
   refine Z0 Fx.ty197 ?_
   refine Z10 (r := .g [_, _, _, _, _]) Fx.ty219 ?_
   refine Z24 Fx.el197 ?_
   refine SeqK.app1 rfl (hkt) rfl Fx.el197 rfl rfl (by have hzl : zs.length = out.length := (by rw [hzs, List.length_map]); constructor <;> (simp; omega)) rfl rfl (fun k87 hk87 => ?_)
   refine Z1 Fx.fl199_1 ?_
   refine Z3 (r := [_, _]) Fx.ty197 ?_
   refine Z4 ?_
   exact ⟨((a.ps.length - (i + 1)) + (b.ps.length - (j))), _, by exact Wk.keep 97 _ _ _ rfl ⟨rfl, rfl, rfl, rfl, rfl, rfl, rfl, trivial⟩ ⟨rfl, rfl, rfl, rfl, trivial⟩ (fun _ _ h => h) rfl, by omega, k87, i + 1, j, out ++ [a.ps[i]], zs ++ [ptT (a.ps[i])], ⟨by omega, by omega, rfl, hk87, by simp; omega, map_put hzs, put_nz (mrg_lt hi hj (by omega)) hI h82⟩, rfl⟩
  refine AW.skip ?_
  exact ⟨((a.ps.length - (i + 1)) + (b.ps.length - (j))), _, by exact Wk.keep 97 _ _ _ rfl ⟨rfl, rfl, rfl, rfl, rfl, rfl, rfl, trivial⟩ ⟨rfl, rfl, rfl, rfl, trivial⟩ (fun _ _ h => h) rfl, by omega, kt, i + 1, j, out, zs, ⟨by omega, by omega, rfl, hkt, by omega, hzs, put_z (mrg_lt hi hj (by omega)) hI h82⟩, rfl⟩
 refine sR (Z1 Fx.fl219_0 ?_)
 refine Z0 Fx.ty2 ?_
 refine sB ?_
 refine sR (Z1 Fx.fl199_1 ?_)
 refine Z0 Fx.ty197 ?_
 refine sM ?_
 refine Z12 Fx.sl197 (idx_map (f := ptT) hj) ?_
 refine Z13 (.g [_, _, _, _, _]) Fx.ty219 ?_
 refine Z3 (r := [_, _, _, _, _]) Fx.ty219 ?_
 refine Z4 (sR (Z1 Fx.fl219_0 ?_))
 refine Z0 Fx.ty2 ?_
 refine sM ?_
 refine Z2 ?_
 refine Z1 Fx.fl219_0 ?_
 refine Z3 (r := [_, _, _, _, _]) Fx.ty2 ?_
 refine Z4 (AW.reg (sM ?_))
 refine Z2 ?_
 refine sB ?_
 refine sR (Z1 Fx.fl219_0 ?_)
 refine Z0 Fx.ty2 ?_
 refine Z25 ?_
 refine Z4 ?_
 refine cD ?_ ?_ <;> intro h82
 ·
  refine AW.reg (Z1 Fx.fl199_1 ?_)
  refine Z0 Fx.ty197 ?_
  refine Z10 (r := .g [_, _, _, _, _]) Fx.ty219 ?_
  refine Z24 Fx.el197 ?_
  refine SeqK.app1 rfl (hkt) rfl Fx.el197 rfl rfl (by have hzl : zs.length = out.length := (by rw [hzs, List.length_map]); constructor <;> (simp; omega)) rfl rfl (fun k87 hk87 => ?_)
  refine Z1 Fx.fl199_1 ?_
  refine Z3 (r := [_, _]) Fx.ty197 ?_
  refine Z4 ?_
  exact ⟨((a.ps.length - (i + 1)) + (b.ps.length - (j + 1))), _, by exact Wk.keep 97 _ _ _ rfl ⟨rfl, rfl, rfl, rfl, rfl, rfl, rfl, trivial⟩ ⟨rfl, rfl, rfl, rfl, trivial⟩ (fun _ _ h => h) rfl, by omega, k87, i + 1, j + 1, out ++ [addP a.ps[i] b.ps[j]], zs ++ [ptT (addP a.ps[i] b.ps[j])], ⟨by omega, by omega, rfl, hk87, by simp; omega, map_put hzs, put_nz (mrg_eq hi hj (by omega)) hI h82⟩, rfl⟩
 refine AW.skip ?_
 exact ⟨((a.ps.length - (i + 1)) + (b.ps.length - (j + 1))), _, by exact Wk.keep 97 _ _ _ rfl ⟨rfl, rfl, rfl, rfl, rfl, rfl, rfl, trivial⟩ ⟨rfl, rfl, rfl, rfl, trivial⟩ (fun _ _ h => h) rfl, by omega, kt, i + 1, j + 1, out, zs, ⟨by omega, by omega, rfl, hkt, by omega, hzs, put_z (mrg_eq hi hj (by omega)) hI h82⟩, rfl⟩
inductive Ex where
  | mk (op : Int) (tb nm : ByteArray) (ix vk vn : Int) (vs : ByteArray) (args : List Ex)
@[reducible] def Ex.op : Ex → Int | .mk a _ _ _ _ _ _ _ => a
@[reducible] def Ex.tb : Ex → ByteArray | .mk _ a _ _ _ _ _ _ => a
@[reducible] def Ex.nm : Ex → ByteArray | .mk _ _ a _ _ _ _ _ => a
@[reducible] def Ex.ix : Ex → Int | .mk _ _ _ a _ _ _ _ => a
@[reducible] def Ex.vk : Ex → Int | .mk _ _ _ _ a _ _ _ => a
@[reducible] def Ex.vn : Ex → Int | .mk _ _ _ _ _ a _ _ => a
@[reducible] def Ex.vs : Ex → ByteArray | .mk _ _ _ _ _ _ a _ => a
@[reducible] def Ex.args : Ex → List Ex | .mk _ _ _ _ _ _ _ a => a
mutual
def exT' : Ex → List E.T
  | .mk op tb nm ix vk vn vs args => [.v (.int .i64 op), .v (.string tb), .v (.string nm), .v (.int .i64 ix), .v (.int .i64 vk), .v (.int .i64 vn), .v (.string vs), .sl .un 8 (exTs args)]
def exTs : List Ex → List (List E.T)
  | [] => []
  | e :: r => exT' e :: exTs r
end
theorem exTs_map : ∀ l, exTs l = l.map exT'
  | [] => rfl
  | t :: r => by rw [exTs, exTs_map r, qL]
abbrev exL (e : Ex) : List E.T := [.v (.int .i64 e.op), .v (.string e.tb), .v (.string e.nm), .v (.int .i64 e.ix), .v (.int .i64 e.vk), .v (.int .i64 e.vn), .v (.string e.vs), .sl .un 8 (e.args.map exT')]
theorem exT_eq (e : Ex) : exT' e = exL e := by cases e; rw [exT', exTs_map]
abbrev exC (e : Ex) : C := .g [.t (.v (.int .i64 e.op)), .t (.v (.string e.tb)), .t (.v (.string e.nm)), .t (.v (.int .i64 e.ix)), .t (.v (.int .i64 e.vk)), .t (.v (.int .i64 e.vn)), .t (.v (.string e.vs)), .t (.sl .un 8 (e.args.map exT'))]
theorem idx_ex {l : List Ex} {i : Nat} (h : i < l.length) : (l.map exT')[i]? = some (exL l[i]) := by rw [qR, qF h, Option.map_some, exT_eq]
def comb (op : Int) (a b : Tm) : Tm × Int :=
  if op = 4 then add a b
  else if op = 5 then (if (scale b (-1)).2 ≠ 0 then (tm0, (scale b (-1)).2) else add a (scale b (-1)).1)
  else if op = 6 then (if a.ps.length = 0 then scale b a.c else if b.ps.length = 0 then scale a b.c else (tm0, 7))
  else if 0 < b.ps.length ∨ b.c < 1 ∨ b.c > 1000 then (tm0, 7)
  else if (div a b.c).2 ≠ 0 ∨ op = 7 then div a b.c
  else if (scale (div a b.c).1 (-b.c)).2 ≠ 0 then (tm0, (scale (div a b.c).1 (-b.c)).2)
  else add a (scale (div a b.c).1 (-b.c)).1
def opsR : List (Tm × Int) → Tm × Int
  | [] => (tm0, 6)
  | r :: l => if r.2 ≠ 0 then (tm0, r.2) else opsR l
def lenE (a : Ex) (rs : List (Tm × Int)) : Tm × Int :=
  if 0 < a.args.length then opsR rs
  else if a.op = 1 ∧ a.vk = 2 then lim ⟨(a.vs.size : Int), []⟩
  else if a.op = 2 ∧ 0 ≤ a.ix then lim ⟨0, [⟨1, 1, a.ix, 0, []⟩]⟩
  else opsR rs
def lenL (rs : List (Tm × Int)) : List Ex → Tm × Int
  | [a] => lenE a rs
  | _ => opsR rs
def leafE (op ix vk vn : Int) (args : List Ex) (rs : List (Tm × Int)) : Tm × Int :=
  if op = 9 then lenL rs args
  else if 0 < args.length then opsR rs
  else if op = 1 ∧ vk = 1 then lim ⟨vn, []⟩
  else if op = 2 ∧ 0 ≤ ix then lim ⟨0, [⟨1, 0, ix, 0, []⟩]⟩
  else (tm0, 6)
def unR : List (Tm × Int) → Tm × Int
  | [r] => if r.2 ≠ 0 then (tm0, r.2) else scale r.1 (-1)
  | rs => opsR rs
def binR (op : Int) : List (Tm × Int) → Tm × Int
  | [r, q] => if r.2 ≠ 0 then (tm0, r.2) else if q.2 ≠ 0 then (tm0, q.2) else comb op r.1 q.1
  | rs => opsR rs
def stepE (op ix vk vn : Int) (args : List Ex) (rs : List (Tm × Int)) : Tm × Int :=
  if op = 1 ∨ op = 2 ∨ op = 9 then leafE op ix vk vn args rs
  else if op = 3 then unR rs
  else if op = 4 ∨ op = 5 ∨ op = 6 ∨ op = 7 ∨ op = 8 then binR op rs
  else opsR rs
theorem unR_ne {rs : List (Tm × Int)} (h : rs.length ≠ 1) : unR rs = opsR rs := by
  match rs, h with
  | [], _ => rfl
  | [r], h => simp at h
  | _ :: _ :: _, _ => rfl
theorem unR_one {rs : List (Tm × Int)} (h0 : 0 < rs.length) (h : rs.length = 1) : unR rs = if rs[0].2 ≠ 0 then (tm0, rs[0].2) else scale rs[0].1 (-1) := by
  match rs, h with
  | [r], _ => rfl
theorem binR_ne {op : Int} {rs : List (Tm × Int)} (h : rs.length ≠ 2) : binR op rs = opsR rs := by
  match rs, h with
  | [], _ => rfl
  | [r], _ => rfl
  | [r, q], h => simp at h
  | _ :: _ :: _ :: _, _ => rfl
theorem binR_two {op : Int} {rs : List (Tm × Int)} (h0 : 0 < rs.length) (h1 : 1 < rs.length) (h : rs.length = 2) : binR op rs = if rs[0].2 ≠ 0 then (tm0, rs[0].2) else if rs[1].2 ≠ 0 then (tm0, rs[1].2) else comb op rs[0].1 rs[1].1 := by
  match rs, h with
  | [r, q], _ => rfl
theorem leaf9_ne {ix vk vn : Int} {args : List Ex} {rs : List (Tm × Int)} {op : Int} (ho : op = 9) (h : args.length ≠ 1) : leafE op ix vk vn args rs = opsR rs := by
  unfold leafE
  rw [if_pos ho]
  match args, h with
  | [], _ => rfl
  | [r], h => simp at h
  | _ :: _ :: _, _ => rfl
theorem leaf9_one {ix vk vn : Int} {args : List Ex} {rs : List (Tm × Int)} {op : Int} (ho : op = 9) (h0 : 0 < args.length) (h : args.length = 1) : leafE op ix vk vn args rs = lenE args[0] rs := by
  unfold leafE
  rw [if_pos ho]
  match args, h with
  | [r], _ => rfl
mutual
def ofE : Ex → Tm × Int
  | .mk op _ _ ix vk vn _ args => stepE op ix vk vn args (resE args)
def resE : List Ex → List (Tm × Int)
  | [] => []
  | a :: r => ofE a :: resE r
end
theorem resE_map : ∀ l, resE l = l.map ofE
  | [] => rfl
  | a :: r => by rw [resE, resE_map r, qL]
theorem ofE_eq (e : Ex) : ofE e = stepE e.op e.ix e.vk e.vn e.args (e.args.map ofE) := by cases e; rw [ofE, resE_map]
mutual
def Ex.dep : Ex → Nat
  | .mk _ _ _ _ _ _ _ args => depEs args + 1
def depEs : List Ex → Nat
  | [] => 0
  | a :: r => max a.dep (depEs r)
end
theorem dep_arg {a : Ex} : ∀ {l : List Ex}, a ∈ l → a.dep ≤ depEs l
  | b :: r, h => by
    rcases jD.1 h with rfl | h
    · simp only [depEs]; omega
    · have := dep_arg h; simp only [depEs]; omega
theorem Ex.ind {motive : Ex → Prop} (h : ∀ e, (∀ a ∈ e.args, motive a) → motive e) (e : Ex) : motive e := by
  have key : ∀ n (e : Ex), e.dep < n → motive e := by
    intro n
    induction n with
    | zero => intro e he; omega
    | succ n ih =>
      intro e he
      refine h e fun a ha => ih a ?_
      cases e with | mk op tb nm ix vk vn vs args =>
      have := dep_arg ha
      simp only [Ex.dep, Ex.args] at *; omega
  exact key _ e (Nat.lt_succ_self _)
theorem opsR_no {rs : List (Tm × Int)} {i : Nat} (hi : i < rs.length) (h0 : ∀ r ∈ rs.take i, r.2 = 0) (h : rs[i].2 ≠ 0) : opsR rs = (tm0, rs[i].2) := by
  induction rs generalizing i with
  | nil => simp at hi
  | cons r l ih =>
    cases i with
    | zero =>
      have h' : r.2 ≠ 0 := h
      rw [opsR, if_pos h']; rfl
    | succ i =>
      have : r.2 = 0 := h0 r (by simp)
      rw [opsR, if_neg (by omega)]
      exact ih (by simpa using hi) (fun x hx => h0 x (by simp [hx])) (by simpa using h)
theorem ops_step {l : List Ex} {i : Nat} (hi : i < l.length) (h0 : ∀ r ∈ (l.map ofE).take i, r.2 = 0) (h : (ofE l[i]).2 = 0) : ∀ r ∈ (l.map ofE).take (i + 1), r.2 = 0 := by
  rw [qJ (by simpa using hi)]
  intro r hr
  rcases jC.1 hr with h1 | h1
  · exact h0 r h1
  · simp at h1; rw [h1]; exact h
theorem opsR_end {rs : List (Tm × Int)} (h0 : ∀ r ∈ rs, r.2 = 0) : opsR rs = (tm0, 6) := by
  induction rs with
  | nil => rfl
  | cons r l ih =>
    have : r.2 = 0 := h0 r (by simp)
    rw [opsR, if_neg (by omega)]
    exact ih fun x hx => h0 x (by simp [hx])
theorem ops_of (e : Ex) (hL : e.args.length ≤ 1000000) (ih : ∀ a ∈ e.args, Pu 158 [exC a] (trC (ofE a))) : Pu 180 [exC e] (trC (opsR (e.args.map ofE))) := by
 intro H
 refine Spec.enter Tryz.func180 rfl ?_
 refine AW.wk (wK 26 (l := [(0, .c (exC e))]) (ll := []) (H := (H))) ?_
 refine D3 ?_
 refine AW.seq (D5 ?_)
 refine AW.block (AW.loop (fun (i : Nat) s => (i ≤ e.args.length ∧ ∀ r ∈ (e.args.map ofE).take i, r.2 = 0) ∧ s = ⟨26, sp [(2, .lp 2 0), (3, .c (iC 0)), (9, .c (.a (.t (.sl .un 8 (e.args.map exT'))))), (10, iX .i64 (((e.args.map exT').length : Nat) : Int)), (11, nX i)], lv [(2, .box zL0)], H⟩) (fun i => e.args.length - i) 0 ⟨_, by exact wK 26, ⟨qZ _, by simp⟩, rfl⟩ (fun i s hs => ?_))
 obtain ⟨⟨hi0, h0⟩, rfl⟩ := hs
 refine D2 ?_
 refine AW.seq ?_
 refine cD ?_ ?_ <;> intro h12
 rotate_left
 ·
  refine AW.exit ?_
  refine eth_e ?_
  refine eth_e ?_
  refine exit_here ?_
  refine D1 ?_
  refine SeqK.xw 25 rfl XW.tm0 ?_
  refine G2 ?_
  exact aR (f2 (.cellL rfl rfl ty199 rfl rfl (.tmp rfl .nil)) (⟨by rw [opsR_end (fun r hr => h0 r (by rw [qU (by rw [qA] at *; omega)]; exact hr))]; rfl, rfl⟩))
 have hi := oI h12
 refine AW.skip (AW.seq (AW.block (D5 ?_)))
 refine D1 ?_
 refine Z16 fn158 (ih _ (qC hi)) ?_
 refine G6 ?_
 refine D3 ?_
 refine cD ?_ ?_ <;> intro h21
 ·
  refine D1 ?_
  refine SeqK.xw 22 rfl XW.tm0 ?_
  refine G3 ?_
  exact aR (f2 (.cellL rfl rfl ty199 rfl rfl (.tmp rfl .nil)) (⟨by rw [opsR_no (i := i) (by simpa using hi) h0 (by rw [qV]; exact h21), qV]; rfl, rfl⟩))
 refine AW.skip (B3 ?_)
 exact ⟨i + 1, _, by exact wK 26, by omega, ⟨hi, ops_step hi h0 (qY.1 h21)⟩, rfl⟩
theorem lim_ok {t : Tm} (h : (lim t).2 = 0) : lim t = (t, 0) ∧ smallB t = true := by
  unfold lim at h ⊢
  split at h
  · rename_i hs; exact ⟨by rw [if_pos hs], hs⟩
  · cases h
theorem cmpP_mul (p q : Pt) (n : Int) : cmpP (mulP p n) (mulP q n) = cmpP p q := by rw [cmpP_eq, cmpP_eq]; rfl
theorem ascB_mul (n : Int) : ∀ l : List Pt, ascB (l.map fun p => mulP p n) = ascB l
  | [] => rfl
  | [p] => rfl
  | p :: q :: r => by
    have := ascB_mul n (q :: r)
    simp only [qL, ascB, cmpP_mul] at this ⊢
    rw [this]
theorem vldP_mul {p : Pt} {n : Int} (hn : n ≠ 0) (h : vldP p = true) : vldP (mulP p n) = true := by
  rw [vldP_eq] at h ⊢
  simp only [jG, decide_eq_true_eq] at h
  obtain ⟨h1, h2⟩ := h
  rw [show decide ((mulP p n).coef ≠ 0) = true from jH (Int.mul_ne_zero h1 hn)]
  exact h2
theorem vld0 : vldT tm0 = true := by decide
theorem scale_vld {t : Tm} {n : Int} (h : vldT t = true) (hs : (scale t n).2 = 0) : vldT (scale t n).1 = true := by
  unfold scale at hs ⊢
  by_cases hn : n = 0
  · rw [if_pos hn]; exact vld0
  · rw [if_neg hn] at hs ⊢
    obtain ⟨h1, h2⟩ := lim_ok hs
    rw [h1]
    rw [vldT_eq] at h ⊢
    simp only [jG] at h ⊢
    refine ⟨⟨vldPs_iff.2 fun p hp => ?_, ?_⟩, h2⟩
    · obtain ⟨q, hq, rfl⟩ := jE.1 hp
      exact vldP_mul hn (vldPs_iff.1 h.1.1 q hq)
    · exact (ascB_mul n t.ps).trans h.1.2
theorem tm0_cnt : tm0.cnt ≤ 1 := by decide
theorem lim_cnt' {t : Tm} : (lim t).1.cnt ≤ t.cnt := by
  unfold lim; split
  · exact jA _
  · exact jB tm0_cnt t.cnt_pos
theorem scale_cnt (t : Tm) (n : Int) : (scale t n).1.cnt ≤ t.cnt := by
  unfold scale; split
  · exact jB tm0_cnt t.cnt_pos
  · have := lim_cnt' (t := mulT t n); rw [mul_cnt] at this; exact this
theorem div_cnt (t : Tm) (b : Int) : (div t b).1.cnt ≤ t.cnt + 2 := by
  have h1 := t.cnt_pos
  have h2 := tm0_cnt
  unfold div
  split
  · show tm0.cnt ≤ _; omega
  · split
    · exact Nat.le_add_right _ _
    · split
      · show 1 + (0 + 0) ≤ _; omega
      · have := lim_cnt' (t := divT t b); rw [divT_cnt] at this; exact this
theorem div_vld {t : Tm} {b : Int} (h : vldT t = true) (hs : (div t b).2 = 0) : vldT (div t b).1 = true := by
  unfold div at hs ⊢
  split at hs
  · cases hs
  · rename_i h1
    rw [if_neg h1]
    split at hs
    · rename_i h2; rw [if_pos h2]; exact h
    · rename_i h2
      rw [if_neg h2]
      split at hs
      · rename_i h3
        rw [if_pos h3]
        have hc := (vld_coef h).1
        have hd : (t.c / b).natAbs ≤ 2 ^ 40 := by
          have h4 := Int.ediv_mul_add_emod t.c b
          have h5 := Int.emod_nonneg t.c (show b ≠ 0 by omega)
          have h6 := Int.emod_lt_of_pos t.c (show 0 < b by omega)
          have h7 : -(2 ^ 40) ≤ t.c / b := (Int.le_ediv_iff_mul_le (show 0 < b by omega)).2 (by omega)
          have h8 : t.c / b ≤ 2 ^ 40 := Int.ediv_le_of_le_mul (show 0 < b by omega) (by omega)
          omega
        rw [vldT_eq]
        simp only [vldPs, ascB, Bool.true_and]
        exact smallB_iff.2 ⟨hd, by simp, by simp only [bndT, bndPs]; omega⟩
      · rename_i h3
        rw [if_neg h3]
        obtain ⟨e1, e2⟩ := lim_ok hs
        rw [e1, vldT_eq, e2]
        have hne : t.ps.isEmpty = false := by cases hp : t.ps with | nil => rw [hp] at h3; simp at h3 | cons => rfl
        simp [divT, vldPs, vldP, vldO, ascB, h, hne]
        omega
theorem comb_any (op : Int) (a b : Tm) (ha : vldT a = true) (hb : vldT b = true) (hN : a.cnt + b.cnt ≤ 48000) : Pu 182 [iC op, tmC a, tmC b] (trC (comb op a b)) := by
 intro H
 refine Spec.enter Tryz.func182 rfl ?_
 refine AW.wk (wK 108 (l := [(0, .c (iC op)), (1, .c (tmC a)), (2, .c (tmC b))]) (ll := []) (H := (H))) ?_
 refine D4 ?_
 refine AW.seq (AW.seq ?_)
 have hca := vld_coef ha
 have hcb := vld_coef hb
 have k1 := scale_cnt b (-1)
 have k2 := div_cnt a b.c
 have k3 := scale_cnt (div a b.c).1 (-b.c)
 refine B2 ?_
 refine AW.block (D2 ?_)
 refine cD ?_ ?_ <;> intro h13
 ·
  refine D2 ?_
  refine sQ (q_call _ rfl fn199 rfl (add_any a b ha hb (by omega)) rfl) ?_
  refine G4 ?_
  exact aR (f2 (.cellL rfl rfl ty199 rfl rfl (.tmp rfl .nil)) (⟨by rw [comb, if_pos h13]; rfl, rfl⟩))
 refine D2 ?_
 refine cD ?_ ?_ <;> intro h20
 ·
  refine D1 ?_
  refine sQ (q_call _ rfl fn181 rfl (scale_any b (-1) (vldT_bok hb) (vldT_one hb) (by decide) (by omega)) rfl) ?_
  refine G6 ?_
  refine AW.seq (D3 ?_)
  refine cD ?_ ?_ <;> intro h28
  ·
   refine D1 ?_
   refine SeqK.xw 29 rfl XW.tm0 ?_
   refine G3 ?_
   exact aR (f2 (.cellL rfl rfl ty199 rfl rfl (.tmp rfl .nil)) (⟨by rw [comb, if_neg h13, if_pos h20, if_pos h28]; rfl, rfl⟩))
  have hs0 : (scale b (-1)).2 = 0 := qY.1 h28
  refine AW.skip (D2 ?_)
  refine sQ (q_call _ rfl fn199 rfl (add_any a _ ha (scale_vld hb hs0) (by omega)) rfl) ?_
  refine G4 ?_
  exact aR (f2 (.cellL rfl rfl ty199 rfl rfl (.tmp rfl .nil)) (⟨by rw [comb, if_neg h13, if_pos h20, if_neg h28]; rfl, rfl⟩))
 refine D2 ?_
 refine cD ?_ ?_ <;> intro h36
 ·
  refine AW.seq (AW.block (D5 ?_))
  refine cD ?_ ?_ <;> intro h38
  ·
   refine D3 ?_
   refine sQ (q_call _ rfl fn181 rfl (scale_any b a.c (vldT_bok hb) (vldT_one hb) (by omega) (by omega)) rfl) ?_
   refine G4 ?_
   exact aR (f2 (.cellL rfl rfl ty199 rfl rfl (.tmp rfl .nil)) (⟨by rw [comb, if_neg h13, if_neg h20, if_pos h36, if_pos (by simp only [qA] at *; omega)]; rfl, rfl⟩))
  refine D5 ?_
  refine cD ?_ ?_ <;> intro h49
  ·
   refine D3 ?_
   refine sQ (q_call _ rfl fn181 rfl (scale_any a b.c (vldT_bok ha) (vldT_one ha) (by omega) (by omega)) rfl) ?_
   refine G4 ?_
   exact aR (f2 (.cellL rfl rfl ty199 rfl rfl (.tmp rfl .nil)) (⟨by rw [comb, if_neg h13, if_neg h20, if_pos h36, if_neg (by simp only [qA] at *; omega), if_pos (by simp only [qA] at *; omega)]; rfl, rfl⟩))
  refine AW.skip (D1 ?_)
  refine SeqK.xw 60 rfl XW.tm0 ?_
  refine G2 ?_
  exact aR (f2 (.cellL rfl rfl ty199 rfl rfl (.tmp rfl .nil)) (⟨by rw [comb, if_neg h13, if_neg h20, if_pos h36, if_neg (by simp only [qA] at *; omega), if_neg (by simp only [qA] at *; omega)]; rfl, rfl⟩))
 refine AW.skip (AW.seq (D4 ?_))
 refine Z17 ?_ ?_ <;> intro g65
 ·
  iterate 3 refine oF ?_
  refine G2 ?_
  iterate 3 refine oF ?_
  refine G2 ?_
  refine AW.condT rfl ?_
  refine D1 ?_
  refine SeqK.xw 75 rfl XW.tm0 ?_
  refine G2 ?_
  exact aR (f2 (.cellL rfl rfl ty199 rfl rfl (.tmp rfl .nil)) (⟨by rw [comb, if_neg h13, if_neg h20, if_neg h36, if_pos (by simp only [qA] at *; omega)]; rfl, rfl⟩))
 refine G2 ?_
 refine sO (q_lss rfl rfl rfl) ?_
 refine Z6 ?_
 refine Z17 ?_ ?_ <;> intro g70
 ·
  iterate 3 refine oF ?_
  refine G2 ?_
  refine AW.condT rfl ?_
  refine D1 ?_
  refine SeqK.xw 75 rfl XW.tm0 ?_
  refine G2 ?_
  exact aR (f2 (.cellL rfl rfl ty199 rfl rfl (.tmp rfl .nil)) (⟨by rw [comb, if_neg h13, if_neg h20, if_neg h36, if_pos (by simp only [qA] at *; omega)]; rfl, rfl⟩))
 refine G5 ?_
 refine cD ?_ ?_ <;> intro h74
 ·
  refine D1 ?_
  refine SeqK.xw 75 rfl XW.tm0 ?_
  refine G2 ?_
  exact aR (f2 (.cellL rfl rfl ty199 rfl rfl (.tmp rfl .nil)) (⟨by rw [comb, if_neg h13, if_neg h20, if_neg h36, if_pos (by simp only [qA] at *; omega)]; rfl, rfl⟩))
 refine AW.skip (D3 ?_)
 refine sQ (q_call _ rfl fn200 rfl (div_any a b.c ha (by omega)) rfl) ?_
 refine G6 ?_
 refine AW.seq (D2 ?_)
 refine Z17 ?_ ?_ <;> intro g85
 ·
  iterate 2 refine oF ?_
  refine G2 ?_
  refine AW.condT rfl ?_
  refine D4 ?_
  exact aR (f2 (.cellL rfl rfl ty199 rfl rfl (.tmp rfl .nil)) (⟨by rw [comb, if_neg h13, if_neg h20, if_neg h36, if_neg (by simp only [qA] at *; omega), if_pos (by first | exact .inl g85 | exact .inr h88)]; rfl, rfl⟩))
 have hd0 : (div a b.c).2 = 0 := qY.1 g85
 refine G4 ?_
 refine cD ?_ ?_ <;> intro h88
 ·
  refine D4 ?_
  exact aR (f2 (.cellL rfl rfl ty199 rfl rfl (.tmp rfl .nil)) (⟨by rw [comb, if_neg h13, if_neg h20, if_neg h36, if_neg (by simp only [qA] at *; omega), if_pos (by first | exact .inl g85 | exact .inr h88)]; rfl, rfl⟩))
 refine AW.skip (D3 ?_)
 refine sQ (q_neg _ rfl rfl ((by rw [w64 (by omega) (by omega)]; omega : IntKind.i64.wrap _ = -b.c))) ?_
 refine sQ (q_call _ rfl fn181 rfl (scale_any _ (-b.c) (vldT_bok (div_vld ha hd0)) (vldT_one (div_vld ha hd0)) (by omega) (by omega)) rfl) ?_
 refine G5 ?_
 refine AW.seq (D3 ?_)
 refine cD ?_ ?_ <;> intro h100
 ·
  refine D1 ?_
  refine SeqK.xw 101 rfl XW.tm0 ?_
  refine G3 ?_
  exact aR (f2 (.cellL rfl rfl ty199 rfl rfl (.tmp rfl .nil)) (⟨by rw [comb, if_neg h13, if_neg h20, if_neg h36, if_neg (by simp only [qA] at *; omega), if_neg (by omega), if_pos h100]; rfl, rfl⟩))
 have hs1 : (scale (div a b.c).1 (-b.c)).2 = 0 := qY.1 h100
 refine AW.skip (D2 ?_)
 refine sQ (q_call _ rfl fn199 rfl (add_any a _ ha (scale_vld (div_vld ha hd0) hs1) (by omega)) rfl) ?_
 refine G4 ?_
 exact aR (f2 (.cellL rfl rfl ty199 rfl rfl (.tmp rfl .nil)) (⟨by rw [comb, if_neg h13, if_neg h20, if_neg h36, if_neg (by simp only [qA] at *; omega), if_neg (by omega), if_neg h100]; rfl, rfl⟩))
theorem XW.pt0 {a b c d : A} : XW (.c (.g [a, b, c, d, nA])) (.c (.g [a, b, c, d, .t (.sl .un 2 [])])) := ⟨rfl, fun cx v h => by
  obtain ⟨us, rfl, h1, h2⟩ := h
  refine ⟨us, rfl, by simpa using h1, fun i x v hx hv => ?_⟩
  match i with
  | 0 => simp at hx; subst hx; exact h2 0 _ v rfl hv
  | 1 => simp at hx; subst hx; exact h2 1 _ v rfl hv
  | 2 => simp at hx; subst hx; exact h2 2 _ v rfl hv
  | 3 => simp at hx; subst hx; exact h2 3 _ v rfl hv
  | 4 =>
    simp at hx; subst hx
    exact XW.nilU.2 cx v (h2 4 _ v rfl hv)
  | i + 5 => simp at hx⟩
theorem bok_c {n : Int} (h : R64 n) : bokT ⟨n, []⟩ := ⟨h, by simp, by simp⟩
theorem bok_v {k v : Int} (hk : k ≠ 2) : bokT ⟨0, [⟨1, k, v, 0, []⟩]⟩ := by
  refine ⟨by show -9223372036854775808 ≤ (0 : Int) ∧ (0 : Int) ≤ 9223372036854775807; decide, fun p hp => ?_, fun p hp => ?_⟩
  · obtain rfl : p = ⟨1, k, v, 0, []⟩ := by simpa using hp
    show -9223372036854775808 ≤ (1 : Int) ∧ (1 : Int) ≤ 9223372036854775807
    decide
  · obtain rfl : p = ⟨1, k, v, 0, []⟩ := by simpa using hp
    exact fun h => absurd h hk
theorem cnt_c {n : Int} : (⟨n, []⟩ : Tm).cnt ≤ 100000 := by show 1 + (0 + 0) ≤ 100000; decide
theorem cnt_v {k v : Int} : (⟨0, [⟨1, k, v, 0, []⟩]⟩ : Tm).cnt ≤ 100000 := by show 1 + (1 + max 0 0) ≤ 100000; decide
structure rgE (e : Ex) : Prop where
  vn : R64 e.vn
  len : e.args.length ≤ 1000000
  vs : ∀ a ∈ e.args, a.vs.size ≤ 1152921504606846976
theorem leaf_of (e : Ex) (hr : rgE e) (ih : ∀ a ∈ e.args, Pu 158 [exC a] (trC (ofE a))) : Pu 179 [exC e] (trC (leafE e.op e.ix e.vk e.vn e.args (e.args.map ofE))) := by
 intro H
 refine Spec.enter Tryz.func179 rfl ?_
 refine AW.wk (wK 114 (l := [(0, .c (exC e))]) (ll := []) (H := (H))) ?_
 refine D3 ?_
 refine D3 ?_
 refine SeqK.xw 8 rfl XW.pt0 ?_
 refine G3 ?_
 refine AW.seq (D4 ?_)
 refine cD ?_ ?_ <;> intro h11
 rotate_left
 ·
  refine AW.skip (AW.seq (D5 ?_))
  refine cD ?_ ?_ <;> intro h76
  ·
   refine D1 ?_
   refine Z16 fn180 (ops_of e hr.len ih) ?_
   refine G4 ?_
   exact aR (f2 (.cellL rfl rfl ty199 rfl rfl (.tmp rfl .nil)) (⟨by rw [leafE, if_neg h11, if_pos (by simp only [qA] at *; omega)]; rfl, rfl⟩))
  refine AW.skip (AW.seq (AW.block (D3 ?_)))
  refine Z17 ?_ ?_ <;> intro g85
  ·
   refine G6 ?_
   refine cD ?_ ?_ <;> intro h81
   ·
    refine D4 ?_
    refine SeqK.xw 94 rfl XW.tm0 ?_
    refine Z16 fn195 (checked_any ⟨e.vn, []⟩ (bok_c hr.vn) cnt_c) ?_
    refine G4 ?_
    exact aR (f2 (.cellL rfl rfl ty199 rfl rfl (.tmp rfl .nil)) (⟨by rw [leafE, if_neg h11, if_neg (by simp only [qA] at *; omega), if_pos ⟨g85, h81⟩]; rfl, rfl⟩))
   refine D3 ?_
   refine Z17 ?_ ?_ <;> intro g102
   ·
    refine G2 ?_
    refine sO (q_geq rfl rfl rfl) ?_
    refine G2 ?_
    refine cD ?_ ?_ <;> intro h98
    ·
     refine D2 ?_
     refine SeqK.xw 108 rfl .un ?_
     refine G1 ?_
     refine sQ (q_call _ rfl fn195 rfl (checked_any ⟨0, [⟨1, 0, e.ix, 0, []⟩]⟩ (bok_v (by decide)) cnt_v) rfl) ?_
     refine G4 ?_
     exact aR (f2 (.cellL rfl rfl ty199 rfl rfl (.tmp rfl .nil)) (⟨by rw [leafE, if_neg h11, if_neg (by simp only [qA] at *; omega), if_neg (by omega), if_pos ⟨g102, h98⟩]; rfl, rfl⟩))
    refine AW.skip (D1 ?_)
    refine SeqK.xw 113 rfl XW.tm0 ?_
    refine G2 ?_
    exact aR (f2 (.cellL rfl rfl ty199 rfl rfl (.tmp rfl .nil)) (⟨by rw [leafE, if_neg h11, if_neg (by simp only [qA] at *; omega), if_neg (by omega), if_neg (by omega)]; rfl, rfl⟩))
   iterate 3 refine oF ?_
   refine G2 ?_
   refine AW.condF rfl ?_
   refine AW.skip (D1 ?_)
   refine SeqK.xw 113 rfl XW.tm0 ?_
   refine G2 ?_
   exact aR (f2 (.cellL rfl rfl ty199 rfl rfl (.tmp rfl .nil)) (⟨by rw [leafE, if_neg h11, if_neg (by simp only [qA] at *; omega), if_neg (by omega), if_neg (by omega)]; rfl, rfl⟩))
  iterate 4 refine oF ?_
  refine G2 ?_
  refine AW.condF rfl ?_
  refine D3 ?_
  refine Z17 ?_ ?_ <;> intro g102
  ·
   refine G2 ?_
   refine sO (q_geq rfl rfl rfl) ?_
   refine G2 ?_
   refine cD ?_ ?_ <;> intro h98
   ·
    refine D2 ?_
    refine SeqK.xw 108 rfl .un ?_
    refine G1 ?_
    refine sQ (q_call _ rfl fn195 rfl (checked_any ⟨0, [⟨1, 0, e.ix, 0, []⟩]⟩ (bok_v (by decide)) cnt_v) rfl) ?_
    refine G4 ?_
    exact aR (f2 (.cellL rfl rfl ty199 rfl rfl (.tmp rfl .nil)) (⟨by rw [leafE, if_neg h11, if_neg (by simp only [qA] at *; omega), if_neg (by omega), if_pos ⟨g102, h98⟩]; rfl, rfl⟩))
   refine AW.skip (D1 ?_)
   refine SeqK.xw 113 rfl XW.tm0 ?_
   refine G2 ?_
   exact aR (f2 (.cellL rfl rfl ty199 rfl rfl (.tmp rfl .nil)) (⟨by rw [leafE, if_neg h11, if_neg (by simp only [qA] at *; omega), if_neg (by omega), if_neg (by omega)]; rfl, rfl⟩))
  iterate 3 refine oF ?_
  refine G2 ?_
  refine AW.condF rfl ?_
  refine AW.skip (D1 ?_)
  refine SeqK.xw 113 rfl XW.tm0 ?_
  refine G2 ?_
  exact aR (f2 (.cellL rfl rfl ty199 rfl rfl (.tmp rfl .nil)) (⟨by rw [leafE, if_neg h11, if_neg (by simp only [qA] at *; omega), if_neg (by omega), if_neg (by omega)]; rfl, rfl⟩))
 refine AW.seq (D5 ?_)
 refine cD ?_ ?_ <;> intro h15
 ·
  refine D1 ?_
  refine Z16 fn180 (ops_of e hr.len ih) ?_
  refine G4 ?_
  exact aR (f2 (.cellL rfl rfl ty199 rfl rfl (.tmp rfl .nil)) (⟨by rw [leaf9_ne h11 (by simp only [qA] at *; omega)]; rfl, rfl⟩))
 have hl1 : e.args.length = 1 := by rw [qA] at h15; omega
 have h01 : 0 < e.args.length := by omega
 have hvs := hr.vs _ (qC h01)
 refine AW.skip (D7 ?_)
 refine AW.seq (D5 ?_)
 refine cD ?_ ?_ <;> intro h27
 ·
  refine D1 ?_
  refine Z16 fn180 (ops_of e hr.len ih) ?_
  refine G4 ?_
  exact aR (f2 (.cellL rfl rfl ty199 rfl rfl (.tmp rfl .nil)) (⟨by rw [leaf9_one h11 h01 hl1, lenE, if_pos (by simp only [qA] at *; omega)]; rfl, rfl⟩))
 refine AW.skip (AW.seq (AW.block (D3 ?_)))
 refine Z17 ?_ ?_ <;> intro g36
 ·
  refine G6 ?_
  refine cD ?_ ?_ <;> intro h32
  ·
   refine D5 ?_
   refine SeqK.xw 46 rfl XW.tm0 ?_
   refine sQ (q_call _ rfl fn195 rfl (checked_any ⟨(e.args[0].vs.size : Int), []⟩ (bok_c (by omega)) cnt_c) rfl) ?_
   refine G4 ?_
   exact aR (f2 (.cellL rfl rfl ty199 rfl rfl (.tmp rfl .nil)) (⟨by rw [leaf9_one h11 h01 hl1, lenE, if_neg (by simp only [qA] at *; omega), if_pos ⟨g36, h32⟩]; rfl, rfl⟩))
  refine D3 ?_
  refine Z17 ?_ ?_ <;> intro g54
  rotate_left
  ·
   iterate 3 refine oF ?_
   refine G2 ?_
   refine AW.condF rfl ?_
   refine AW.skip (D1 ?_)
   refine Z16 fn180 (ops_of e hr.len ih) ?_
   refine G4 ?_
   exact aR (f2 (.cellL rfl rfl ty199 rfl rfl (.tmp rfl .nil)) (⟨by rw [leaf9_one h11 h01 hl1, lenE, if_neg (by simp only [qA] at *; omega), if_neg (by omega), if_neg (by omega)]; rfl, rfl⟩))
  refine G2 ?_
  refine sO (q_geq rfl rfl rfl) ?_
  refine G2 ?_
  refine cD ?_ ?_ <;> intro h50
  ·
   refine AW.seq (AW.draw mo ?_)
   refine N7 ?_
   refine D2 ?_
   refine SeqK.xw 64 rfl .un ?_
   refine G1 ?_
   refine sQ (q_call _ rfl fn195 rfl (checked_any ⟨0, [⟨1, 1, e.args[0].ix, 0, []⟩]⟩ (bok_v (by decide)) cnt_v) rfl) ?_
   refine G4 ?_
   exact aR (f2 (.cellL rfl rfl ty199 rfl rfl (.tmp rfl .nil)) (⟨by rw [leaf9_one h11 h01 hl1, lenE, if_neg (by simp only [qA] at *; omega), if_neg (by omega), if_pos ⟨g54, h50⟩]; rfl, rfl⟩))
  refine AW.skip (D1 ?_)
  refine Z16 fn180 (ops_of e hr.len ih) ?_
  refine G4 ?_
  exact aR (f2 (.cellL rfl rfl ty199 rfl rfl (.tmp rfl .nil)) (⟨by rw [leaf9_one h11 h01 hl1, lenE, if_neg (by simp only [qA] at *; omega), if_neg (by omega), if_neg (by omega)]; rfl, rfl⟩))
 iterate 4 refine oF ?_
 refine G2 ?_
 refine AW.condF rfl ?_
 refine D3 ?_
 refine Z17 ?_ ?_ <;> intro g54
 rotate_left
 ·
  iterate 3 refine oF ?_
  refine G2 ?_
  refine AW.condF rfl ?_
  refine AW.skip (D1 ?_)
  refine Z16 fn180 (ops_of e hr.len ih) ?_
  refine G4 ?_
  exact aR (f2 (.cellL rfl rfl ty199 rfl rfl (.tmp rfl .nil)) (⟨by rw [leaf9_one h11 h01 hl1, lenE, if_neg (by simp only [qA] at *; omega), if_neg (by omega), if_neg (by omega)]; rfl, rfl⟩))
 refine G2 ?_
 refine sO (q_geq rfl rfl rfl) ?_
 refine G2 ?_
 refine cD ?_ ?_ <;> intro h50
 ·
  refine AW.seq (AW.draw mo ?_)
  refine N7 ?_
  refine D2 ?_
  refine SeqK.xw 64 rfl .un ?_
  refine G1 ?_
  refine sQ (q_call _ rfl fn195 rfl (checked_any ⟨0, [⟨1, 1, e.args[0].ix, 0, []⟩]⟩ (bok_v (by decide)) cnt_v) rfl) ?_
  refine G4 ?_
  exact aR (f2 (.cellL rfl rfl ty199 rfl rfl (.tmp rfl .nil)) (⟨by rw [leaf9_one h11 h01 hl1, lenE, if_neg (by simp only [qA] at *; omega), if_neg (by omega), if_pos ⟨g54, h50⟩]; rfl, rfl⟩))
 refine AW.skip (D1 ?_)
 refine Z16 fn180 (ops_of e hr.len ih) ?_
 refine G4 ?_
 exact aR (f2 (.cellL rfl rfl ty199 rfl rfl (.tmp rfl .nil)) (⟨by rw [leaf9_one h11 h01 hl1, lenE, if_neg (by simp only [qA] at *; omega), if_neg (by omega), if_neg (by omega)]; rfl, rfl⟩))
end Go.Proofs.YtgnnjebfoffphaaGreatDoor.W
