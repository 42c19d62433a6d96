import Derived.Test.YtgnnjebfoffphaaGreatDoorM23
set_option maxRecDepth 20000
set_option maxHeartbeats 8000000
set_option linter.unusedSectionVars false
set_option linter.unusedSimpArgs false
set_option linter.unusedVariables false
namespace Go.Proofs.YtgnnjebfoffphaaGreatDoor.W
open Fx
open Go.RowKit E M
open Q
theorem tm_neg {a b : Int} (hb : 1 ≤ b) : a.tmod b < 0 ↔ a.tmod b ≠ 0 ∧ a < 0 := by
  rcases Int.lt_or_le a 0 with h | h
  · have k : 0 ≤ (-a).tmod b := Int.tmod_nonneg b (by omega)
    rw [Int.neg_tmod] at k
    omega
  · have k : 0 ≤ a.tmod b := Int.tmod_nonneg b h
    omega
theorem ev_lit {r : List RV} {e : Ex} (h : e.op = 1) : (⟨e.vk, e.vn, e.vs⟩ : RV) = evE r e := by rw [evE_eq, if_pos h]
theorem ev_col {r : List RV} {e : Ex} (h : ¬ e.op = 1) (h2 : e.op = 2) (hx : e.ix.toNat < r.length) : r[e.ix.toNat] = evE r e := by rw [evE_eq, if_neg h, if_pos h2, getD_at hx]
theorem ev_u {r : List RV} {e a : Ex} (h : ¬ e.op = 1) (h2 : ¬ e.op = 2) (ha : e.args = [a]) : evE r e = if (evE r a).k = 0 then rv0 else ⟨1, cmpV e.op [evE r a], ⟨#[]⟩⟩ := by
  rw [evE_eq, if_neg h, if_neg h2, ha]; simp only [qL, List.map_nil, evL, List.nil_append]
theorem ev_b {r : List RV} {e a b : Ex} (h : ¬ e.op = 1) (h2 : ¬ e.op = 2) (ha : e.args = [a, b]) : evE r e = if (evE r a).k = 0 then rv0 else if (evE r b).k = 0 then rv0 else ⟨1, cmpV e.op [evE r a, evE r b], ⟨#[]⟩⟩ := by
  rw [evE_eq, if_neg h, if_neg h2, ha]; simp only [qL, List.map_nil, evL, List.nil_append, List.cons_append]
theorem ev_n0 {r : List RV} {e : Ex} (h : ¬ e.op = 1) (h2 : ¬ e.op = 2) (h0 : 0 < e.args.length) (hk : (evE r e.args[0]).k = 0) : rv0 = evE r e := by
  rw [evE_eq, if_neg h, if_neg h2]
  cases hl : e.args with
  | nil => rw [hl] at h0; cases h0
  | cons a l => simp only [hl] at hk; rw [qL, evL]; exact (if_pos hk).symm
theorem ev_n1 {r : List RV} {e : Ex} (h : ¬ e.op = 1) (h2 : ¬ e.op = 2) (h1 : e.args.length = 2) (hk0 : ¬ (evE r (e.args[0]'(by omega))).k = 0) (hk : (evE r (e.args[1]'(by omega))).k = 0) : rv0 = evE r e := by
  obtain ⟨a, b, hl⟩ := list2 h1
  simp only [hl, List.getElem_cons_zero, List.getElem_cons_succ] at hk hk0
  rw [ev_b h h2 hl, if_neg hk0, if_pos hk]
theorem ev_v1 {r : List RV} {e : Ex} {n : Int} (h : ¬ e.op = 1) (h2 : ¬ e.op = 2) (h1 : e.args.length = 1) (hk0 : ¬ (evE r (e.args[0]'(by omega))).k = 0) (hn : n = cmpV e.op [evE r (e.args[0]'(by omega))]) : (⟨1, n, ⟨#[]⟩⟩ : RV) = evE r e := by
  obtain ⟨a, hl⟩ := list1 h1
  subst hn
  simp only [hl, List.getElem_cons_zero] at hk0 ⊢
  rw [ev_u h h2 hl, if_neg hk0]
theorem ev_v2 {r : List RV} {e : Ex} {n : Int} (h : ¬ e.op = 1) (h2 : ¬ e.op = 2) (h1 : e.args.length = 2) (hk0 : ¬ (evE r (e.args[0]'(by omega))).k = 0) (hk1 : ¬ (evE r (e.args[1]'(by omega))).k = 0) (hn : n = cmpV e.op [evE r (e.args[0]'(by omega)), evE r (e.args[1]'(by omega))]) : (⟨1, n, ⟨#[]⟩⟩ : RV) = evE r e := by
  obtain ⟨a, b, hl⟩ := list2 h1
  subst hn
  simp only [hl, List.getElem_cons_zero, List.getElem_cons_succ] at hk0 hk1 ⊢
  rw [ev_b h h2 hl, if_neg hk0, if_neg hk1]
section
variable {op : Int} {x y : RV}
theorem cm_3 (h : op = 3) : wI (0 - x.n) = cmpV op [x] := by unfold cmpV; rw [if_pos h]; rfl
theorem cm_9 (h : op = 9) : ((x.s.size : Nat) : Int) = cmpV op [x] := by unfold cmpV; rw [if_neg (by omega), if_pos h]; rfl
theorem cm_4 (h : op = 4) : wI (x.n + y.n) = cmpV op [x, y] := by unfold cmpV; rw [if_neg (by omega), if_neg (by omega), if_pos h]; rfl
theorem cm_5 (h : op = 5) : wI (x.n - y.n) = cmpV op [x, y] := by unfold cmpV; rw [if_neg (by omega), if_neg (by omega), if_neg (by omega), if_pos h]; rfl
theorem cm_6 (h : op = 6) : wI (x.n * y.n) = cmpV op [x, y] := by unfold cmpV; rw [if_neg (by omega), if_neg (by omega), if_neg (by omega), if_neg (by omega), if_pos h]; rfl
theorem cm_7 (h : op = 7) : flrI x.n y.n = cmpV op [x, y] := by unfold cmpV; rw [if_neg (by omega), if_neg (by omega), if_neg (by omega), if_neg (by omega), if_neg (by omega), if_pos h]; rfl
theorem cm_8 (h : op ≠ 3 ∧ op ≠ 9 ∧ op ≠ 4 ∧ op ≠ 5 ∧ op ≠ 6 ∧ op ≠ 7) : wI (x.n - wI (y.n * flrI x.n y.n)) = cmpV op [x, y] := by unfold cmpV; rw [if_neg h.1, if_neg h.2.1, if_neg h.2.2.1, if_neg h.2.2.2.1, if_neg h.2.2.2.2.1, if_neg h.2.2.2.2.2]; rfl
end
theorem integer_any (n : Int) : Pu 36 [iC n] (.c (rvC ⟨1, n, ⟨#[]⟩⟩)) := by
 intro H
 refine Spec.enter Tryz.func36 rfl ?_
 refine AW.wk (wK 5 (l := [(0, .c (iC n))]) (ll := []) (H := (H))) ?_
 refine D1 ?_
 refine Z3 (sR (sM ?_))
 refine G2 ?_
 refine Z3 (AW.ret ?_)
 exact f1 (.cellL rfl rfl ty35 rfl rfl .nil) (⟨rfl, rfl⟩)
theorem floorR_any (a b : Int) (hb : 1 ≤ b) : Pu 37 [iC a, iC b] (.c (iC (flrI a b))) := by
 have htm := tm_neg (a := a) hb
 intro H
 refine Spec.enter Tryz.func37 rfl ?_
 refine AW.wk (wK 23 (l := [(0, .c (iC a)), (1, .c (iC b))]) (ll := []) (H := (H))) ?_
 refine eL281 ?_
 refine sQ (q_quo _ rfl rfl rfl (by omega) (by rfl)) ?_
 refine sB ?_
 refine eL205 ?_
 refine sQ (q_rem rfl rfl rfl (by omega)) ?_
 refine Z28 ?_
 refine Z22 ?_ ?_ <;> intro g13
 ·
  refine Z14 ?_
  refine eL214 ?_
  refine Z14 ?_
  refine eL214 ?_
  refine sO (q_neqB rfl un4 rfl rfl) ?_
  refine Z8 ?_
  refine Z3 ?_
  refine cD ?_ ?_ <;> intro h19
  ·
   refine B1 ?_
   refine sQ (q_sub _ rfl rfl rfl (rfl)) ?_
   refine eL277 ?_
   exact cL54
  refine eL201 ?_
  exact cL54
 iterate 5 refine oF ?_
 refine eL172 ?_
 refine eL201 ?_
 exact cL54
theorem rvalue_of (r : List RV) (z : Nz) (e : Ex) (hv : vN r e) (hf : arN e.op e.args.length) (hr : tsR r) (ht : tsE e) (ih : e.op ≠ 1 → e.op ≠ 2 → ∀ a ∈ e.args, Pu 15 [exC a, rowC z r] (.c (rvC (evE r a)))) : Pu 15 [exC e, rowC z r] (.c (rvC (evE r e))) := by
 intro H
 refine Spec.enter Tryz.func15 rfl ?_
 refine AW.wk (wK 100 (l := [(0, .c (exC e)), (1, .c (rowC z r))]) (ll := []) (H := (H))) ?_
 refine D2 ?_
 refine Z3 (AW.seq (sR (Z1 fl37_0 ?_)))
 refine eL165 ?_
 refine cD ?_ ?_ <;> intro h9
 ·
  refine D3 ?_
  refine Z3 (AW.ret ?_)
  exact f1 (.cellL rfl rfl ty35 rfl rfl .nil) (⟨rvCe (a := ⟨e.vk, e.vn, e.vs⟩) (ev_lit h9), rfl⟩)
 refine eL187 ?_
 refine cD ?_ ?_ <;> intro h14
 ·
  obtain ⟨hx0, hx1⟩ := hv.ix (by assumption)
  have hx : e.ix.toNat < r.length := by omega
  refine D3 ?_
  refine Z10 sl55 (idx_map (f := rvT) hx) ?_
  refine G2 ?_
  refine Z3 (AW.ret ?_)
  exact f1 (.cellL rfl rfl ty35 rfl rfl .nil) (⟨rvCe (a := r[e.ix.toNat]) (ev_col h9 h14 hx), rfl⟩)
 have h0 : 0 < e.args.length := hv.a0 h9 h14
 have hsz := ev_s hr (((tsE_iff e).1 ht).2 _ (qC h0))
 refine eL201 ?_
 refine Z10 sl27 (idx_ex h0) ?_
 refine G2 ?_
 refine Z16 fn15 (ih h9 h14 _ (qC h0)) ?_
 refine G2 ?_
 refine Z3 (AW.seq (sR (Z1 fl35_0 ?_)))
 refine eL165 ?_
 refine cD ?_ ?_ <;> intro h28
 ·
  refine D2 ?_
  refine Z3 (AW.ret ?_)
  exact f1 (.cellL rfl rfl ty35 rfl rfl .nil) (⟨rvCe (a := rv0) (ev_n0 h9 h14 h0 h28), rfl⟩)
 refine eL187 ?_
 refine cD ?_ ?_ <;> intro h32
 ·
  refine D2 ?_
  refine sQ (q_neg _ rfl rfl ((rfl : IntKind.i64.wrap _ = wI (0 - (evE r (e.args[0]'h0)).n)))) ?_
  refine eL199 ?_
  exact f1 (.cellL rfl rfl ty35 rfl rfl .nil) (⟨rvCe (ev_v1 h9 h14 (by omega) h28 (cm_3 h32)), rfl⟩)
 refine eL187 ?_
 refine cD ?_ ?_ <;> intro h39
 ·
  refine D3 ?_
  refine eL199 ?_
  exact f1 (.cellL rfl rfl ty35 rfl rfl .nil) (⟨rvCe (ev_v1 h9 h14 (by omega) h28 (cm_9 h39)), rfl⟩)
 have h12 : 1 < e.args.length := hv.a1 h9 h14 h32 h39
 have hl2 : e.args.length = 2 := by have := hv.two; omega
 refine eL201 ?_
 refine Z10 sl27 (idx_ex h12) ?_
 refine G2 ?_
 refine Z16 fn15 (ih h9 h14 _ (qC h12)) ?_
 refine G2 ?_
 refine Z3 (AW.seq (sR (Z1 fl35_0 ?_)))
 refine eL165 ?_
 refine cD ?_ ?_ <;> intro h52
 ·
  refine D2 ?_
  refine Z3 (AW.ret ?_)
  exact f1 (.cellL rfl rfl ty35 rfl rfl .nil) (⟨rvCe (a := rv0) (ev_n1 h9 h14 hl2 h28 h52), rfl⟩)
 refine eL198 ?_
 refine eL160 ?_
 refine cD ?_ ?_ <;> intro h56
 ·
  refine D4 ?_
  refine sQ (q_add _ rfl rfl rfl ((rfl : IntKind.i64.wrap _ = wI ((evE r (e.args[0]'h0)).n + (evE r (e.args[1]'h12)).n)))) ?_
  refine eL199 ?_
  exact f1 (.cellL rfl rfl ty35 rfl rfl .nil) (⟨rvCe (ev_v2 h9 h14 hl2 h28 h52 (cm_4 (by omega))), rfl⟩)
 refine D2 ?_
 refine cD ?_ ?_ <;> intro h64
 ·
  refine D4 ?_
  refine sQ (q_sub _ rfl rfl rfl ((rfl : IntKind.i64.wrap _ = wI ((evE r (e.args[0]'h0)).n - (evE r (e.args[1]'h12)).n)))) ?_
  refine eL199 ?_
  exact f1 (.cellL rfl rfl ty35 rfl rfl .nil) (⟨rvCe (ev_v2 h9 h14 hl2 h28 h52 (cm_5 (by omega))), rfl⟩)
 refine D2 ?_
 refine cD ?_ ?_ <;> intro h72
 ·
  refine D4 ?_
  refine sQ (q_mul _ rfl rfl rfl ((rfl : IntKind.i64.wrap _ = wI ((evE r (e.args[0]'h0)).n * (evE r (e.args[1]'h12)).n)))) ?_
  refine eL199 ?_
  exact f1 (.cellL rfl rfl ty35 rfl rfl .nil) (⟨rvCe (ev_v2 h9 h14 hl2 h28 h52 (cm_6 (by omega))), rfl⟩)
 refine D2 ?_
 refine cD ?_ ?_ <;> intro h80
 ·
  have hdv := hv.dv h9 h14 h32 h39 h56 h64 h72 h12
  refine D4 ?_
  refine Z16 fn37 (floorR_any _ _ hdv) ?_
  refine eL199 ?_
  exact f1 (.cellL rfl rfl ty35 rfl rfl .nil) (⟨rvCe (ev_v2 h9 h14 hl2 h28 h52 (cm_7 (by omega))), rfl⟩)
 have hdv := hv.dv h9 h14 h32 h39 h56 h64 h72 h12
 refine eL252 ?_
 refine N8 ?_
 refine Z40 fn37 (floorR_any _ _ hdv) ?_
 refine lQ (q_mul _ rfl rfl rfl ((rfl : IntKind.i64.wrap _ = wI ((evE r (e.args[1]'h12)).n * flrI (evE r (e.args[0]'h0)).n (evE r (e.args[1]'h12)).n)))) ?_
 refine lQ (q_sub _ rfl rfl rfl ((rfl : IntKind.i64.wrap _ = wI ((evE r (e.args[0]'h0)).n - wI ((evE r (e.args[1]'h12)).n * flrI (evE r (e.args[0]'h0)).n (evE r (e.args[1]'h12)).n))))) ?_
 refine Z40 fn36 (integer_any _) ?_
 refine N1 ?_
 refine Z38 ?_
 exact aR (f1 (.cellL rfl rfl ty35 rfl rfl .nil) (⟨rvCe (ev_v2 h9 h14 hl2 h28 h52 (cm_8 (by omega))), rfl⟩))
theorem rvalue_any (r : List RV) (z : Nz) (hr : tsR r) {e : Ex} (h : Ev r e) : fmE e → tsE e → Pu 15 [exC e, rowC z r] (.c (rvC (evE r e))) := by
  induction h with
  | mk e hv ha ih => exact fun hf ht => rvalue_of r z e hv ((fmE_iff e).1 hf).1 hr ht fun h1 h2 a hm => ih h1 h2 a hm (((fmE_iff e).1 hf).2 a hm) (((tsE_iff e).1 ht).2 a hm)
open Q
theorem ib_at {α : Type} {p : α → Bool} {l : List α} {i : Nat} (hi : i < l.length) (h : p l[i] = true) (hI : ixF p (l.drop i) i = ixF p l 0) : (X.tup [iC (i : Int), bC true]) = ibX (ixF p l 0) := by
  rw [← hI, ixF_hit hi h]
  have h1 : max (i : Int) 0 = i := by omega
  have h2 : decide (0 ≤ (i : Int)) = true := jI (by omega)
  show _ = X.tup [iC (max (i : Int) 0), bC (decide (0 ≤ (i : Int)))]
  rw [h1, h2]
theorem ib_no {α : Type} {p : α → Bool} {l : List α} (hI : ixF p (l.drop l.length) l.length = ixF p l 0) : (X.tup [iC 0, bC false]) = ibX (ixF p l 0) := by
  rw [← hI, List.drop_length, ixF]; rfl
theorem cnY {p : Ex → Bool} {e : Ex} {i : Nat} (hi : i < e.args.length) (h : cnB p e.args[i] = true) : true = cnB p e := by
  rw [cnB_eq]; symm; rw [Bool.or_eq_true]; exact .inr (List.any_eq_true.2 ⟨_, qC hi, h⟩)
theorem cnN {p : Ex → Bool} {e : Ex} (h : ∀ j (h : j < e.args.length), cnB p e.args[j] = false) : p e = cnB p e := by
  rw [cnB_eq]
  have : e.args.any (cnB p) = false := List.any_eq_false.2 fun a ha => by
    obtain ⟨j, hj, rfl⟩ := qN.1 ha
    rw [h j hj]; simp
  rw [this, Bool.or_false]
theorem rfits_any (k w : Int) : Pu 53 [iC k, iC w] (.c (bC (fitI k w))) := by
 intro H
 refine Spec.enter Tryz.func53 rfl ?_
 refine AW.wk (wK 12 (l := [(0, .c (iC k)), (1, .c (iC w))]) (ll := []) (H := (H))) ?_
 refine eL281 ?_
 refine Z22 ?_ ?_ <;> intro g7
 ·
  iterate 3 refine oF ?_
  refine G2 ?_
  exact cL63
 refine G5 ?_
 exact cL63
theorem rcolumn_any (t : Tb) (nm : ByteArray) (hl : t.cols.length ≤ 1000000000) : Pu 54 [tbC t, sC nm] (ibX (colI t.cols nm)) := by
 intro H
 refine Spec.enter Tryz.func54 rfl ?_
 refine AW.wk (wK 23 (l := [(0, .c (tbC t)), (1, .c (sC nm))]) (ll := []) (H := (H))) ?_
 refine D3 ?_
 refine eL161 ?_
 refine AW.block (AW.loop (fun (i : Nat) s => (i ≤ t.cols.length ∧ ixF (fun c : Co => decide (c.nm = nm)) (t.cols.drop i) i = ixF (fun c : Co => decide (c.nm = nm)) t.cols 0) ∧ s = ⟨23, sp [(1, .c (sC nm)), (2, .lp 2 0), (4, .c (iC 0)), (5, .c (bC false)), (6, nX i)], lv [(2, .box (zTb t))], H⟩) (fun i => t.cols.length - i) 0 ⟨_, by exact wK 23, ⟨qZ _, rfl⟩, rfl⟩ (fun i s hs => ?_))
 obtain ⟨⟨hi0, hI⟩, rfl⟩ := hs
 refine eL150 ?_
 refine cD ?_ ?_ <;> intro h11
 ·
  have hi := oI h11
  refine eL152 ?_
  refine eL236 ?_
  refine eL200 ?_
  refine Z3 ?_
  refine cD ?_ ?_ <;> intro h21
  ·
   refine D3 ?_
   exact aR (f2 (.tmp rfl (.tmp rfl .nil)) (⟨ib_at hi (jI h21) hI, rfl⟩))
  refine eL173 ?_
  exact ⟨i + 1, _, by exact wK 23, by omega, ⟨hi, by rw [← hI, ixF_miss hi (jJ h21)]⟩, rfl⟩
 refine eL147 ?_
 refine eL235 ?_
 obtain rfl := oE h11 hi0
 refine B2 ?_
 exact aR (f2 (.tmp rfl (.tmp rfl .nil)) (⟨ib_no hI, rfl⟩))
theorem rfind_any (d : List Tb) (z : Nz) (nm : ByteArray) (hl : d.length ≤ 1000000000) : Pu 98 [scC z d, sC nm] (ibX (fndI d nm)) := by
 intro H
 refine Spec.enter Tryz.func98 rfl ?_
 refine AW.wk (wK 21 (l := [(0, .c (scC z d)), (1, .c (sC nm))]) (ll := []) (H := (H))) ?_
 refine D2 ?_
 refine eL161 ?_
 refine AW.block (AW.loop (fun (i : Nat) s => (i ≤ d.length ∧ ixF (fun t : Tb => decide (t.nm = nm)) (d.drop i) i = ixF (fun t : Tb => decide (t.nm = nm)) d 0) ∧ s = ⟨21, sp [(0, .c (scC z d)), (1, .c (sC nm)), (4, .c (iC 0)), (5, .c (bC false)), (6, nX i)], lv [], H⟩) (fun i => d.length - i) 0 ⟨_, by exact wK 21, ⟨qZ _, rfl⟩, rfl⟩ (fun i s hs => ?_))
 obtain ⟨⟨hi0, hI⟩, rfl⟩ := hs
 refine eL155 ?_
 refine cD ?_ ?_ <;> intro h10
 ·
  have hi := oI h10
  refine eL159 ?_
  refine eL221 ?_
  refine G3 ?_
  refine eL200 ?_
  refine Z3 ?_
  refine cD ?_ ?_ <;> intro h19
  ·
   refine D3 ?_
   exact aR (f2 (.tmp rfl (.tmp rfl .nil)) (⟨ib_at hi (jI h19) hI, rfl⟩))
  refine eL173 ?_
  exact ⟨i + 1, _, by exact wK 21, by omega, ⟨hi, by rw [← hI, ixF_miss hi (jJ h19)]⟩, rfl⟩
 refine eL147 ?_
 refine eL235 ?_
 obtain rfl := oE h10 hi0
 refine B2 ?_
 exact aR (f2 (.tmp rfl (.tmp rfl .nil)) (⟨ib_no hI, rfl⟩))
theorem rvariables_any (t : Tb) (hl : t.cols.length ≤ 1000000000) : Pu 101 [tbC t] (.c (vsC .un (vrsT t))) := by
 intro H
 refine Spec.enter Tryz.func101 rfl ?_
 refine AW.wk (wK 34 (l := [(0, .c (tbC t))]) (ll := []) (H := (H))) ?_
 refine eL225 ?_
 refine eL161 ?_
 refine AW.block (AW.tip 3 88 5 rfl (fun k0 hk0 => ?_))
 refine AW.loop (fun (i : Nat) s => ∃ (kt : Nat) (zs : List (List E.T)), (i ≤ t.cols.length ∧ H kt = none ∧ zs = ((t.cols.take i).map fun c => (⟨c.ty, c.lo, c.hi, c.mx, !c.nn⟩ : Vr)).map vrT) ∧ s = ⟨34, sp [(1, .lp 1 0), (2, .c (.a nA)), (3, .c (.a (.ts kt .ne 5 zs))), (4, nX i)], lv [(1, .box (zTb t))], upd H kt (some (.tip 88 5 zs.length))⟩) (fun i => t.cols.length - i) 0 ⟨_, by exact wK 34, k0, [], ⟨qZ _, hk0, rfl⟩, rfl⟩ (fun i s hs => ?_)
 obtain ⟨kt, zs, ⟨hi0, hkt, hzs⟩, rfl⟩ := hs
 refine eL150 ?_
 refine cD ?_ ?_ <;> intro h10
 rotate_left
 ·
  refine eL147 ?_
  refine eL235 ?_
  obtain rfl := oE h10 hi0
  exact cL60
 have hi := oI h10
 have hzl := vr_len (by omega) hzs
 refine eL152 ?_
 refine eL236 ?_
 refine Z3 (AW.reg (sM ?_))
 refine G13 ?_
 refine SeqK.app1 rfl (hkt) rfl el44 rfl rfl (by simp [hzl]; omega) rfl rfl (fun k32 hk32 => ?_)
 refine eL166 ?_
 exact ⟨i + 1, _, by exact wK 34, by omega, k32, zs ++ [vrT ⟨t.cols[i].ty, t.cols[i].lo, t.cols[i].hi, t.cols[i].mx, !t.cols[i].nn⟩], ⟨hi, hk32, vr_take hi hzs⟩, rfl⟩
theorem rcolumns_of (e : Ex) (hl : e.args.length ≤ 1000000000)  (ih : ∀ a ∈ e.args, Pu 141 [exC a] (.c (bC (cnB icB a)))) : Pu 141 [exC e] (.c (bC (cnB icB e))) := by
 intro H
 refine Spec.enter Tryz.func141 rfl ?_
 refine AW.wk (wK 20 (l := [(0, .c (exC e))]) (ll := []) (H := (H))) ?_
 refine D2 ?_
 refine eL161 ?_
 refine AW.block (AW.loop (fun (i : Nat) s => (i ≤ e.args.length ∧ ∀ j (h : j < e.args.length), j < i → cnB icB e.args[j] = false) ∧ s = ⟨20, sp [(1, .lp 1 0), (2, .c (bC false)), (3, nX i)], lv [(1, .box (zEx e))], H⟩) (fun i => e.args.length - i) 0 ⟨_, by exact wK 20, ⟨qZ _, up0⟩, rfl⟩ (fun i s hs => ?_))
 obtain ⟨⟨hi0, hU⟩, rfl⟩ := hs
 refine eL150 ?_
 refine cD ?_ ?_ <;> intro h8
 ·
  have hi := oI h8
  refine eL152 ?_
  refine eL193 ?_
  refine Z16 fn141 (ih _ (qC hi)) ?_
  refine Z3 ?_
  refine AW.cond _ rfl (fun h16 => ?_) (fun h16 => ?_)
  ·
   refine D1 ?_
   exact aR (fE (e := bCe (cnY hi (by simpa using h16))))
  refine eL173 ?_
  exact ⟨i + 1, _, by exact wK 20, by omega, ⟨hi, upS hi hU (by simpa using h16)⟩, rfl⟩
 refine eL147 ?_
 refine D4 ?_
 exact aR (fE (e := bCe (cnN (upE hU (by (try rw [qA] at h8); omega)))))
theorem rnull_of (e : Ex) (hl : e.args.length ≤ 1000000000) (h1 : e.op = 1 → e.args.length = 0) (ih : ∀ a ∈ e.args, Pu 143 [exC a] (.c (bC (cnB inuB a)))) : Pu 143 [exC e] (.c (bC (cnB inuB e))) := by
 intro H
 refine Spec.enter Tryz.func143 rfl ?_
 refine eL285 ?_
 refine D2 ?_
 refine eL189 ?_
 refine cD ?_ ?_ <;> intro h6
 ·
  refine D5 ?_
  exact aR (fE (e := bCe (by rw [← cnN (p := inuB) (e := e) (fun j hj => absurd hj (by have := h1 h6; omega))]; first | exact (jI ⟨h6, by omega⟩).symm | exact (jJ (by omega)).symm | exact dcE (by omega))))
 refine eL232 ?_
 refine AW.block (AW.loop (fun (i : Nat) s => (i ≤ e.args.length ∧ ∀ j (h : j < e.args.length), j < i → cnB inuB e.args[j] = false) ∧ s = ⟨24, sp [(1, .lp 1 0), (2, .c (bC false)), (3, nX i)], lv [(1, .box (zEx e))], H⟩) (fun i => e.args.length - i) 0 ⟨_, by exact wK 24, ⟨qZ _, up0⟩, rfl⟩ (fun i s hs => ?_))
 obtain ⟨⟨hi0, hU⟩, rfl⟩ := hs
 refine eL150 ?_
 refine cD ?_ ?_ <;> intro h15
 ·
  have hi := oI h15
  refine eL152 ?_
  refine eL193 ?_
  refine Z16 fn143 (ih _ (qC hi)) ?_
  refine Z3 ?_
  refine AW.cond _ rfl (fun h23 => ?_) (fun h23 => ?_)
  ·
   refine D1 ?_
   exact aR (fE (e := bCe (cnY hi (by simpa using h23))))
  refine eL173 ?_
  exact ⟨i + 1, _, by exact wK 24, by omega, ⟨hi, upS hi hU (by simpa using h23)⟩, rfl⟩
 refine eL147 ?_
 refine D1 ?_
 exact aR (fE (e := bCe (by rw [← cnN (upE hU (by (try rw [qA] at h15); omega))]; exact (jJ (by omega)).symm)))
theorem rcolumns_any (e : Ex) : fmE e → Pu 141 [exC e] (.c (bC (cnB icB e))) := by
  induction e using Ex.ind with
  | h e ih =>
    intro hf
    have h := (fmE_iff e).1 hf
    exact rcolumns_of e (by have := h.1; omega) fun a ha => ih a ha (h.2 a ha)
theorem rnull_any (e : Ex) : fmE e → Pu 143 [exC e] (.c (bC (cnB inuB e))) := by
  induction e using Ex.ind with
  | h e ih =>
    intro hf
    have h := (fmE_iff e).1 hf
    exact rnull_of e (by have := h.1; omega) (fun h1 => by have := h.1; omega) fun a ha => ih a ha (h.2 a ha)
theorem divisor_any (e : Ex) (hf : fmE e) (ht : tsE e) (hv : cnB icB e = false → Ev [] e) : Pu 142 [exC e] (.c (bC (decide ((cstE e).2 = 0 ∧ (cstE e).1.k = 1 ∧ 1 ≤ (cstE e).1.n ∧ (cstE e).1.n ≤ 1000)))) := by
 intro H
 refine Spec.enter Tryz.func142 rfl ?_
 refine AW.wk (wK 21 (l := [(0, .c (exC e))]) (ll := []) (H := (H))) ?_
 refine D2 ?_
 refine eL161 ?_
 refine Z16 fn141 (rcolumns_any e hf) ?_
 refine Z3 ?_
 refine AW.cond _ rfl (fun h5 => ?_) (fun h5 => ?_)
 ·
  refine D1 ?_
  exact cL115
 refine eL213 ?_
 refine sQ (q_call _ rfl fn15 rfl (Pure.arg (l := [exC e]) (r := []) (XW.nilU (sz := 3)) (rvalue_any [] .un (fun _ h => by cases h) (hv h5) hf ht)) rfl) ?_
 refine G2 ?_
 refine Z3 (sR (Z1 fl35_0 ?_))
 refine G2 ?_
 refine Z22 ?_ ?_ <;> intro g11
 ·
  refine eL224 ?_
  refine Z22 ?_ ?_ <;> intro g16
  ·
   refine G5 ?_
   exact cL115
  iterate 3 refine oF ?_
  refine G2 ?_
  exact cL115
 iterate 3 refine oF ?_
 refine G2 ?_
 iterate 3 refine oF ?_
 refine G2 ?_
 exact cL115
theorem timesI_zero {a n : Int} (h : a = 0 ∨ n = 0) : timesI a n = 0 := by
  unfold timesI; rcases h with rfl | rfl <;> simp
theorem timesI_big {a n : Int} (h : 2 ^ 60 < a.natAbs * n.natAbs) : timesI a n = 2 ^ 60 := if_neg (by omega)
theorem big_l {a n : Nat} (h : 2 ^ 60 < a) (hn : 1 ≤ n) : 2 ^ 60 < a * n := Nat.lt_of_lt_of_le h (Nat.le_mul_of_pos_right _ hn)
theorem big_r {a n : Nat} (h : 2 ^ 60 < n) (hn : 1 ≤ a) : 2 ^ 60 < a * n := by rw [Nat.mul_comm]; exact big_l h hn
theorem quo60 {n : Nat} (h : n ≤ 2 ^ 60) : IntKind.i64.wrap ((1152921504606846976 : Int).tdiv (n : Int)) = ((1152921504606846976 / n : Nat) : Int) := by
  have h1 : (1152921504606846976 : Int).tdiv (n : Int) = ((1152921504606846976 / n : Nat) : Int) := rfl
  have h2 : ((1152921504606846976 / n : Nat) : Int) ≤ ((1152921504606846976 : Nat) : Int) := by exact_mod_cast Nat.div_le_self 1152921504606846976 n
  have h0 : (0 : Int) ≤ ((1152921504606846976 / n : Nat) : Int) := Int.natCast_nonneg _
  rw [h1, w64 (by omega) (by omega)]
theorem div_lt_iff {a n : Nat} (hn : 1 ≤ n) : 1152921504606846976 / n < a ↔ 2 ^ 60 < a * n := by
  rw [Nat.div_lt_iff_lt_mul (by omega)]
theorem nd_t {p : Prop} [Decidable p] (h : (!decide p) = true) : ¬ p := by simpa using h
theorem nd_f {p : Prop} [Decidable p] (h : (!decide p) = false) : p := by simpa using h
theorem quo_lt {a n : Nat} (hn : 1 ≤ n) : ((1152921504606846976 / n : Nat) : Int) < (a : Int) ↔ 2 ^ 60 < a * n := by
  rw [Int.ofNat_lt]; exact div_lt_iff hn
theorem timesX {a b : Int} (h : a = b) : X.c (iC a) = X.c (iC b) := by rw [h]
theorem rtimes_any (a b : Int) (ha : R64 a) (hb : R64 b) : Pu 185 [iC a, iC b] (.c (iC (timesI a b))) := by
 intro H
 refine Spec.enter Tryz.func185 rfl ?_
 refine AW.wk (wK 30 (l := [(0, .c (iC a)), (1, .c (iC b))]) (ll := []) (H := (H))) ?_
 refine D1 ?_
 refine eL205 ?_
 refine Z22 ?_ ?_ <;> intro g7
 ·
  iterate 2 refine oF ?_
  refine eL156 ?_
  exact cL143
 refine eL191 ?_
 refine cD ?_ ?_ <;> intro h10
 ·
  exact cL143
 refine eL202 ?_
 have ha0 : 1 ≤ a.natAbs := by omega
 have hb0 : 1 ≤ b.natAbs := by omega
 refine B1 ?_
 refine Z16 fn187 (within_any _ _ _) ?_
 refine Z32 ?_
 refine Z49 ?_ ?_ <;> intro g14
 ·
  have k := nd_t g14
  iterate 3 refine oF ?_
  refine G2 ?_
  iterate 6 refine oF ?_
  refine eL156 ?_
  exact cL71
 have k := nd_f g14
 refine Z14 ?_
 refine Z43 fn187 (within_any _ _ _) ?_
 refine G2 ?_
 refine Z49 ?_ ?_ <;> intro g19
 ·
  have k2 := nd_t g19
  iterate 6 refine oF ?_
  refine eL156 ?_
  exact cL71
 have k2 := nd_f g19
 refine Z14 ?_
 refine sO (q_call _ rfl fn202 rfl (rabs_any _ (by omega)) rfl) ?_
 refine Z14 ?_
 refine sO (q_call _ rfl fn202 rfl (rabs_any _ (by omega)) rfl) ?_
 refine sO (q_quo _ rfl rfl rfl (by omega) (quo60 (by omega))) ?_
 refine eL165 ?_
 refine cD ?_ ?_ <;> intro h26
 ·
  exact cL71
 have hab : a.natAbs * b.natAbs ≤ 2 ^ 60 := Nat.le_of_not_lt fun hh => h26 ((quo_lt hb0).2 hh)
 refine eL201 ?_
 refine sQ (q_mul _ rfl rfl rfl (w64m (M := 2 ^ 60) (by decide) hab)) ?_
 refine sB ?_
 exact aR (f1 (q := ⟨timesX (if_pos hab).symm, rfl⟩))
theorem limited_any (t : Tm) (h : bokT t) (hN : t.cnt ≤ 100000) : Pu 165 [tmC t] (trC (lim t)) := by
 intro H
 refine Spec.enter Tryz.func165 rfl ?_
 refine AW.wk (wK 9 (l := [(0, .c (tmC t))]) (ll := []) (H := (H))) ?_
 refine D3 ?_
 refine eL161 ?_
 refine Z16 fn184 (rsmall_any t h hN) ?_
 refine eL185 ?_
 refine AW.cond _ rfl (fun h6 => ?_) (fun h6 => ?_)
 ·
  refine D1 ?_
  refine SeqK.xw 7 rfl XW.tm0 ?_
  refine G2 ?_
  exact aR (f2 (.cellL rfl rfl ty199 rfl rfl (.tmp rfl .nil)) (⟨by rw [lim, if_neg (by intro hs; rw [hs] at h6; cases h6)]; rfl, rfl⟩))
 refine eL219 ?_
 exact aR (f2 (.cellL rfl rfl ty199 rfl rfl (.tmp rfl .nil)) (⟨by rw [lim, if_pos (by simpa using h6)]; rfl, rfl⟩))
theorem rdiv_any (t : Tm) (b : Int) (hv : vldT t = true) (hN : t.cnt ≤ 90000) : Pu 188 [tmC t, iC b] (trC (div t b)) := by
 intro H
 refine Spec.enter Tryz.func188 rfl ?_
 refine AW.wk (wK 31 (l := [(0, .c (tmC t)), (1, .c (iC b))]) (ll := []) (H := (H))) ?_
 refine D3 ?_
 refine eL161 ?_
 refine Z16 fn187 (within_any _ _ _) ?_
 refine eL185 ?_
 refine AW.cond _ rfl (fun h8 => ?_) (fun h8 => ?_)
 ·
  have k8 := nd_t h8
  refine D1 ?_
  refine SeqK.xw 9 rfl XW.tm0 ?_
  refine G2 ?_
  exact aR (f2 (.cellL rfl rfl ty199 rfl rfl (.tmp rfl .nil)) (⟨by rw [div, if_pos (by omega)]; rfl, rfl⟩))
 have k8 := nd_f (by simpa using h8)
 refine eL198 ?_
 refine Z3 ?_
 refine cD ?_ ?_ <;> intro h11
 ·
  refine D3 ?_
  exact aR (f2 (.cellL rfl rfl ty199 rfl rfl (.tmp rfl .nil)) (⟨by rw [div, if_neg (by omega), if_pos h11]; rfl, rfl⟩))
 refine eL306 ?_
 refine cD ?_ ?_ <;> intro h16
 ·
  refine D3 ?_
  refine sQ (q_call _ rfl fn204 rfl (rfloor_any _ _ (vldT_bok hv).c (by omega)) rfl) ?_
  refine G1 ?_
  refine SeqK.xw 21 rfl XW.tm0 ?_
  refine G2 ?_
  exact aR (f2 (.cellL rfl rfl ty199 rfl rfl (.tmp rfl .nil)) (⟨by rw [div, if_neg (by omega), if_neg h11, if_pos (by rw [qA] at h16; omega)]; rfl, rfl⟩))
 refine eL219 ?_
 refine SeqK.xw 24 rfl (xwOf (l := [t]) (h := by simp) rfl) ?_
 refine G2 ?_
 refine SeqK.xw 26 rfl .un ?_
 refine G1 ?_
 refine sQ (q_call _ rfl fn165 rfl (limited_any (divT t b) (divT_bok hv (by omega) (by omega)) (by rw [divT_cnt]; omega)) rfl) ?_
 refine G4 ?_
 exact aR (f2 (.cellL rfl rfl ty199 rfl rfl (.tmp rfl .nil)) (⟨by rw [div, if_neg (by omega), if_neg h11, if_neg (by rw [qA] at h16; omega)]; rfl, rfl⟩))
def scR : List Pt → Int → List Pt
  | [], _ => []
  | p :: r, n => nzc (mulR p n) (scR r n)
abbrev refT (t : Tm) (n : Int) : Tm := ⟨timesI t.c n, scR t.ps n⟩
theorem scR_drop {l : List Pt} {n : Int} {i : Nat} (hi : i < l.length) : scR (l.drop i) n = nzc (mulR l[i] n) (scR (l.drop (i + 1)) n) := by
  rw [qH hi, scR]
theorem scR_mem {n : Int} : ∀ {l : List Pt} {q : Pt}, q ∈ scR l n → ∃ p ∈ l, q = mulR p n
  | [], q, h => by simp [scR] at h
  | p :: r, q, h => by
    rw [scR] at h
    rcases mem_nzc h with rfl | h
    · exact ⟨p, by simp, rfl⟩
    · obtain ⟨p', h1, h2⟩ := scR_mem h
      exact ⟨p', by simp [h1], h2⟩
theorem nzc_sub {p q : Pt} {l : List Pt} (h : q ∈ l) : q ∈ nzc p l := by
  unfold nzc; split
  · exact List.mem_cons_of_mem _ h
  · exact h
theorem scR_in {n : Int} : ∀ {l : List Pt} {p : Pt}, p ∈ l → (mulR p n).coef ≠ 0 → mulR p n ∈ scR l n
  | q :: r, p, h, hc => by
    rw [scR]
    rcases jD.1 h with rfl | h
    · rw [nzc, if_pos hc]; exact List.mem_cons_self ..
    · exact nzc_sub (scR_in h hc)
theorem scR_lm (n : Int) : ∀ l : List Pt, (scR l n).length ≤ l.length ∧ mxPs (scR l n) ≤ mxPs l
  | [] => by simp [scR]
  | p :: r => by
    have h1 := scR_lm n r
    have h2 := nzc_len (mulR p n) (scR r n)
    have h4 := nzc_mx (mulR p n) (scR r n)
    have h3 : (mulR p n).cnt = p.cnt := by rw [Pt.cnt_eq, Pt.cnt_eq]; rfl
    rw [scR, mxPs, qM]; omega
theorem scR_cnt (n : Int) (l : List Pt) : cntPs (scR l n) ≤ cntPs l := by
  have := scR_lm n l
  unfold cntPs; omega
theorem scR_all {n : Int} : ∀ {l : List Pt}, (∀ p ∈ l, mulR p n = mulP p n ∧ p.coef * n ≠ 0) → scR l n = l.map fun p => mulP p n
  | [], _ => rfl
  | p :: r, h => by
    obtain ⟨h1, h2⟩ := h p (by simp)
    rw [scR, h1, nzc, if_pos (show (mulP p n).coef ≠ 0 from h2), scR_all fun q hq => h q (by simp [hq])]; rfl
theorem timesI_le (a n : Int) : (timesI a n).natAbs ≤ 2 ^ 60 := by
  unfold timesI; split
  · rename_i h; rw [← Int.natAbs_mul] at h; exact h
  · decide
theorem timesI_gt {a n : Int} {m : Nat} (hm : m < 2 ^ 60) (h : m < a.natAbs * n.natAbs) : m < (timesI a n).natAbs := by
  unfold timesI; split
  · rw [← Int.natAbs_mul] at h; exact h
  · exact hm
theorem refT_bok {t : Tm} {n : Int} (h : bokT t) : bokT (refT t n) := by
  have h1 := timesI_le t.c n
  refine ⟨by show -9223372036854775808 ≤ timesI t.c n ∧ timesI t.c n ≤ 9223372036854775807; omega, fun p hp => ?_, fun p hp => ?_⟩
  · obtain ⟨q, hq, rfl⟩ := scR_mem hp
    have h2 := timesI_le q.coef n
    show -9223372036854775808 ≤ timesI q.coef n ∧ timesI q.coef n ≤ 9223372036854775807
    omega
  · obtain ⟨q, hq, rfl⟩ := scR_mem hp
    exact h.part q hq
theorem refT_cnt (t : Tm) (n : Int) : (refT t n).cnt ≤ t.cnt := by
  have := scR_cnt n t.ps
  rw [Tm.cnt_eq, Tm.cnt_eq t]; show 1 + cntPs (scR t.ps n) ≤ _; omega
theorem vld_nz {t : Tm} (h : vldT t = true) : ∀ p ∈ t.ps, p.coef ≠ 0 := fun p hp e => by
  have := vld_parts h p hp
  rw [vT0 e] at this; cases this
theorem refT_lim {t : Tm} {n : Int} (h : vldT t = true) : lim (refT t n) = scale t n := by
  by_cases hn : n = 0
  · subst hn
    have h1 : scR t.ps 0 = [] := by
      generalize t.ps = l
      induction l with
      | nil => rfl
      | cons p r ih =>
        have e : (mulR p 0).coef = 0 := timesI_zero (.inr rfl)
        rw [scR, ih, nzc, if_neg (by simp [e])]
    rw [scale, if_pos rfl, refT, h1, timesI_zero (.inr rfl)]
    rw [lim, if_pos (by decide)]
  · by_cases hs : t.c.natAbs * n.natAbs ≤ 2 ^ 40 ∧ ∀ p ∈ t.ps, p.coef.natAbs * n.natAbs ≤ 2 ^ 20
    · rw [scale, if_neg hn]
      have e1 : timesI t.c n = t.c * n := if_pos (jB hs.1 (by decide))
      have e2 : scR t.ps n = t.ps.map fun p => mulP p n := scR_all fun p hp => ⟨by
        have : timesI p.coef n = p.coef * n := if_pos (jB (hs.2 p hp) (by decide))
        rw [mulR, this]; rfl, Int.mul_ne_zero (vld_nz h p hp) hn⟩
      rw [refT, e1, e2]; rfl
    · rw [scale_no hn hs, lim, if_neg]
      intro hb
      have hb := smallB_iff.1 hb
      by_cases hc : t.c.natAbs * n.natAbs ≤ 2 ^ 40
      · refine hs ⟨hc, fun p hp => Nat.le_of_not_lt fun hlt => ?_⟩
        have h1 : 2 ^ 20 < (mulR p n).coef.natAbs := timesI_gt (a := p.coef) (n := n) (by decide) hlt
        have := hb.2.1 _ (scR_in hp (by omega))
        omega
      · have h1 : 2 ^ 40 < (timesI t.c n).natAbs := timesI_gt (by decide) (by omega)
        have := hb.1
        exact absurd this (Nat.not_le_of_lt h1)
theorem rscale_any (t : Tm) (n : Int) (h : vldT t = true) (hn : R64 n) (hN : t.cnt ≤ 100000) : Pu 166 [tmC t, iC n] (trC (scale t n)) := by
 intro H
 refine Spec.enter Tryz.func166 rfl ?_
 refine AW.wk (wK 44 (l := [(0, .c (tmC t)), (1, .c (iC n))]) (ll := []) (H := (H))) ?_
 refine D3 ?_
 refine eL235 ?_
 have hlt := len_ps t
 have hb := vldT_bok h
 refine B3 ?_
 refine eL307 ?_
 refine G3 ?_
 refine Z3 (AW.seq (sR (sB ?_)))
 refine AW.block (AW.tipL 6 1 219 5 rfl rfl (fun k0 hk0 => ?_))
 refine AW.loop (fun (i : Nat) s => ∃ (kt : Nat) (out : List Pt) (zs : List (List E.T)), (i ≤ t.ps.length ∧ H kt = none ∧ out.length ≤ i ∧ zs = out.map ptT ∧ out ++ scR (t.ps.drop i) n = scR t.ps n) ∧ s = ⟨44, sp [(1, .c (iC n)), (2, .lp 2 0), (4, .lp 4 0), (5, .c (iC 0)), (6, .lp 6 0), (7, nX i)], lv [(2, .box (zTm t)), (4, .box zL2), (6, .box [.t (.v (.int .i64 (timesI t.c n))), .ts kt .ne 5 zs])], upd H kt (some (.tip 219 5 zs.length))⟩) (fun i => t.ps.length - i) 0 ⟨_, by exact wK 44, k0, [], [], ⟨qZ _, hk0, by simp, rfl, rfl⟩, rfl⟩ (fun i s hs => ?_)
 obtain ⟨kt, out, zs, ⟨hi0, hkt, hol, hzs, hI⟩, rfl⟩ := hs
 refine eL150 ?_
 refine cD ?_ ?_ <;> intro h18
 rotate_left
 ·
  refine eL147 ?_
  refine eL235 ?_
  have hij : i = t.ps.length := by rw [qA] at h18; omega
  subst hij
  rw [List.drop_length, scR, List.append_nil] at hI
  subst hI
  subst hzs
  refine B1 ?_
  refine SeqK.xw 40 rfl (XW.tmA XW.ts) ?_
  refine SeqK.xw 40 rfl (XW.tmA XW.un) ?_
  refine sQ (q_call _ rfl fn165 rfl (limited_any (refT t n) (refT_bok hb) (by have := refT_cnt t n; omega)) rfl) ?_
  refine G4 ?_
  exact aR (fin_x (x := .tup [_, _]) (H) (.cellL rfl rfl ty199 rfl rfl (.tmp rfl .nil)) rfl (fun j o h => by show upd H kt _ j = _; rw [upd_ne _ _ (fun e => by subst e; rw [hkt] at h; cases h)]; exact h) (⟨by rw [← refT_lim h]; rfl, rfl⟩))
 have hi := oI h18
 refine eL152 ?_
 refine eL254 ?_
 refine G3 ?_
 refine Z3 (sR (Z1 fl219_0 ?_))
 refine G2 ?_
 refine eL307 ?_
 refine G2 ?_
 refine Z3 (sR (Z1 fl219_0 ?_))
 refine eL165 ?_
 refine cD ?_ ?_ <;> intro h33
 ·
  refine B4 ?_
  refine SeqK.app1 rfl (hkt) rfl el197 rfl rfl (by have hzl : zs.length = out.length := (by rw [hzs, qA]); constructor <;> (simp; omega)) rfl rfl (fun k38 hk38 => ?_)
  refine eL212 ?_
  exact ⟨i + 1, _, by exact wK 44, by omega, k38, out ++ [mulR t.ps[i] n], zs ++ [ptT (mulR t.ps[i] n)], ⟨by omega, hk38, by simp; omega, map_put hzs, put_nz (scR_drop hi) hI h33⟩, rfl⟩
 refine eL173 ?_
 exact ⟨i + 1, _, by exact wK 44, by omega, kt, out, zs, ⟨by omega, hkt, by omega, hzs, put_z (scR_drop hi) hI h33⟩, rfl⟩
theorem lex_zero {a b : Int} : lex a b = 0 ↔ a = 0 ∧ b = 0 := by unfold lex; split <;> omega
def eqv (p q : Pt) : Prop := p.kind = q.kind ∧ p.var = q.var ∧ p.dv = q.dv ∧ p.of = q.of
theorem one_list {l : List Tm} (h : l.length ≤ 1) : l = [] ∨ ∃ o, l = [o] := by
  match l, h with
  | [], _ => exact .inl rfl
  | [o], _ => exact .inr ⟨o, rfl⟩
theorem cmpP_zero' {p q : Pt} (hp : vldP p = true) (hq : vldP q = true) (ih : ∀ o ∈ p.of, ∀ b, vldT o = true → vldT b = true → cmpT o b = 0 → o = b) (h : cmpP p q = 0) : eqv p q := by
  rw [cmpP_lex, lex_zero, lex_zero, lex_zero, ints_zero, ints_zero, ints_zero] at h
  obtain ⟨h1, h2, h3, h4⟩ := h
  refine ⟨h1, h2, h3, ?_⟩
  have o1 := vldP_one hp
  have o2 := vldP_one hq
  rcases one_list o1.len with e1 | ⟨o, e1⟩ <;> rcases one_list o2.len with e2 | ⟨o', e2⟩
  · rw [e1, e2]
  · rw [e1, e2, cmpO] at h4; cases h4
  · rw [e1, e2, cmpO] at h4; cases h4
  · rw [e1, e2, cmpO] at h4
    rw [e1, e2, ih o (by rw [e1]; simp) o' (o1.sub o (by rw [e1]; simp)) (o2.sub o' (by rw [e2]; simp)) h4]
theorem cmpL_zero {l : List Pt} (hi : ∀ p ∈ l, vldP p = true ∧ ∀ o ∈ p.of, ∀ b, vldT o = true → vldT b = true → cmpT o b = 0 → o = b) : ∀ {m : List Pt} {e : Int}, (∀ q ∈ m, vldP q = true) → cmpL l m e = 0 → l = m ∧ e = 0 := by
  induction l with
  | nil =>
    intro m e hm h
    cases m with
    | nil => rw [cmpL] at h; exact ⟨rfl, h⟩
    | cons q s => rw [cmpL] at h; cases h
  | cons p r ih =>
    intro m e hm h
    cases m with
    | nil => rw [cmpL] at h; cases h
    | cons q s =>
      rw [cmpL_lex, lex_zero, lex_zero, ints_zero] at h
      obtain ⟨h1, h2, h3⟩ := h
      obtain ⟨k1, k2, k3, k4⟩ := cmpP_zero' (hi p (by simp)).1 (hm q (by simp)) (hi p (by simp)).2 h1
      obtain ⟨e1, e2⟩ := ih (fun x hx => hi x (by simp [hx])) (fun x hx => hm x (by simp [hx])) h3
      refine ⟨?_, e2⟩
      rw [e1]
      have : p = q := by cases p; cases q; simp_all
      rw [this]
theorem cmpT_zero (a : Tm) : ∀ b, vldT a = true → vldT b = true → cmpT a b = 0 → a = b := by
  induction a using Tm.ind with
  | h a ih =>
    intro b ha hb h
    rw [cmpT_eq] at h
    obtain ⟨h1, h2⟩ := cmpL_zero (fun p hp => ⟨vld_parts ha p hp, fun o ho b hv hv' h => ih p hp o ho b hv hv' h⟩) (vld_parts hb) h
    rw [ints_zero] at h2
    cases a; cases b; simp_all
theorem cmpP_zero {p q : Pt} (hp : vldP p = true) (hq : vldP q = true) (h : cmpP p q = 0) : eqv p q := cmpP_zero' hp hq (fun o _ b => cmpT_zero o b) h
abbrev addQ (x p : Pt) : Pt := ⟨x.coef + p.coef, x.kind, x.var, x.dv, x.of⟩
theorem addQ_eq {x p : Pt} (h : eqv x p) : addQ x p = addP x p := by
  obtain ⟨h1, h2, h3, h4⟩ := h
  unfold addP addQ
  rw [h1, h2, h3, h4, Int.add_comm]
def insG : Bool → List Pt → Pt → List Pt
  | b, [], p => if b then [] else [p]
  | true, x :: r, p => x :: insG true r p
  | false, x :: r, p => if cmpP x p = 0 then nzc (addQ x p) (insG true r p) else if 0 < cmpP x p then p :: x :: insG true r p else x :: insG false r p
theorem insG_true : ∀ (l : List Pt) (p : Pt), insG true l p = l
  | [], p => rfl
  | x :: r, p => by rw [insG, insG_true r p]
theorem ins_mrg : ∀ {l : List Pt} {p : Pt}, av l → vldP p = true → insG false l p = mrg l [p]
  | [], p, _, hp => by rw [mrg, nzc_yes (vldP_nz hp), mrg]; rfl
  | x :: r, p, h, hp => by
    rw [insG, mrg]
    by_cases h0 : cmpP x p = 0
    · rw [if_pos h0, if_neg (by omega), if_neg (by omega), insG_true, addQ_eq (cmpP_zero h.hd hp h0), mrg_nilR h.tl]
    · rw [if_neg h0]
      by_cases h1 : 0 < cmpP x p
      · rw [if_pos h1, if_neg (by omega), if_pos h1, nzc_yes (vldP_nz hp), mrg_nilR h, insG_true]
      · rw [if_neg h1, if_pos (by omega), nzc_yes (vldP_nz h.hd), ins_mrg h.tl hp]
theorem mrg_cc (p : Pt) (r : List Pt) (q : Pt) (s : List Pt) : mrg (p :: r) (q :: s) = if cmpP p q < 0 then nzc p (mrg r (q :: s)) else if 0 < cmpP p q then nzc q (mrg (p :: r) s) else nzc (addP p q) (mrg r s) := by rw [mrg]
theorem mrg_step : ∀ {a : List Pt} {p : Pt} {b : List Pt}, av a → vldP p = true → av b → (∀ q ∈ b, cmpP p q < 0) → mrg (mrg a [p]) b = mrg a (p :: b)
  | [], p, b, _, hp, hb, hlt => by
    rw [mrg, mrg, nzc_yes (vldP_nz hp), mrg, nzc_yes (vldP_nz hp), mrg_nilL hb]
    cases b with
    | nil => rw [mrg, nzc_yes (vldP_nz hp), mrg]
    | cons q s => rw [mrg, if_pos (hlt q (by simp)), nzc_yes (vldP_nz hp), mrg_nilL hb]
  | x :: r, p, b, ha, hp, hb, hlt => by
    rw [mrg_cc x r p [], mrg_cc x r p b]
    by_cases h0 : cmpP x p < 0
    · rw [if_pos h0, if_pos h0, nzc_yes (vldP_nz ha.hd), nzc_yes (vldP_nz ha.hd)]
      have ih := mrg_step ha.tl hp hb hlt
      cases b with
      | nil => rw [mrg, nzc_yes (vldP_nz ha.hd), ih]
      | cons q s => rw [mrg, if_pos ((cmpP_C x p q).lt h0 (by have := hlt q (by simp); omega)), nzc_yes (vldP_nz ha.hd), ih]
    · rw [if_neg h0, if_neg h0]
      by_cases h1 : 0 < cmpP x p
      · rw [if_pos h1, if_pos h1, nzc_yes (vldP_nz hp), nzc_yes (vldP_nz hp), mrg_nilR ha]
        cases b with
        | nil => rw [mrg, nzc_yes (vldP_nz hp)]
        | cons q s => rw [mrg, if_pos (hlt q (by simp)), nzc_yes (vldP_nz hp)]
      · rw [if_neg h1, if_neg h1, mrg_nilR ha.tl]
        unfold nzc
        split
        · rename_i hc
          cases b with
          | nil => rw [mrg, nzc_yes hc]
          | cons q s =>
            have e : cmpP (addP x p) q = cmpP p q := by rw [cmpP_eq, cmpP_eq]; rfl
            rw [mrg, e, if_pos (hlt q (by simp)), nzc_yes hc]
        · rfl
abbrev foldI (l b : List Pt) : List Pt := b.foldl (fun l p => insG false l p) l
theorem fold_mrg : ∀ {b a : List Pt}, av a → av b → b.Pairwise (fun p q => cmpP p q < 0) → foldI a b = mrg a b
  | [], a, ha, _, _ => by rw [mrg_nilR ha]; rfl
  | p :: b, a, ha, hb, hp => by
    rw [List.pairwise_cons] at hp
    show foldI (insG false a p) b = _
    rw [ins_mrg ha hb.hd, fold_mrg (mrg_av ha (fun q hq => by simp at hq; rw [hq]; exact hb.hd)) hb.tl hp.2, mrg_step ha hb.hd hb.tl hp.1]
theorem insG_eq {l : List Pt} {i : Nat} {p : Pt} (hi : i < l.length) (h : cmpP l[i] p = 0) : insG false (l.drop i) p = nzc (addQ l[i] p) (insG true (l.drop (i + 1)) p) := by
  rw [qH hi, insG, if_pos h]
theorem insG_gt {l : List Pt} {i : Nat} {p : Pt} (hi : i < l.length) (h : 0 < cmpP l[i] p) : insG false (l.drop i) p = [p, l[i]] ++ insG true (l.drop (i + 1)) p := by
  rw [qH hi, insG, if_neg (by omega), if_pos h]; rfl
theorem insG_lt {l : List Pt} {i : Nat} {p : Pt} (hi : i < l.length) (h0 : ¬ cmpP l[i] p = 0) (h : ¬ 0 < cmpP l[i] p) : insG false (l.drop i) p = [l[i]] ++ insG false (l.drop (i + 1)) p := by
  rw [qH hi, insG, if_neg h0, if_neg h]; rfl
theorem insG_on {l : List Pt} {i : Nat} {p : Pt} (hi : i < l.length) : insG true (l.drop i) p = [l[i]] ++ insG true (l.drop (i + 1)) p := by
  rw [qH hi, insG]; rfl
theorem put_app {out r full m e : List Pt} (h : m = e ++ r) (hI : out ++ m = full) : (out ++ e) ++ r = full := by
  rw [← hI, h]; simp
abbrev coB (l : List Pt) (M : Nat) : Prop := ∀ p ∈ l, p.coef.natAbs ≤ M
abbrev zPt (x : Pt) : List A := [.t (.v (.int .i64 x.coef)), .t (.v (.int .i64 x.kind)), .t (.v (.int .i64 x.var)), .t (.v (.int .i64 x.dv)), .t (.sl .un 2 (x.of.map tmT))]
theorem insert_any (l : List Pt) (p : Pt) (z : Nz) (hl : cntPs l ≤ 100000) (hc : coB l (2 ^ 60)) (hp : p.coef.natAbs ≤ 2 ^ 60) : Pu 203 [.a (.t (.sl z 5 (l.map ptT))), ptC p] (.c (.a (.t (.sl .un 5 ((insG false l p).map ptT))))) := by
 intro H
 refine Spec.enter Tryz.func203 rfl ?_
 refine AW.wk (wK 63 (l := [(0, .c (.a (.t (.sl z 5 (l.map ptT))))), (1, .c (ptC p))]) (ll := []) (H := (H))) ?_
 refine D2 ?_
 refine eL235 ?_
 have hll := cntPs_len l
 refine B1 ?_
 refine D1 ?_
 refine eL161 ?_
 refine AW.block (AW.tip 5 219 5 rfl (fun k0 hk0 => ?_))
 refine AW.loop (fun (i : Nat) s => ∃ (kt : Nat) (out : List Pt) (zs : List (List E.T)) (pb : Bool), (i ≤ l.length ∧ H kt = none ∧ out.length ≤ i + pb.toNat ∧ zs = out.map ptT ∧ out ++ insG pb (l.drop i) p = insG false l p) ∧ s = ⟨63, sp [(0, .c (.a (.t (.sl z 5 (l.map ptT))))), (3, .lp 3 0), (4, .c (.a nA)), (5, .c (.a (.ts kt .ne 5 zs))), (6, bX pb), (7, nX i)], lv [(3, .box (zPt p))], upd H kt (some (.tip 219 5 zs.length))⟩) (fun i => l.length - i) 0 ⟨_, by exact wK 63, k0, [], [], false, ⟨qZ _, hk0, by simp, rfl, rfl⟩, rfl⟩ (fun i s hs => ?_)
 obtain ⟨kt, out, zs, pb, ⟨hi0, hkt, hol, hzs, hI⟩, rfl⟩ := hs
 refine eL155 ?_
 refine cD ?_ ?_ <;> intro h13
 rotate_left
 ·
  refine eL147 ?_
  refine eL192 ?_
  have hil : i = l.length := by rw [qA] at h13; omega
  subst hil
  rw [List.drop_length] at hI
  refine eL211 ?_
  refine AW.cond _ rfl (fun h57 => ?_) (fun h57 => ?_)
  ·
   have hpb : pb = false := by simpa using h57
   refine B3 ?_
   refine SeqK.app1 rfl (by assumption) rfl el197 rfl rfl (by have hzl : zs.length = out.length := (by rw [hzs, qA]); have := Bool.toNat_le pb; simp; omega) rfl rfl (fun k61 hk61 => ?_)
   refine eL277 ?_
   exact cL83
  have hpb : pb = true := by simpa using h57
  refine eL201 ?_
  exact cL83
 have hi := oI h13
 have hci := hc _ (qC hi)
 refine AW.skip (AW.seq (AW.block (D1 ?_)))
 refine eL153 ?_
 refine AW.cond _ rfl (fun h17 => ?_) (fun h17 => ?_)
 rotate_left
 ·
  have hpb : pb = true := by simpa using h17
  have hIt : out ++ insG true (l.drop i) p = insG false l p := by rw [hpb] at hI; exact hI
  have hol2 : out.length ≤ i + 1 := by rw [hpb] at hol; simpa using hol
  refine eL198 ?_
  refine Z3 ?_
  refine cD ?_ ?_ <;> intro h25
  ·
   exact absurd h25 (by decide)
  refine eL198 ?_
  refine Z3 ?_
  refine cD ?_ ?_ <;> intro h44
  ·
   exact absurd h44 (by decide)
  refine eL173 ?_
  refine eL254 ?_
  refine G2 ?_
  refine SeqK.app1 rfl (by assumption) rfl el197 rfl rfl (by have hzl : zs.length = out.length := (by rw [hzs, qA]); have := Bool.toNat_le pb; simp; omega) rfl rfl (fun k55 hk55 => ?_)
  refine eL166 ?_
  exact ⟨i + 1, _, by exact wK 63, by omega, k55, out ++ [l[i]], zs ++ [ptT (l[i])], pb, ⟨by omega, hk55, by first | (simp; omega) | (rw [hpb]; simp; omega), (map_put hzs), (by rw [hpb]; exact put_app (e := [l[i]]) (insG_on hi) hIt)⟩, rfl⟩
 have hpb : pb = false := by simpa using h17
 have hIf : out ++ insG false (l.drop i) p = insG false l p := by rw [hpb] at hI; exact hI
 have hol2 : out.length ≤ i := by rw [hpb] at hol; simpa using hol
 refine AW.draw mo ?_
 refine N2 ?_
 refine Z26 sl197 (idx_map (f := ptT) hi) ?_
 refine N2 ?_
 refine lQ (q_call _ rfl fn217 rfl (rparts_any _ _ (by have := cntPs_mem (qC hi); omega)) rfl) ?_
 refine eL290 ?_
 refine eL153 ?_
 refine cD ?_ ?_ <;> intro h25
 ·
  refine eL281 ?_
  refine eL254 ?_
  refine G3 ?_
  refine Z3 (sR (Z1 fl219_0 ?_))
  refine G6 ?_
  refine Z3 (AW.seq (sR (Z1 fl219_0 ?_)))
  refine eL165 ?_
  refine cD ?_ ?_ <;> intro h38
  ·
   refine B3 ?_
   refine SeqK.app1 rfl (hkt) rfl el197 rfl rfl (by have hzl : zs.length = out.length := (by rw [hzs, qA]); have := Bool.toNat_le pb; simp; omega) rfl rfl (fun k42 hk42 => ?_)
   refine sB ?_
   refine eL310 ?_
   refine B3 ?_
   exact ⟨i + 1, _, by exact wK 63, by omega, k42, out ++ [addQ l[i] p], zs ++ [ptT (addQ l[i] p)], true, ⟨by omega, hk42, by first | (simp; omega) | (rw [hpb]; simp; omega), (map_put hzs), put_nz (insG_eq hi h25) hIf h38⟩, rfl⟩
  refine AW.skip (AW.exit ?_)
  refine eth_e ?_
  refine exit_here ?_
  refine B3 ?_
  exact ⟨i + 1, _, by exact wK 63, by omega, kt, out, zs, true, ⟨by omega, hkt, by first | (simp; omega) | (rw [hpb]; simp; omega), hzs, put_z (insG_eq hi h25) hIf h38⟩, rfl⟩
 refine eL198 ?_
 refine Z3 ?_
 refine cD ?_ ?_ <;> intro h44
 ·
  refine D1 ?_
  refine B3 ?_
  refine SeqK.app1 rfl (hkt) rfl el197 rfl rfl (by have hzl : zs.length = out.length := (by rw [hzs, qA]); have := Bool.toNat_le pb; simp; omega) rfl rfl (fun k48 hk48 => ?_)
  refine eL166 ?_
  refine eL254 ?_
  refine G2 ?_
  refine SeqK.app1 rfl (by assumption) rfl el197 rfl rfl (by have hzl : zs.length = out.length := (by rw [hzs, qA]); have := Bool.toNat_le pb; simp; omega) rfl rfl (fun k55 hk55 => ?_)
  refine eL166 ?_
  exact ⟨i + 1, _, by exact wK 63, by omega, k55, out ++ [p] ++ [l[i]], zs ++ [ptT (p)] ++ [ptT (l[i])], true, ⟨by omega, hk55, by first | (simp; omega) | (rw [hpb]; simp; omega), (map_put (map_put hzs)), put_app (e := [p, l[i]]) (insG_gt hi (by omega)) hIf |> (fun h => by rw [← h]; simp)⟩, rfl⟩
 refine eL173 ?_
 refine eL254 ?_
 refine G2 ?_
 refine SeqK.app1 rfl (by assumption) rfl el197 rfl rfl (by have hzl : zs.length = out.length := (by rw [hzs, qA]); have := Bool.toNat_le pb; simp; omega) rfl rfl (fun k55 hk55 => ?_)
 refine eL166 ?_
 exact ⟨i + 1, _, by exact wK 63, by omega, k55, out ++ [l[i]], zs ++ [ptT (l[i])], pb, ⟨by omega, hk55, by first | (simp; omega) | (rw [hpb]; simp; omega), (map_put hzs), (by rw [hpb]; exact put_app (e := [l[i]]) (insG_lt hi h25 (by omega)) hIf)⟩, rfl⟩
theorem coB_ins {M : Nat} {l : List Pt} {p : Pt} (h : coB l M) (hp : p.coef.natAbs ≤ 2 ^ 20) : coB (insG false l p) (M + 2 ^ 20) := by
  induction l with
  | nil => intro q hq; simp [insG] at hq; subst hq; omega
  | cons x r ih =>
    have hr : coB r M := fun q hq => h q (by simp [hq])
    have hx := h x (by simp)
    intro q hq
    rw [insG] at hq
    split at hq
    · rcases mem_nzc hq with rfl | hq
      · show (x.coef + p.coef).natAbs ≤ _; omega
      · rw [insG_true] at hq; have := hr q hq; omega
    · split at hq
      · rw [insG_true] at hq
        rcases jD.1 hq with rfl | hq
        · omega
        · have := h q hq; omega
      · rcases jD.1 hq with rfl | hq
        · omega
        · exact ih hr q hq
theorem ins_lm {l : List Pt} {p : Pt} : (insG false l p).length ≤ l.length + 1 ∧ mxPs (insG false l p) ≤ max (mxPs l) p.cnt := by
  induction l with
  | nil => rw [insG, if_neg (by simp)]; exact ⟨jA _, by simp only [mxPs]; omega⟩
  | cons x r ih =>
    rw [insG]
    split
    · have h1 := nzc_len (addQ x p) (insG true r p)
      have h2 := nzc_mx (addQ x p) (insG true r p)
      have h3 : (addQ x p).cnt = x.cnt := by rw [Pt.cnt_eq, Pt.cnt_eq]
      rw [insG_true] at h1 h2 ⊢; rw [mxPs, qM]; omega
    · split
      · rw [insG_true]; simp only [mxPs, qM]; omega
      · simp only [mxPs, qM]; omega
theorem cntPs_take_le (l : List Pt) (i : Nat) : cntPs (l.take i) ≤ cntPs l := by
  have h1 : (l.take i).length ≤ l.length := by rw [List.length_take]; omega
  have h2 : mxPs (l.take i) ≤ mxPs l := mx_le fun p hp => mx_mem (List.mem_of_mem_take hp)
  unfold cntPs; omega
theorem mx_app : ∀ (a b : List Pt), mxPs (a ++ b) = max (mxPs a) (mxPs b)
  | [], b => by rw [List.nil_append, mxPs]; omega
  | x :: r, b => by rw [List.cons_append, mxPs, mxPs, mx_app r b]; omega
theorem foldI_step {a b : List Pt} {i : Nat} (hi : i < b.length) : foldI a (b.take (i + 1)) = insG false (foldI a (b.take i)) b[i] := by
  rw [qJ hi, foldI, List.foldl_append]; rfl
theorem coB_fold {a b : List Pt} (ha : coB a (2 ^ 20)) (hb : coB b (2 ^ 20)) : ∀ i, i ≤ b.length → coB (foldI a (b.take i)) (2 ^ 20 + i * 2 ^ 20)
  | 0, _ => by simpa using ha
  | i + 1, h => by
    rw [foldI_step (by omega)]
    have := coB_ins (coB_fold ha hb i (by omega)) (hb b[i] (qC _))
    intro q hq; have := this q hq; omega
theorem fold_lm {a b : List Pt} : ∀ i, i ≤ b.length → (foldI a (b.take i)).length ≤ a.length + i ∧ mxPs (foldI a (b.take i)) ≤ max (mxPs a) (mxPs (b.take i))
  | 0, _ => ⟨by simp, Nat.le_max_left _ _⟩
  | i + 1, h => by
    rw [foldI_step (by omega)]
    have h1 := fold_lm (a := a) (b := b) i (by omega)
    have h2 := ins_lm (l := foldI a (b.take i)) (p := b[i])
    rw [qJ (by omega), mx_app]
    have h3 : mxPs [b[i]] = max b[i].cnt 0 := by rw [mxPs, mxPs]
    omega
theorem cnt_fold {a b : List Pt} (i : Nat) (hi : i ≤ b.length) : cntPs (foldI a (b.take i)) ≤ cntPs a + cntPs (b.take i) := by
  have h := fold_lm (a := a) (b := b) i hi
  have h2 : (b.take i).length = i := by rw [List.length_take]; omega
  unfold cntPs; omega
theorem fold_end {a b : Tm} (ha : vldT a = true) (hb : vldT b = true) : foldI a.ps b.ps = mrg a.ps b.ps := fold_mrg (vld_parts ha) (vld_parts hb) (vld_pw hb)
theorem ins_at (a b : Tm) (hN : a.cnt + b.cnt ≤ 100000) (ha : vldT a = true) (hb : vldT b = true) {i : Nat} (hi : i < b.ps.length) : Pu 203 [.a (.t (.sl .un 5 ((foldI a.ps (b.ps.take i)).map ptT))), ptC b.ps[i]] (.c (.a (.t (.sl .un 5 ((foldI a.ps (b.ps.take (i + 1))).map ptT))))) := by
  have hla := len_ps b
  rw [foldI_step hi]
  refine insert_any _ _ .un ?_ ?_ ?_
  · have h1 := cnt_fold (a := a.ps) (b := b.ps) i (by omega)
    have h2 := cntPs_take_le b.ps i
    rw [Tm.cnt_eq, Tm.cnt_eq b] at hN; omega
  · intro q hq
    have := coB_fold (vld_coef ha).2 (vld_coef hb).2 i (by omega) q hq
    have : i * 2 ^ 20 ≤ 100000 * 2 ^ 20 := Nat.mul_le_mul_right _ (by omega)
    omega
  · have := (vld_coef hb).2 _ (qC hi); omega
theorem radd_any (a b : Tm) (ha : vldT a = true) (hb : vldT b = true) (hN : a.cnt + b.cnt ≤ 100000) : Pu 186 [tmC a, tmC b] (trC (add a b)) := by
 intro H
 refine Spec.enter Tryz.func186 rfl ?_
 refine AW.wk (wK 36 (l := [(0, .c (tmC a)), (1, .c (tmC b))]) (ll := []) (H := (H))) ?_
 refine D4 ?_
 refine eL235 ?_
 have hlb := len_ps b
 have hca := vld_coef ha
 have hcb := vld_coef hb
 refine B10 ?_
 refine Z3 (AW.seq (sR (sB ?_)))
 refine AW.block (AW.loop (fun (i : Nat) s => (i ≤ b.ps.length) ∧ s = ⟨36, sp [(2, .lp 2 0), (3, .lp 3 0), (4, .lp 4 0), (5, .c (iC 0)), (6, .lp 6 0), (7, nX i)], lv [(2, .box (zTm a)), (3, .box (zTm b)), (4, .box zL2), (6, .box [.t (.v (.int .i64 (a.c + b.c))), .t (.sl .un 5 ((foldI a.ps (b.ps.take i)).map ptT))])], H⟩) (fun i => b.ps.length - i) 0 ⟨_, by exact wK 36, qZ _, rfl⟩ (fun i s hs => ?_))
 obtain ⟨hi0, rfl⟩ := hs
 refine eL150 ?_
 refine cD ?_ ?_ <;> intro h20
 ·
  have hi := oI h20
  refine AW.skip (AW.seq (AW.block (AW.draw mo ?_)))
  refine N5 ?_
  refine Z26 sl197 (idx_map (f := ptT) hi) ?_
  refine N1 ?_
  refine Z40 fn203 (ins_at a b hN ha hb hi) ?_
  refine eL284 ?_
  refine B3 ?_
  exact ⟨i + 1, _, by exact wK 36, by omega, hi, rfl⟩
 refine eL147 ?_
 refine eL235 ?_
 have hij : i = b.ps.length := by rw [qA] at h20; omega
 subst hij
 rw [qT, fold_end ha hb]
 refine B1 ?_
 refine sQ (q_call _ rfl fn165 rfl (limited_any (sumT a b) (sum_bok ha hb).1 (by have := sum_cnt a b; omega)) rfl) ?_
 refine G4 ?_
 exact aR (f2 (.cellL rfl rfl ty199 rfl rfl (.tmp rfl .nil)) (⟨rfl, rfl⟩))
theorem scale_swap {a b : Tm} (ha : vldT a = true) (hb : vldT b = true) (h0 : a.ps.length = 0) (h1 : b.ps.length = 0) : scale a b.c = scale b a.c := by
  obtain ⟨c, ps⟩ := a
  obtain ⟨d, qs⟩ := b
  have e0 : ps = [] := jH.1 h0
  have e1 : qs = [] := jH.1 h1
  subst e0 e1
  show scale ⟨c, []⟩ d = scale ⟨d, []⟩ c
  have l0 : lim tm0 = (tm0, 0) := by rw [lim, if_pos (show smallB tm0 = true by decide)]
  by_cases hc : c = 0
  · subst hc
    by_cases hd : d = 0
    · subst hd; rfl
    · unfold scale
      rw [if_neg hd, if_pos rfl]
      show lim ⟨0 * d, []⟩ = _
      rw [Int.zero_mul]; exact l0
  · by_cases hd : d = 0
    · subst hd
      unfold scale
      rw [if_pos rfl, if_neg hc]
      show _ = lim ⟨0 * c, []⟩
      rw [Int.zero_mul]; exact l0.symm
    · unfold scale
      rw [if_neg hd, if_neg hc]
      show lim ⟨c * d, []⟩ = lim ⟨d * c, []⟩
      rw [Int.mul_comm]
theorem comb_mul {a b : Tm} {op : Int} (h : op = 6) (h1 : ¬ (0 < a.ps.length ∧ 0 < b.ps.length)) (ha : vldT a = true) (hb : vldT b = true) : comb op a b = if 0 < b.ps.length then scale b a.c else scale a b.c := by
  rw [comb, if_neg (by omega), if_neg (by omega), if_pos h]
  by_cases h2 : 0 < b.ps.length
  · rw [if_pos h2, if_pos (by omega)]
  · rw [if_neg h2]
    by_cases h3 : a.ps.length = 0
    · rw [if_pos h3, scale_swap ha hb h3 (by omega)]
    · rw [if_neg h3, if_pos (by omega)]
theorem lim_var {k v : Int} (hk : k = 0 ∨ k = 1) : lim ⟨0, [⟨1, k, v, 0, []⟩]⟩ = (⟨0, [⟨1, k, v, 0, []⟩]⟩, 0) := by
  unfold lim
  rw [if_pos]
  refine smallB_iff.2 ⟨by show (0 : Int).natAbs ≤ 2 ^ 40; decide, fun p hp => ?_, ?_⟩
  · rw [jF.1 hp]; show (1 : Int).natAbs ≤ 2 ^ 20; decide
  · rcases hk with rfl | rfl <;> simp [bndT, bndPs, bndP]
def lenV (e : Ex) : Option Tm :=
  match e.args with
  | [a] => if e.op = 9 ∧ a.args.length = 0 then (if a.op = 1 ∧ a.vk = 2 then some ⟨(a.vs.size : Int), []⟩ else if a.op = 2 ∧ (0 : Int) ≤ a.ix then some ⟨0, [⟨1, 1, a.ix, 0, []⟩]⟩ else none) else none
  | _ => none
theorem lenV_ne {e : Ex} (h : ¬ e.op = 9 ∨ ¬ e.args.length = 1) : lenV e = none := by
  cases e with | mk op tb nm ix vk vn vs xs =>
  unfold lenV
  match xs, h with
  | [], _ => rfl
  | [a], h => simp only [Ex.op, Ex.args] at h ⊢; rw [if_neg (by simp at h; omega)]
  | _ :: _ :: _, _ => rfl
theorem lenV_one {e : Ex} (h0 : 0 < e.args.length) (h : e.args.length = 1) : lenV e = if e.op = 9 ∧ e.args[0].args.length = 0 then (if e.args[0].op = 1 ∧ e.args[0].vk = 2 then some ⟨(e.args[0].vs.size : Int), []⟩ else if e.args[0].op = 2 ∧ (0 : Int) ≤ e.args[0].ix then some ⟨0, [⟨1, 1, e.args[0].ix, 0, []⟩]⟩ else none) else none := by
  cases e with | mk op tb nm ix vk vn vs xs =>
  match xs, h with
  | [a], _ => rfl
abbrev lnX (o : Option Tm) : X := .tup [tmC (o.getD tm0), bC o.isSome]
theorem ofE_len {e : Ex} {t : Tm} (h : lenV e = some t) : ofE e = lim t := by
  have h9 : e.op = 9 ∧ e.args.length = 1 := by
    by_cases h1 : e.op = 9
    · by_cases h2 : e.args.length = 1
      · exact ⟨h1, h2⟩
      · rw [lenV_ne (.inr h2)] at h; cases h
    · rw [lenV_ne (.inl h1)] at h; cases h
  have h0 : 0 < e.args.length := by omega
  rw [lenV_one h0 h9.2] at h
  rw [ofE_eq e, stepE, if_pos (by omega), leaf9_one h9.1 h0 h9.2, lenE]
  split at h
  · rename_i h3
    rw [if_neg (by omega)]
    split at h
    · rename_i h4; rw [if_pos h4]; injection h with h; rw [h]
    · rename_i h4
      rw [if_neg h4]
      split at h
      · rename_i h5; rw [if_pos h5]; injection h with h; rw [h]
      · cases h
  · cases h
theorem ofE_nolen {e : Ex} (h : lenV e = none) (h9 : e.op = 9) : ofE e = opsR (e.args.map ofE) := by
  rw [ofE_eq e, stepE, if_pos (by omega)]
  by_cases h1 : e.args.length = 1
  · have h0 : 0 < e.args.length := by omega
    rw [lenV_one h0 h1] at h
    rw [leaf9_one h9 h0 h1, lenE]
    by_cases h2 : 0 < e.args[0].args.length
    · rw [if_pos h2]
    · rw [if_neg h2]
      rw [if_pos ⟨h9, by omega⟩] at h
      split at h
      · cases h
      · rename_i h4
        rw [if_neg h4]
        split at h
        · cases h
        · rename_i h5; rw [if_neg h5]
  · exact leaf9_ne h9 h1
theorem len_ok {e : Ex} (hr : rgE e) {t : Tm} (h : lenV e = some t) : bokT t ∧ t.cnt ≤ 100000 := by
  have h9 : e.op = 9 ∧ e.args.length = 1 := by
    by_cases h1 : e.op = 9
    · by_cases h2 : e.args.length = 1
      · exact ⟨h1, h2⟩
      · rw [lenV_ne (.inr h2)] at h; cases h
    · rw [lenV_ne (.inl h1)] at h; cases h
  have h0 : 0 < e.args.length := by omega
  rw [lenV_one h0 h9.2] at h
  have hvs := hr.vs _ (qC h0)
  split at h
  · split at h
    · injection h with h; subst h; exact ⟨bok_c (by omega), cnt_c⟩
    · split at h
      · injection h with h; subst h; exact ⟨bok_v (by decide), cnt_v⟩
      · cases h
  · cases h
theorem len_lim {e : Ex} {t : Tm} (h : lenV e = some t) (hr : bokT t ∧ t.cnt ≤ 100000) : Pu 165 [tmC ((lenV e).getD tm0)] (trC (lim t)) := by
  rw [h]; exact limited_any t hr.1 hr.2
theorem ofE_args {e : Ex} {i : Nat} (hn : lenV e = none) (hi : i < e.args.length) (h0 : ∀ r ∈ (e.args.map ofE).take i, r.2 = 0) (h : (ofE e.args[i]).2 ≠ 0) : ofE e = (tm0, (ofE e.args[i]).2) := by
  have key : opsR (e.args.map ofE) = (tm0, (ofE e.args[i]).2) := by
    have := opsR_no (rs := e.args.map ofE) (i := i) (by rw [qA]; exact hi) h0 (by rw [qV]; exact h)
    rw [qV] at this; exact this
  by_cases h9 : e.op = 9
  · rw [ofE_nolen hn h9, key]
  · rw [ofE_eq e, stepE]
    by_cases h1 : e.op = 1 ∨ e.op = 2 ∨ e.op = 9
    · rw [if_pos h1, leafE, if_neg h9, if_pos (by omega), key]
    · rw [if_neg h1]
      by_cases h3 : e.op = 3
      · rw [if_pos h3]
        by_cases hl : e.args.length = 1
        · have h01 : 0 < e.args.length := by omega
          rw [unR_one (by simpa using h01) (by simpa using hl)]
          simp only [qV]
          obtain rfl : i = 0 := by omega
          rw [if_pos h]
        · rw [unR_ne (by rw [qA]; exact hl), key]
      · rw [if_neg h3]
        by_cases h4 : e.op = 4 ∨ e.op = 5 ∨ e.op = 6 ∨ e.op = 7 ∨ e.op = 8
        · rw [if_pos h4]
          by_cases hl : e.args.length = 2
          · have h01 : 0 < e.args.length := by omega
            have h12 : 1 < e.args.length := by omega
            rw [binR_two (by simpa using h01) (by simpa using h12) (by simpa using hl)]
            simp only [qV]
            by_cases hi0 : i = 0
            · subst hi0; rw [if_pos h]
            · obtain rfl : i = 1 := by omega
              have hz : (ofE e.args[0]).2 = 0 := h0 _ (by
                rw [qJ (by rw [qA]; omega)]; simp)
              rw [if_neg (by rw [hz]; decide), if_pos h]
          · rw [binR_ne (by rw [qA]; exact hl), key]
        · rw [if_neg h4, key]
theorem rlen_any (e : Ex) : Pu 164 [exC e] (lnX (lenV e)) := by
 intro H
 refine Spec.enter Tryz.func164 rfl ?_
 refine AW.wk (wK 56 (l := [(0, .c (exC e))]) (ll := []) (H := (H))) ?_
 refine D3 ?_
 refine AW.seq (D3 ?_)
 refine Z22 ?_ ?_ <;> intro g8
 ·
  iterate 4 refine oF ?_
  refine G2 ?_
  iterate 7 refine oF ?_
  refine eL156 ?_
  exact cL42
 refine G5 ?_
 refine Z22 ?_ ?_ <;> intro g14
 ·
  iterate 7 refine oF ?_
  refine eL156 ?_
  exact cL42
 have hl1 : e.args.length = 1 := by simp only [qA] at *; omega
 have h01 : 0 < e.args.length := by omega
 have hlv := lenV_one h01 hl1
 refine G2 ?_
 refine Z47 sl27 (idx_ex h01) ?_
 refine sO (q_fieldP _ rfl fl37_5 rfl rfl) ?_
 refine eL259 ?_
 refine cD ?_ ?_ <;> intro h22
 ·
  exact cL42
 refine eL201 ?_
 refine Z10 sl27 (idx_ex h01) ?_
 refine G3 ?_
 refine Z3 (AW.seq (AW.seq ?_))
 have h9 : e.op = 9 ∧ e.args[0].args.length = 0 := ⟨qY.1 g8, (by simp only [qA] at *; omega)⟩
 refine B3 ?_
 refine Z22 ?_ ?_ <;> intro g31
 ·
  refine eL265 ?_
  refine cD ?_ ?_ <;> intro h36
  ·
   refine D5 ?_
   refine SeqK.xw 41 rfl XW.tm0 ?_
   refine G2 ?_
   exact aR (f2 (.cellL rfl rfl ty199 rfl rfl (.tmp rfl .nil)) (⟨by rw [hlv, if_pos h9, if_pos ⟨g31, h36⟩]; rfl, rfl⟩))
  refine AW.skip (AW.seq (D3 ?_))
  refine Z22 ?_ ?_ <;> intro g45
  ·
   refine eL224 ?_
   refine Z3 ?_
   refine cD ?_ ?_ <;> intro h49
   ·
    exact cL84
   exact cL36
  iterate 3 refine oF ?_
  refine eL172 ?_
  exact cL36
 iterate 4 refine oF ?_
 refine eL172 ?_
 refine AW.skip (AW.seq (D3 ?_))
 refine Z22 ?_ ?_ <;> intro g45
 ·
  refine eL224 ?_
  refine Z3 ?_
  refine cD ?_ ?_ <;> intro h49
  ·
   exact cL84
  exact cL36
 iterate 3 refine oF ?_
 refine eL172 ?_
 exact cL36
theorem binary_any (op : Int) (hop : 4 ≤ op ∧ op ≤ 8) (a b : Tm) (ha : vldT a = true) (hb : vldT b = true) (hN : a.cnt + b.cnt ≤ 48000) : Pu 167 [iC op, tmC a, tmC b] (trC (comb op a b)) := by
 intro H
 refine Spec.enter Tryz.func167 rfl ?_
 refine AW.wk (wK 109 (l := [(0, .c (iC op)), (1, .c (tmC a)), (2, .c (tmC b))]) (ll := []) (H := (H))) ?_
 refine D4 ?_
 refine eL192 ?_
 have hca := vld_coef ha
 have hcb := vld_coef hb
 have k1 := scale_cnt b (-1)
 have k2 := div_cnt a b.c
 have k3 := scale_cnt (div a b.c).1 (-b.c)
 refine B1 ?_
 refine eL160 ?_
 refine cD ?_ ?_ <;> intro h14
 ·
  refine D2 ?_
  refine sQ (q_call _ rfl fn186 rfl (radd_any a b ha hb (by omega)) rfl) ?_
  refine G4 ?_
  exact aR (f2 (.cellL rfl rfl ty199 rfl rfl (.tmp rfl .nil)) (⟨by rw [comb, if_pos h14]; rfl, rfl⟩))
 refine D2 ?_
 refine cD ?_ ?_ <;> intro h21
 ·
  refine D1 ?_
  refine sQ (q_call _ rfl fn166 rfl (rscale_any b (-1) hb (by decide) (by omega)) rfl) ?_
  refine G6 ?_
  refine eL153 ?_
  refine cD ?_ ?_ <;> intro h29
  ·
   refine D1 ?_
   refine SeqK.xw 30 rfl XW.tm0 ?_
   refine G3 ?_
   exact aR (f2 (.cellL rfl rfl ty199 rfl rfl (.tmp rfl .nil)) (⟨by rw [comb, if_neg h14, if_pos h21, if_pos h29]; rfl, rfl⟩))
  have hs0 : (scale b (-1)).2 = 0 := qY.1 h29
  refine eL201 ?_
  refine sQ (q_call _ rfl fn186 rfl (radd_any a _ ha (scale_vld hb hs0) (by omega)) rfl) ?_
  refine G4 ?_
  exact aR (f2 (.cellL rfl rfl ty199 rfl rfl (.tmp rfl .nil)) (⟨by rw [comb, if_neg h14, if_pos h21, if_neg h29]; rfl, rfl⟩))
 refine D2 ?_
 refine cD ?_ ?_ <;> intro h37
 ·
  refine AW.seq (D4 ?_)
  refine Z22 ?_ ?_ <;> intro g43
  ·
   refine eL265 ?_
   refine cD ?_ ?_ <;> intro h48
   ·
    refine D1 ?_
    refine SeqK.xw 49 rfl XW.tm0 ?_
    refine G2 ?_
    exact aR (f2 (.cellL rfl rfl ty199 rfl rfl (.tmp rfl .nil)) (⟨by rw [comb, if_neg h14, if_neg h21, if_pos h37, if_neg (by simp only [qA] at *; omega), if_neg (by simp only [qA] at *; omega)]; rfl, rfl⟩))
   refine eL306 ?_
   refine cD ?_ ?_ <;> intro h53
   ·
    exact cL75
   exact cL73
  iterate 4 refine oF ?_
  refine eL172 ?_
  refine eL306 ?_
  refine cD ?_ ?_ <;> intro h53
  ·
   exact cL75
  exact cL73
 refine AW.skip (AW.seq (D4 ?_))
 refine Z22 ?_ ?_ <;> intro g70
 ·
  iterate 4 refine oF ?_
  refine eL156 ?_
  exact cL61
 refine G2 ?_
 refine Z43 fn187 (within_any _ _ _) ?_
 refine eL165 ?_
 refine AW.cond _ rfl (fun h75 => ?_) (fun h75 => ?_)
 ·
  exact cL61
 refine eL240 ?_
 have hbw : b.ps.length = 0 ∧ 1 ≤ b.c ∧ b.c ≤ 1000 := by have k := nd_f (by simpa using h75 : (!decide (1 ≤ b.c ∧ b.c ≤ 1000)) = false); simp only [qA] at *; omega
 refine B3 ?_
 refine sQ (q_call _ rfl fn188 rfl (rdiv_any a b.c ha (by omega)) rfl) ?_
 refine G6 ?_
 refine eL205 ?_
 refine Z22 ?_ ?_ <;> intro g86
 ·
  iterate 2 refine oF ?_
  refine eL156 ?_
  exact cL97
 have hd0 : (div a b.c).2 = 0 := qY.1 g86
 refine eL191 ?_
 refine cD ?_ ?_ <;> intro h89
 ·
  exact cL97
 refine eL219 ?_
 refine sQ (q_neg _ rfl rfl ((by rw [w64 (by omega) (by omega)]; omega : IntKind.i64.wrap _ = -b.c))) ?_
 refine sQ (q_call _ rfl fn166 rfl (rscale_any _ (-b.c) (div_vld ha hd0) (by omega) (by omega)) rfl) ?_
 refine G6 ?_
 refine eL153 ?_
 refine cD ?_ ?_ <;> intro h101
 ·
  refine D1 ?_
  refine SeqK.xw 102 rfl XW.tm0 ?_
  refine G3 ?_
  exact aR (f2 (.cellL rfl rfl ty199 rfl rfl (.tmp rfl .nil)) (⟨by rw [comb, if_neg h14, if_neg h21, if_neg h37, if_neg (by omega), if_neg (by omega), if_pos h101]; rfl, rfl⟩))
 have hs1 : (scale (div a b.c).1 (-b.c)).2 = 0 := qY.1 h101
 refine eL201 ?_
 refine sQ (q_call _ rfl fn186 rfl (radd_any a _ ha (scale_vld (div_vld ha hd0) hs1) (by omega)) rfl) ?_
 refine G4 ?_
 exact aR (f2 (.cellL rfl rfl ty199 rfl rfl (.tmp rfl .nil)) (⟨by rw [comb, if_neg h14, if_neg h21, if_neg h37, if_neg (by omega), if_neg (by omega), if_neg h101]; rfl, rfl⟩))
theorem tmT_put {zs : List (List E.T)} {out : List Tm} {t : Tm} (h : zs = out.map tmT) : zs ++ [tmL t] = (out ++ [t]).map tmT := by rw [h, qK, qX, tmT_eq]
theorem ops_err {e : Ex} (h0 : ∀ r ∈ e.args.map ofE, r.2 = 0) : opsR (e.args.map ofE) = (tm0, 6) := opsR_end h0
theorem idx_of {l : List Ex} {i : Nat} (h : i < l.length) : ((l.map fun a => (ofE a).1).map tmT)[i]? = some (tmL (ofE l[i]).1) := by
  rw [qR, qF (by rw [qA]; exact h), Option.map_some, tmT_eq, qV]
theorem rof_of (e : Ex) (hr : rgE e) (hgd : ∀ a ∈ e.args, gd (ofE a)) (ih : ∀ a ∈ e.args, Pu 144 [exC a] (trC (ofE a))) : Pu 144 [exC e] (trC (ofE e)) := by
 intro H
 refine Spec.enter Tryz.func144 rfl ?_
 refine AW.wk (wK 113 (l := [(0, .c (exC e))]) (ll := []) (H := (H))) ?_
 refine D3 ?_
 refine eL192 ?_
 have hlB := hr.len
 refine B1 ?_
 refine Z16 fn164 (rlen_any e) ?_
 refine G6 ?_
 refine D1 ?_
 refine Z3 ?_
 refine AW.cond _ rfl (fun h15 => ?_) (fun h15 => ?_)
 ·
  have hlen := by exact h15
  refine eL235 ?_
  obtain ⟨t, ht⟩ := Option.isSome_iff_exists.1 h15
  have hrt := len_ok hr ht
  refine B1 ?_
  refine Z16 fn165 (len_lim ht hrt) ?_
  refine G4 ?_
  exact aR (f2 (.cellL rfl rfl ty199 rfl rfl (.tmp rfl .nil)) (⟨by rw [ofE_len ht]; rfl, rfl⟩))
 refine eL240 ?_
 have hlen : lenV e = none := Option.not_isSome_iff_eq_none.1 (by simp [h15])
 refine B1 ?_
 refine eL161 ?_
 refine AW.block (AW.tip 6 199 2 rfl (fun k0 hk0 => ?_))
 refine AW.loop (fun (i : Nat) s => ∃ (kt : Nat) (zs : List (List E.T)), (i ≤ e.args.length ∧ H kt = none ∧ (∀ r ∈ (e.args.map ofE).take i, r.2 = 0) ∧ zs = ((e.args.take i).map fun a => (ofE a).1).map tmT) ∧ s = ⟨113, sp [(1, .lp 1 0), (2, .lp 2 0), (3, .c (iC 0)), (6, .c (.a (.ts kt .ne 2 zs))), (7, nX i)], lv [(1, .box (zEx e)), (2, .box zL2)], upd H kt (some (.tip 199 2 zs.length))⟩) (fun i => e.args.length - i) 0 ⟨_, by exact wK 113, k0, [], ⟨qZ _, hk0, by simp, rfl⟩, rfl⟩ (fun i s hs => ?_)
 obtain ⟨kt, zs, ⟨hi0, hkt, h0, hzs⟩, rfl⟩ := hs
 refine eL150 ?_
 refine cD ?_ ?_ <;> intro h24
 ·
  have hi := oI h24
  refine eL152 ?_
  refine eL193 ?_
  refine Z16 fn144 (ih _ (qC hi)) ?_
  refine G6 ?_
  refine eL153 ?_
  refine cD ?_ ?_ <;> intro h37
  ·
   refine D1 ?_
   refine SeqK.xw 38 rfl XW.tm0 ?_
   refine G3 ?_
   exact aR (fin_x (x := .tup [_, _]) (H) (.cellL rfl rfl ty199 rfl rfl (.tmp rfl .nil)) rfl ((fun j o h => upd_sub hkt j o h)) (⟨by rw [ofE_args hlen hi h0 h37]; rfl, rfl⟩))
  have hz0 : (ofE e.args[i]).2 = 0 := qY.1 h37
  refine eL173 ?_
  refine SeqK.app1 rfl (hkt) rfl el217 rfl rfl (by have hzl : zs.length = i := (by rw [hzs, qA, qA, List.length_take]; omega); have := hr.len; simp; omega) rfl rfl (fun k43 hk43 => ?_)
  refine eL166 ?_
  exact ⟨i + 1, _, by exact wK 113, by omega, k43, zs ++ [tmL (ofE e.args[i]).1], ⟨hi, hk43, ops_step hi h0 hz0, by rw [tmT_put hzs]; exact congrArg (List.map tmT) (by rw [qJ hi, qK]; rfl)⟩, rfl⟩
 refine eL147 ?_
 refine eL192 ?_
 have hil : i = e.args.length := by rw [qA] at h24; omega
 subst hil
 rw [qT] at hzs
 rw [qU (by rw [qA]; exact jA _)] at h0
 have hml : (e.args.map fun a => (ofE a).1).length = e.args.length := qA _
 have hop := ops_err h0
 have hr0 : ∀ a ∈ e.args, (ofE a).2 = 0 := fun a ha => h0 _ (jE.2 ⟨a, ha, rfl⟩)
 refine AW.xw 6 rfl (XW.ts.trans (XW.es hzs)) ?_
 refine B2 ?_
 refine eL160 ?_
 refine cD ?_ ?_ <;> intro h46
 ·
  refine AW.seq (D3 ?_)
  refine Z22 ?_ ?_ <;> intro g51
  ·
   iterate 4 refine oF ?_
   refine eL156 ?_
   refine D1 ?_
   refine SeqK.xw 57 rfl XW.tm0 ?_
   exact cL14
  refine eL265 ?_
  refine cD ?_ ?_ <;> intro h56
  ·
   refine D1 ?_
   refine SeqK.xw 57 rfl XW.tm0 ?_
   exact cL14
  refine AW.skip (D4 ?_)
  refine SeqK.xw 61 rfl XW.tm0 ?_
  refine Z16 fn165 (limited_any ⟨e.vn, []⟩ (bok_c hr.vn) cnt_c) ?_
  refine G4 ?_
  exact aR (fin_x (x := .tup [_, _]) (H) (.cellL rfl rfl ty199 rfl rfl (.tmp rfl .nil)) rfl ((fun j o h => upd_sub hkt j o h)) (⟨by rw [ofE_eq e, stepE, if_pos (by omega), leafE, if_neg (by omega), if_neg (by simp only [qA] at *; omega), if_pos (by omega)]; rfl, rfl⟩))
 refine D2 ?_
 refine cD ?_ ?_ <;> intro h65
 ·
  refine AW.seq (D3 ?_)
  refine Z22 ?_ ?_ <;> intro g70
  ·
   iterate 3 refine oF ?_
   refine eL156 ?_
   refine D1 ?_
   refine SeqK.xw 75 rfl XW.tm0 ?_
   exact cL14
  refine G2 ?_
  refine eL214 ?_
  refine Z6 ?_
  refine Z3 ?_
  refine cD ?_ ?_ <;> intro h74
  ·
   refine D1 ?_
   refine SeqK.xw 75 rfl XW.tm0 ?_
   exact cL14
  refine eL219 ?_
  refine SeqK.xw 78 rfl XW.pt0 ?_
  refine G1 ?_
  refine SeqK.xw 79 rfl .un ?_
  refine G3 ?_
  exact aR (fin_x (x := .tup [_, _]) (H) (.cellL rfl rfl ty199 rfl rfl (.tmp rfl .nil)) rfl ((fun j o h => upd_sub hkt j o h)) (⟨by rw [ofE_eq e, stepE, if_pos (by omega), leafE, if_neg (by omega), if_neg (by simp only [qA] at *; omega), if_neg (by omega), if_pos (by omega), lim_var (.inl rfl)]; rfl, rfl⟩))
 refine D2 ?_
 refine cD ?_ ?_ <;> intro h81
 ·
  refine eL229 ?_
  refine cD ?_ ?_ <;> intro h85
  ·
   have hl1 : e.args.length = 1 := by simp only [qA] at *; omega
   have h01 : 0 < e.args.length := by omega
   have hg0 := hgd _ (qC h01) (hr0 _ (qC h01))
   refine D1 ?_
   refine Z10 sl217 (idx_of h01) ?_
   refine G1 ?_
   refine sQ (q_call _ rfl fn166 rfl (rscale_any _ (-1) hg0.1 (by decide) (by omega)) rfl) ?_
   refine G4 ?_
   exact aR (fin_x (x := .tup [_, _]) (H) (.cellL rfl rfl ty199 rfl rfl (.tmp rfl .nil)) rfl ((fun j o h => upd_sub hkt j o h)) (⟨by rw [ofE_eq e, stepE, if_neg (by omega), if_pos (by assumption), unR_one (by simpa using h01) (by simpa using hl1)]; simp only [qV]; rw [if_neg (by have := hr0 _ (qC h01); omega)]; rfl, rfl⟩))
  exact cL1
 refine eL205 ?_
 refine cD ?_ ?_ <;> intro h92
 ·
  refine eL257 ?_
  refine cD ?_ ?_ <;> intro h92
  rotate_left
  ·
   exact cL1
  refine eL229 ?_
  refine cD ?_ ?_ <;> intro h100
  ·
   have hl2 : e.args.length = 2 := by simp only [qA] at *; omega
   have h01 : 0 < e.args.length := by omega
   have h12 : 1 < e.args.length := by omega
   have hg0 := hgd _ (qC h01) (hr0 _ (qC h01))
   have hg1 := hgd _ (qC h12) (hr0 _ (qC h12))
   refine AW.seq (AW.draw mo ?_)
   refine N3 ?_
   refine Z26 sl217 (idx_of h01) ?_
   refine N2 ?_
   refine Z26 sl217 (idx_of h12) ?_
   refine N1 ?_
   refine lQ (q_call _ rfl fn167 rfl (binary_any e.op (by omega) _ _ hg0.1 hg1.1 (by omega)) rfl) ?_
   refine N4 ?_
   refine Z38 ?_
   exact aR (fin_x (x := .tup [_, _]) (H) (.cellL rfl rfl ty199 rfl rfl (.tmp rfl .nil)) rfl ((fun j o h => upd_sub hkt j o h)) (⟨by rw [ofE_eq e, stepE, if_neg (by omega), if_neg (by omega), if_pos (by omega), binR_two (by simpa using h01) (by simpa using h12) (by simpa using hl2)]; simp only [qV]; rw [if_neg (by have := hr0 _ (qC h01); omega), if_neg (by have := hr0 _ (qC h12); omega)]; rfl, rfl⟩))
  exact cL1
 refine D2 ?_
 refine cD ?_ ?_ <;> intro h92
 ·
  refine eL257 ?_
  refine cD ?_ ?_ <;> intro h92
  rotate_left
  ·
   exact cL1
  refine eL229 ?_
  refine cD ?_ ?_ <;> intro h100
  ·
   have hl2 : e.args.length = 2 := by simp only [qA] at *; omega
   have h01 : 0 < e.args.length := by omega
   have h12 : 1 < e.args.length := by omega
   have hg0 := hgd _ (qC h01) (hr0 _ (qC h01))
   have hg1 := hgd _ (qC h12) (hr0 _ (qC h12))
   refine AW.seq (AW.draw mo ?_)
   refine N3 ?_
   refine Z26 sl217 (idx_of h01) ?_
   refine N2 ?_
   refine Z26 sl217 (idx_of h12) ?_
   refine N1 ?_
   refine lQ (q_call _ rfl fn167 rfl (binary_any e.op (by omega) _ _ hg0.1 hg1.1 (by omega)) rfl) ?_
   refine N4 ?_
   refine Z38 ?_
   exact aR (fin_x (x := .tup [_, _]) (H) (.cellL rfl rfl ty199 rfl rfl (.tmp rfl .nil)) rfl ((fun j o h => upd_sub hkt j o h)) (⟨by rw [ofE_eq e, stepE, if_neg (by omega), if_neg (by omega), if_pos (by omega), binR_two (by simpa using h01) (by simpa using h12) (by simpa using hl2)]; simp only [qV]; rw [if_neg (by have := hr0 _ (qC h01); omega), if_neg (by have := hr0 _ (qC h12); omega)]; rfl, rfl⟩))
  exact cL1
 refine D2 ?_
 refine cD ?_ ?_ <;> intro h92
 ·
  refine eL257 ?_
  refine cD ?_ ?_ <;> intro h92
  rotate_left
  ·
   exact cL1
  refine eL229 ?_
  refine cD ?_ ?_ <;> intro h100
  ·
   have hl2 : e.args.length = 2 := by simp only [qA] at *; omega
   have h01 : 0 < e.args.length := by omega
   have h12 : 1 < e.args.length := by omega
   have hg0 := hgd _ (qC h01) (hr0 _ (qC h01))
   have hg1 := hgd _ (qC h12) (hr0 _ (qC h12))
   refine AW.seq (AW.draw mo ?_)
   refine N3 ?_
   refine Z26 sl217 (idx_of h01) ?_
   refine N2 ?_
   refine Z26 sl217 (idx_of h12) ?_
   refine N1 ?_
   refine lQ (q_call _ rfl fn167 rfl (binary_any e.op (by omega) _ _ hg0.1 hg1.1 (by omega)) rfl) ?_
   refine N4 ?_
   refine Z38 ?_
   exact aR (fin_x (x := .tup [_, _]) (H) (.cellL rfl rfl ty199 rfl rfl (.tmp rfl .nil)) rfl ((fun j o h => upd_sub hkt j o h)) (⟨by rw [ofE_eq e, stepE, if_neg (by omega), if_neg (by omega), if_pos (by omega), binR_two (by simpa using h01) (by simpa using h12) (by simpa using hl2)]; simp only [qV]; rw [if_neg (by have := hr0 _ (qC h01); omega), if_neg (by have := hr0 _ (qC h12); omega)]; rfl, rfl⟩))
  exact cL1
 refine D2 ?_
 refine cD ?_ ?_ <;> intro h92
 ·
  refine eL257 ?_
  refine cD ?_ ?_ <;> intro h92
  rotate_left
  ·
   exact cL1
  refine eL229 ?_
  refine cD ?_ ?_ <;> intro h100
  ·
   have hl2 : e.args.length = 2 := by simp only [qA] at *; omega
   have h01 : 0 < e.args.length := by omega
   have h12 : 1 < e.args.length := by omega
   have hg0 := hgd _ (qC h01) (hr0 _ (qC h01))
   have hg1 := hgd _ (qC h12) (hr0 _ (qC h12))
   refine AW.seq (AW.draw mo ?_)
   refine N3 ?_
   refine Z26 sl217 (idx_of h01) ?_
   refine N2 ?_
   refine Z26 sl217 (idx_of h12) ?_
   refine N1 ?_
   refine lQ (q_call _ rfl fn167 rfl (binary_any e.op (by omega) _ _ hg0.1 hg1.1 (by omega)) rfl) ?_
   refine N4 ?_
   refine Z38 ?_
   exact aR (fin_x (x := .tup [_, _]) (H) (.cellL rfl rfl ty199 rfl rfl (.tmp rfl .nil)) rfl ((fun j o h => upd_sub hkt j o h)) (⟨by rw [ofE_eq e, stepE, if_neg (by omega), if_neg (by omega), if_pos (by omega), binR_two (by simpa using h01) (by simpa using h12) (by simpa using hl2)]; simp only [qV]; rw [if_neg (by have := hr0 _ (qC h01); omega), if_neg (by have := hr0 _ (qC h12); omega)]; rfl, rfl⟩))
  exact cL1
 refine B2 ?_
 refine cD ?_ ?_ <;> intro h92
 rotate_left
 ·
  exact cL1
 refine eL229 ?_
 refine cD ?_ ?_ <;> intro h100
 ·
  have hl2 : e.args.length = 2 := by simp only [qA] at *; omega
  have h01 : 0 < e.args.length := by omega
  have h12 : 1 < e.args.length := by omega
  have hg0 := hgd _ (qC h01) (hr0 _ (qC h01))
  have hg1 := hgd _ (qC h12) (hr0 _ (qC h12))
  refine AW.seq (AW.draw mo ?_)
  refine N3 ?_
  refine Z26 sl217 (idx_of h01) ?_
  refine N2 ?_
  refine Z26 sl217 (idx_of h12) ?_
  refine N1 ?_
  refine lQ (q_call _ rfl fn167 rfl (binary_any e.op (by omega) _ _ hg0.1 hg1.1 (by omega)) rfl) ?_
  refine N4 ?_
  refine Z38 ?_
  exact aR (fin_x (x := .tup [_, _]) (H) (.cellL rfl rfl ty199 rfl rfl (.tmp rfl .nil)) rfl ((fun j o h => upd_sub hkt j o h)) (⟨by rw [ofE_eq e, stepE, if_neg (by omega), if_neg (by omega), if_pos (by omega), binR_two (by simpa using h01) (by simpa using h12) (by simpa using hl2)]; simp only [qV]; rw [if_neg (by have := hr0 _ (qC h01); omega), if_neg (by have := hr0 _ (qC h12); omega)]; rfl, rfl⟩))
 exact cL1
theorem rof_any (e : Ex) : okE e → Pu 144 [exC e] (trC (ofE e)) := by
  induction e using Ex.ind with
  | h e ih =>
    intro h
    cases e with | mk op tb nm ix vk vn vs args =>
    simp only [okE, okEs_iff] at h
    exact rof_of _ ⟨h.1.1, h.1.2, fun a ha => (h.2 a ha).2.2⟩ (fun a ha => (h.2 a ha).2.1) fun a ha => ih a ha (h.2 a ha).1
end Go.Proofs.YtgnnjebfoffphaaGreatDoor.W
