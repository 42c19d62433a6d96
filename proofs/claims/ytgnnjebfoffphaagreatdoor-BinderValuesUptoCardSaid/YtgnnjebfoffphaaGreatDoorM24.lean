import Derived.Test.YtgnnjebfoffphaaGreatDoorM23
set_option maxRecDepth 20000
set_option maxHeartbeats 16000000
set_option linter.unusedSectionVars false
set_option linter.unusedSimpArgs false
set_option linter.unusedVariables false
namespace Go.Proofs.YtgnnjebfoffphaaGreatDoor.W
open Fx
open Go.RowKit E M
open Q
theorem tm_neg {a b : Int} (hb : 1 ≤ b) : a.tmod b < 0 ↔ a.tmod b ≠ 0 ∧ a < 0 := by
  rcases Int.lt_or_le a 0 with h | h
  · have k : 0 ≤ (-a).tmod b := Int.tmod_nonneg b (by omega)
    rw [Int.neg_tmod] at k
    omega
  · have k : 0 ≤ a.tmod b := Int.tmod_nonneg b h
    omega
theorem ev_lit {r : List RV} {e : Ex} (h : e.op = 1) : (⟨e.vk, e.vn, e.vs⟩ : RV) = evE r e := by rw [evE_eq, if_pos h]
theorem ev_col {r : List RV} {e : Ex} (h : ¬ e.op = 1) (h2 : e.op = 2) (hx : e.ix.toNat < r.length) : r[e.ix.toNat] = evE r e := by rw [evE_eq, if_neg h, if_pos h2, getD_at hx]
theorem ev_u {r : List RV} {e a : Ex} (h : ¬ e.op = 1) (h2 : ¬ e.op = 2) (ha : e.args = [a]) : evE r e = if (evE r a).k = 0 then rv0 else ⟨1, cmpV e.op [evE r a], ⟨#[]⟩⟩ := by
  rw [evE_eq, if_neg h, if_neg h2, ha]; simp only [qL, List.map_nil, evL, List.nil_append]
theorem ev_b {r : List RV} {e a b : Ex} (h : ¬ e.op = 1) (h2 : ¬ e.op = 2) (ha : e.args = [a, b]) : evE r e = if (evE r a).k = 0 then rv0 else if (evE r b).k = 0 then rv0 else ⟨1, cmpV e.op [evE r a, evE r b], ⟨#[]⟩⟩ := by
  rw [evE_eq, if_neg h, if_neg h2, ha]; simp only [qL, List.map_nil, evL, List.nil_append, List.cons_append]
theorem ev_n0 {r : List RV} {e : Ex} (h : ¬ e.op = 1) (h2 : ¬ e.op = 2) (h0 : 0 < e.args.length) (hk : (evE r e.args[0]).k = 0) : rv0 = evE r e := by
  rw [evE_eq, if_neg h, if_neg h2]
  cases hl : e.args with
  | nil => rw [hl] at h0; cases h0
  | cons a l => simp only [hl] at hk; rw [qL, evL]; exact (if_pos hk).symm
theorem ev_n1 {r : List RV} {e : Ex} (h : ¬ e.op = 1) (h2 : ¬ e.op = 2) (h1 : e.args.length = 2) (hk0 : ¬ (evE r (e.args[0]'(by omega))).k = 0) (hk : (evE r (e.args[1]'(by omega))).k = 0) : rv0 = evE r e := by
  obtain ⟨a, b, hl⟩ := list2 h1
  simp only [hl, List.getElem_cons_zero, List.getElem_cons_succ] at hk hk0
  rw [ev_b h h2 hl, if_neg hk0, if_pos hk]
theorem ev_v1 {r : List RV} {e : Ex} {n : Int} (h : ¬ e.op = 1) (h2 : ¬ e.op = 2) (h1 : e.args.length = 1) (hk0 : ¬ (evE r (e.args[0]'(by omega))).k = 0) (hn : n = cmpV e.op [evE r (e.args[0]'(by omega))]) : (⟨1, n, ⟨#[]⟩⟩ : RV) = evE r e := by
  obtain ⟨a, hl⟩ := list1 h1
  subst hn
  simp only [hl, List.getElem_cons_zero] at hk0 ⊢
  rw [ev_u h h2 hl, if_neg hk0]
theorem ev_v2 {r : List RV} {e : Ex} {n : Int} (h : ¬ e.op = 1) (h2 : ¬ e.op = 2) (h1 : e.args.length = 2) (hk0 : ¬ (evE r (e.args[0]'(by omega))).k = 0) (hk1 : ¬ (evE r (e.args[1]'(by omega))).k = 0) (hn : n = cmpV e.op [evE r (e.args[0]'(by omega)), evE r (e.args[1]'(by omega))]) : (⟨1, n, ⟨#[]⟩⟩ : RV) = evE r e := by
  obtain ⟨a, b, hl⟩ := list2 h1
  subst hn
  simp only [hl, List.getElem_cons_zero, List.getElem_cons_succ] at hk0 hk1 ⊢
  rw [ev_b h h2 hl, if_neg hk0, if_neg hk1]
section
variable {op : Int} {x y : RV}
theorem cm_3 (h : op = 3) : wI (0 - x.n) = cmpV op [x] := by unfold cmpV; rw [if_pos h]; rfl
theorem cm_9 (h : op = 9) : ((x.s.size : Nat) : Int) = cmpV op [x] := by unfold cmpV; rw [if_neg (by omega), if_pos h]; rfl
theorem cm_4 (h : op = 4) : wI (x.n + y.n) = cmpV op [x, y] := by unfold cmpV; rw [if_neg (by omega), if_neg (by omega), if_pos h]; rfl
theorem cm_5 (h : op = 5) : wI (x.n - y.n) = cmpV op [x, y] := by unfold cmpV; rw [if_neg (by omega), if_neg (by omega), if_neg (by omega), if_pos h]; rfl
theorem cm_6 (h : op = 6) : wI (x.n * y.n) = cmpV op [x, y] := by unfold cmpV; rw [if_neg (by omega), if_neg (by omega), if_neg (by omega), if_neg (by omega), if_pos h]; rfl
theorem cm_7 (h : op = 7) : flrI x.n y.n = cmpV op [x, y] := by unfold cmpV; rw [if_neg (by omega), if_neg (by omega), if_neg (by omega), if_neg (by omega), if_neg (by omega), if_pos h]; rfl
theorem cm_8 (h : op ≠ 3 ∧ op ≠ 9 ∧ op ≠ 4 ∧ op ≠ 5 ∧ op ≠ 6 ∧ op ≠ 7) : wI (x.n - wI (y.n * flrI x.n y.n)) = cmpV op [x, y] := by unfold cmpV; rw [if_neg h.1, if_neg h.2.1, if_neg h.2.2.1, if_neg h.2.2.2.1, if_neg h.2.2.2.2.1, if_neg h.2.2.2.2.2]; rfl
end
theorem integer_any (n : Int) : Pu 36 [iC n] (.c (rvC ⟨1, n, ⟨#[]⟩⟩)) := by
 intro H
 refine Spec.enter Tryz.func36 rfl ?_
 refine AW.wk (wK 5 (l := [(0, .c (iC n))]) (ll := []) (H := (H))) ?_
 refine D2 ?_
 refine D4 ?_
 refine AW.ret ?_
 exact f1 (.cellL rfl rfl ty35 rfl rfl .nil) (⟨rfl, rfl⟩)
theorem floorR_any (a b : Int) (hb : 1 ≤ b) : Pu 37 [iC a, iC b] (.c (iC (flrI a b))) := by
 have htm := tm_neg (a := a) hb
 intro H
 refine Spec.enter Tryz.func37 rfl ?_
 refine AW.wk (wK 23 (l := [(0, .c (iC a)), (1, .c (iC b))]) (ll := []) (H := (H))) ?_
 refine D1 ?_
 refine D2 ?_
 refine sQ (q_quo _ rfl rfl rfl (by omega) (by rfl)) ?_
 refine sB ?_
 refine AW.seq (D2 ?_)
 refine sQ (q_rem rfl rfl rfl (by omega)) ?_
 refine Z25 ?_
 refine Z17 ?_ ?_ <;> intro g13
 ·
  refine Z14 ?_
  refine sO (q_lss rfl rfl rfl) ?_
  refine Z14 ?_
  refine sO (q_lss rfl rfl rfl) ?_
  refine sO (q_neqB rfl un4 rfl rfl) ?_
  refine G2 ?_
  refine cD ?_ ?_ <;> intro h19
  ·
   refine B1 ?_
   refine sQ (q_sub _ rfl rfl rfl (rfl)) ?_
   refine sB ?_
   refine D2 ?_
   exact aR (fE (e := iCe2 (by first | exact fl_t (htm.2 ⟨g13, by simp at h19; omega⟩) | exact fl_f (fun k => absurd (htm.1 k).2 (by simp at h19; omega)) | exact fl_f (fun k => absurd (htm.1 k).1 (by omega)))))
  refine AW.skip (D2 ?_)
  exact aR (fE (e := iCe2 (by first | exact fl_t (htm.2 ⟨g13, by simp at h19; omega⟩) | exact fl_f (fun k => absurd (htm.1 k).2 (by simp at h19; omega)) | exact fl_f (fun k => absurd (htm.1 k).1 (by omega)))))
 iterate 5 refine oF ?_
 refine G2 ?_
 refine AW.condF rfl ?_
 refine AW.skip (D2 ?_)
 exact aR (fE (e := iCe2 (by first | exact fl_t (htm.2 ⟨g13, by simp at h19; omega⟩) | exact fl_f (fun k => absurd (htm.1 k).2 (by simp at h19; omega)) | exact fl_f (fun k => absurd (htm.1 k).1 (by omega)))))
theorem rvalue_of (r : List RV) (z : Nz) (e : Ex) (hv : vN r e) (hf : arN e.op e.args.length) (hr : tsR r) (ht : tsE e) (ih : e.op ≠ 1 → e.op ≠ 2 → ∀ a ∈ e.args, Pu 15 [exC a, rowC z r] (.c (rvC (evE r a)))) : Pu 15 [exC e, rowC z r] (.c (rvC (evE r e))) := by
 intro H
 refine Spec.enter Tryz.func15 rfl ?_
 refine AW.wk (wK 100 (l := [(0, .c (exC e)), (1, .c (rowC z r))]) (ll := []) (H := (H))) ?_
 refine D3 ?_
 refine AW.seq (D4 ?_)
 refine cD ?_ ?_ <;> intro h9
 ·
  refine D4 ?_
  refine AW.ret ?_
  exact f1 (.cellL rfl rfl ty35 rfl rfl .nil) (⟨rvCe (a := ⟨e.vk, e.vn, e.vs⟩) (ev_lit h9), rfl⟩)
 refine AW.skip (AW.seq (D4 ?_))
 refine cD ?_ ?_ <;> intro h14
 ·
  obtain ⟨hx0, hx1⟩ := hv.ix (by assumption)
  have hx : e.ix.toNat < r.length := by omega
  refine D7 ?_
  refine AW.ret ?_
  exact f1 (.cellL rfl rfl ty35 rfl rfl .nil) (⟨rvCe (a := r[e.ix.toNat]) (ev_col h9 h14 hx), rfl⟩)
 have h0 : 0 < e.args.length := hv.a0 h9 h14
 have hsz := ev_s hr (((tsE_iff e).1 ht).2 _ (qC h0))
 refine AW.skip (sR (Z1 Fx.fl37_5 ?_))
 refine Z0 Fx.ty27 ?_
 refine Z12 Fx.sl27 (idx_ex h0) ?_
 refine Z13 (.g [_, _, _, _, _, _, _, _]) Fx.ty37 ?_
 refine sM ?_
 refine Z16 Fx.fn15 (ih h9 h14 _ (List.getElem_mem h0)) ?_
 refine G3 ?_
 refine AW.seq (D4 ?_)
 refine cD ?_ ?_ <;> intro h28
 ·
  refine D3 ?_
  refine AW.ret ?_
  exact f1 (.cellL rfl rfl ty35 rfl rfl .nil) (⟨rvCe (a := rv0) (ev_n0 h9 h14 h0 h28), rfl⟩)
 refine AW.skip (AW.seq (D4 ?_))
 refine cD ?_ ?_ <;> intro h32
 ·
  refine D2 ?_
  refine sQ (q_neg _ rfl rfl ((rfl : IntKind.i64.wrap _ = wI (0 - (evE r (e.args[0]'h0)).n)))) ?_
  refine Z16 fn36 (integer_any _) ?_
  refine G2 ?_
  refine AW.ret ?_
  exact f1 (.cellL rfl rfl ty35 rfl rfl .nil) (⟨rvCe (ev_v1 h9 h14 (by omega) h28 (cm_3 h32)), rfl⟩)
 refine AW.skip (AW.seq (D4 ?_))
 refine cD ?_ ?_ <;> intro h39
 ·
  refine D3 ?_
  refine Z16 fn36 (integer_any _) ?_
  refine G2 ?_
  refine AW.ret ?_
  exact f1 (.cellL rfl rfl ty35 rfl rfl .nil) (⟨rvCe (ev_v1 h9 h14 (by omega) h28 (cm_9 h39)), rfl⟩)
 have h12 : 1 < e.args.length := hv.a1 h9 h14 h32 h39
 have hl2 : e.args.length = 2 := by have := hv.two; omega
 refine AW.skip (D5 ?_)
 refine Z16 fn15 (ih h9 h14 _ (qC h12)) ?_
 refine G3 ?_
 refine AW.seq (D4 ?_)
 refine cD ?_ ?_ <;> intro h52
 ·
  refine D3 ?_
  refine AW.ret ?_
  exact f1 (.cellL rfl rfl ty35 rfl rfl .nil) (⟨rvCe (a := rv0) (ev_n1 h9 h14 hl2 h28 h52), rfl⟩)
 refine AW.skip (AW.seq (D3 ?_))
 refine AW.block (D2 ?_)
 refine cD ?_ ?_ <;> intro h56
 ·
  refine D4 ?_
  refine sQ (q_add _ rfl rfl rfl ((rfl : IntKind.i64.wrap _ = wI ((evE r (e.args[0]'h0)).n + (evE r (e.args[1]'h12)).n)))) ?_
  refine Z16 fn36 (integer_any _) ?_
  refine G2 ?_
  refine AW.ret ?_
  exact f1 (.cellL rfl rfl ty35 rfl rfl .nil) (⟨rvCe (ev_v2 h9 h14 hl2 h28 h52 (cm_4 (by omega))), rfl⟩)
 refine D2 ?_
 refine cD ?_ ?_ <;> intro h64
 ·
  refine D4 ?_
  refine sQ (q_sub _ rfl rfl rfl ((rfl : IntKind.i64.wrap _ = wI ((evE r (e.args[0]'h0)).n - (evE r (e.args[1]'h12)).n)))) ?_
  refine Z16 fn36 (integer_any _) ?_
  refine G2 ?_
  refine AW.ret ?_
  exact f1 (.cellL rfl rfl ty35 rfl rfl .nil) (⟨rvCe (ev_v2 h9 h14 hl2 h28 h52 (cm_5 (by omega))), rfl⟩)
 refine D2 ?_
 refine cD ?_ ?_ <;> intro h72
 ·
  refine D4 ?_
  refine sQ (q_mul _ rfl rfl rfl ((rfl : IntKind.i64.wrap _ = wI ((evE r (e.args[0]'h0)).n * (evE r (e.args[1]'h12)).n)))) ?_
  refine Z16 fn36 (integer_any _) ?_
  refine G2 ?_
  refine AW.ret ?_
  exact f1 (.cellL rfl rfl ty35 rfl rfl .nil) (⟨rvCe (ev_v2 h9 h14 hl2 h28 h52 (cm_6 (by omega))), rfl⟩)
 refine D2 ?_
 refine cD ?_ ?_ <;> intro h80
 ·
  have hdv := hv.dv h9 h14 h32 h39 h56 h64 h72 h12
  refine D4 ?_
  refine Z16 fn37 (floorR_any _ _ hdv) ?_
  refine Z16 fn36 (integer_any _) ?_
  refine G2 ?_
  refine AW.ret ?_
  exact f1 (.cellL rfl rfl ty35 rfl rfl .nil) (⟨rvCe (ev_v2 h9 h14 hl2 h28 h52 (cm_7 (by omega))), rfl⟩)
 have hdv := hv.dv h9 h14 h32 h39 h56 h64 h72 h12
 refine AW.skip (AW.seq (AW.draw mo ?_))
 refine N8 ?_
 refine Z35 fn37 (floorR_any _ _ hdv) ?_
 refine lQ (q_mul _ rfl rfl rfl ((rfl : IntKind.i64.wrap _ = wI ((evE r (e.args[1]'h12)).n * flrI (evE r (e.args[0]'h0)).n (evE r (e.args[1]'h12)).n)))) ?_
 refine lQ (q_sub _ rfl rfl rfl ((rfl : IntKind.i64.wrap _ = wI ((evE r (e.args[0]'h0)).n - wI ((evE r (e.args[1]'h12)).n * flrI (evE r (e.args[0]'h0)).n (evE r (e.args[1]'h12)).n))))) ?_
 refine Z35 fn36 (integer_any _) ?_
 refine N2 ?_
 exact aR (f1 (.cellL rfl rfl ty35 rfl rfl .nil) (⟨rvCe (ev_v2 h9 h14 hl2 h28 h52 (cm_8 (by omega))), rfl⟩))
theorem rvalue_any (r : List RV) (z : Nz) (hr : tsR r) {e : Ex} (h : Ev r e) : fmE e → tsE e → Pu 15 [exC e, rowC z r] (.c (rvC (evE r e))) := by
  induction h with
  | mk e hv ha ih => exact fun hf ht => rvalue_of r z e hv ((fmE_iff e).1 hf).1 hr ht fun h1 h2 a hm => ih h1 h2 a hm (((fmE_iff e).1 hf).2 a hm) (((tsE_iff e).1 ht).2 a hm)
open Q
abbrev srI (vs : List Vr) (x : Sr) : Prop := ∃ A B : List Vr, vs = A ++ (vrsT x.t ++ B) ∧ x.f0 = (A.length : Int)
theorem srI.put {vs C : List Vr} {x : Sr} (h : srI vs x) : srI (vs ++ C) x := by
  obtain ⟨A, B, rfl, h2⟩ := h
  exact ⟨A, B ++ C, by simp only [qO], h2⟩
theorem fr_src {s : List Tb} : ∀ (l : List Fr) (ss : List Sr) (ts : List Int) (vs : List Vr), (∀ x ∈ ss, srI vs x) → ∀ x ∈ (frB s l ss ts vs).1, srI (frB s l ss ts vs).2.2.1 x
  | [], ss, ts, vs, h => by rw [frB]; exact h
  | f :: r, ss, ts, vs, h => by
    rw [frB]
    split
    · intro x hx; cases hx
    · split
      · intro x hx; cases hx
      · exact fr_src r _ _ _ (mem_put (fun x hx => (h x hx).put) ⟨vs, [], by rw [List.append_nil], rfl⟩)
theorem scn_in (tb nm : ByteArray) : ∀ (l : List Sr) (i k f : Int), scnS tb nm l i k f = (i, k, f) ∨ ∃ x ∈ l, 0 ≤ colI x.t.cols nm ∧ (scnS tb nm l i k f).1 = x.f0 + colI x.t.cols nm ∧ (scnS tb nm l i k f).2.1 = (x.t.cols.getD (colI x.t.cols nm).toNat co0).ty
  | [], i, k, f => .inl rfl
  | x :: r, i, k, f => by
    rw [scnS]
    split
    · rcases scn_in tb nm r i k f with h | ⟨y, hy, h⟩
      · exact .inl h
      · exact .inr ⟨y, by simp [hy], h⟩
    · split
      · rename_i h0
        rcases scn_in tb nm r (x.f0 + colI x.t.cols nm) (x.t.cols.getD (colI x.t.cols nm).toNat co0).ty (f + 1) with h | ⟨y, hy, h⟩
        · exact .inr ⟨x, by simp, h0, by rw [h], by rw [h]⟩
        · exact .inr ⟨y, by simp [hy], h⟩
      · rcases scn_in tb nm r i k f with h | ⟨y, hy, h⟩
        · exact .inl h
        · exact .inr ⟨y, by simp [hy], h⟩
theorem col_in {s : Sp} (hn : s.nb = false) {e : Ex} {i k : Int} (h : colS s e = (i, k, 0)) : ∃ x ∈ s.sr, 0 ≤ colI x.t.cols e.nm ∧ i = x.f0 + colI x.t.cols e.nm ∧ k = (x.t.cols.getD (colI x.t.cols e.nm).toNat co0).ty := by
  unfold colS at h
  rw [if_neg (by rw [hn]; simp)] at h
  dsimp only at h
  rcases scn_in e.tb e.nm s.sr 0 0 0 with h1 | ⟨x, hx, h0, h1, h2⟩
  · rw [h1, if_pos rfl] at h
    cases h
  · by_cases c0 : (scnS e.tb e.nm s.sr 0 0 0).2.2 = 0
    · rw [if_pos c0] at h; cases h
    rw [if_neg c0] at h
    by_cases c1 : (scnS e.tb e.nm s.sr 0 0 0).2.2 = 1
    · rw [if_pos c1] at h
      injection h with h3 h4
      injection h4 with h4 _
      exact ⟨x, hx, h0, by rw [← h3, h1], by rw [← h4, h2]⟩
    · rw [if_neg c1] at h; cases h
theorem colI_ltN {cols : List Co} {nm : ByteArray} (h : 0 ≤ colI cols nm) : (colI cols nm).toNat < cols.length := by
  have := colI_lt (cols := cols) (nm := nm)
  omega
theorem vr_at {vs : List Vr} {x : Sr} {c : Nat} (h : srI vs x) (hc : c < x.t.cols.length) : 0 ≤ x.f0 ∧ (x.f0 + (c : Int)).toNat < vs.length ∧ (vs.getD (x.f0 + (c : Int)).toNat v0).ty = (x.t.cols.getD c co0).ty := by
  obtain ⟨A, B, rfl, h2⟩ := h
  have e1 : (x.f0 + (c : Int)).toNat = A.length + c := by omega
  have hv : (vrsT x.t).length = x.t.cols.length := qA _
  rw [e1]
  refine ⟨by omega, by rw [qG, qG, hv]; omega, ?_⟩
  rw [qI, List.getElem?_append_right (by omega), Nat.add_sub_cancel_left, List.getElem?_append_left (by omega), qR, qI, qF hc]
  rfl
theorem num_in {s : Sp} {vs : List Vr} (hn : s.nb = false) (hs : ∀ x ∈ s.sr, srI vs x) {e : Ex} {i k : Int} (h : colS s e = (i, k, 0)) : 0 ≤ i ∧ i.toNat < vs.length ∧ (vs.getD i.toNat v0).ty = k := by
  obtain ⟨x, hx, h0, rfl, rfl⟩ := col_in hn h
  have hc := colI_ltN h0
  obtain ⟨k1, k2, k3⟩ := vr_at (hs x hx) hc
  have e1 : x.f0 + ((colI x.t.cols e.nm).toNat : Int) = x.f0 + colI x.t.cols e.nm := by omega
  rw [e1] at k2 k3
  exact ⟨by omega, k2, k3⟩
theorem agn_num {s : Sp} {vs : List Vr} (hn : s.nb = false) (hs : ∀ x ∈ s.sr, srI vs x) : agn s (numS vs) := fun e i k _ h => by
  obtain ⟨k1, k2, k3⟩ := num_in hn hs h
  unfold colS
  rw [if_pos rfl, if_neg (by show ¬ (i < 0 ∨ (vs.length : Int) ≤ i); omega)]
  show (i, (vs.getD i.toNat v0).ty, (0 : Int)) = _
  rw [k3]
abbrev rowP (vs : List Vr) (r : List RV) : Prop := r.length = vs.length ∧ ∀ j (h : j < r.length), r[j].k = 0 ∨ r[j].k = (vs.getD j v0).ty
theorem ty_of {s : Sp} {vs : List Vr} {r : List RV} (hn : s.nb = false) (hs : ∀ x ∈ s.sr, srI vs x) (hr : rowP vs r) : tyR s r := fun e i k _ h => by
  obtain ⟨k1, k2, k3⟩ := num_in hn hs h
  have hj : i.toNat < r.length := by rw [hr.1]; exact k2
  have h1 : r.getD i.toNat rv0 = r[i.toNat] := by rw [qI, qF hj]; rfl
  rw [h1, ← k3]
  exact hr.2 _ hj
theorem bnd_cix {s : Sp} {n : Nat} (hs : ∀ (e : Ex) (i k : Int), colS s e = (i, k, 0) → 0 ≤ i ∧ i.toNat < n) (e : Ex) : (bndE s e).2.2 = 0 → cixE n (bndE s e).1 := by
  induction e using Ex.rec' with
  | h e ih =>
    intro h
    have B := bnd_of h
    refine (cixE_iff n _).2 ⟨fun k => ?_, fun a ha => ?_⟩
    · have := hs e _ _ (B.col (B.op.symm.trans k))
      omega
    · rw [B.args] at ha
      obtain ⟨b, hb, rfl⟩ := jE.1 ha
      exact ih b hb (B.ok b hb)
abbrev itS2 (s : Sp) (x : It) : Prop := x.ag ≠ 1 → ∃ e, gdX e ∧ (bndE s e).2.2 = 0 ∧ (bndE s e).2.1 ≠ 3 ∧ x.ex = (bndE s e).1
theorem its_src {s : Sp} : ∀ (l out : List It), (itsB s l out).2 = 0 → (∀ x ∈ l, x.ag ≠ 1 → gdX x.ex) → (∀ x ∈ out, itS2 s x) → ∀ x ∈ (itsB s l out).1, itS2 s x
  | [], out, _, _, ho => by rw [itsB]; exact ho
  | x :: r, out, h, hr, ho => by
    rw [itsB] at h ⊢
    by_cases h1 : x.ag = 1
    · rw [if_pos h1] at h ⊢
      exact its_src r _ h (fun y hy => hr y (by simp [hy])) (mem_put (p := itS2 s) ho fun k => absurd h1 k)
    rw [if_neg h1] at h ⊢
    by_cases h3 : (bndE s x.ex).2.2 ≠ 0
    · rw [if_pos h3] at h; exact absurd h h3
    rw [if_neg h3] at h ⊢
    by_cases h4 : (bndE s x.ex).2.1 = 3 ∨ (x.ag = 3 ∧ fitI (bndE s x.ex).2.1 1 = false)
    · rw [if_pos h4] at h; cases h
    rw [if_neg h4] at h ⊢
    exact its_src r _ h (fun y hy => hr y (by simp [hy])) (mem_put (p := itS2 s) ho fun _ => ⟨x.ex, hr x (by simp) h1, qY.1 h3, fun k => h4 (.inl k), rfl⟩)
structure itV (vs : List Vr) (r : List RV) (X : Ex) : Prop where
  gd : gdX X
  er : (bndE (numS vs) X).2.2 = 0
  ev : Ev r X
  ty : (evE r X).k = 0 ∨ (evE r X).k = (bndE (numS vs) X).2.1
theorem val_ok {d : List Tb} {st : St} {r : List RV} (hd : okDb d) (hst : okSt st) (hk : st.k = 5) (h : (binP d st).2 = 0) (hr : rowP (binP d st).1.vars r) : ∀ x ∈ (binP d st).1.st.its, x.ag ≠ 1 → itV (binP d st).1.vars r x.ex := by
  rw [bin_q hk] at h hr ⊢
  unfold qryB at h hr ⊢
  dsimp only at h hr ⊢
  by_cases h1 : 3 < st.frm.length
  · rw [if_pos h1] at h; cases h
  rw [if_neg h1] at h hr ⊢
  by_cases h2 : (frB d st.frm [] [] []).2.2.2 ≠ 0
  · rw [if_pos h2] at h; exact absurd h h2
  rw [if_neg h2] at h hr ⊢
  by_cases h3 : (itsB ⟨(frB d st.frm [] [] []).1, [], false⟩ st.its []).2 ≠ 0
  · rw [if_pos h3] at h; exact absurd h h3
  rw [if_neg h3] at h hr ⊢
  by_cases h4 : (cndB ⟨(frB d st.frm [] [] []).1, [], false⟩ st.wh).2 ≠ 0
  · rw [if_pos h4] at h; exact absurd h h4
  rw [if_neg h4] at h hr ⊢
  by_cases h5 : (exsB ⟨(frB d st.frm [] [] []).1, [], false⟩ st.grp []).2 ≠ 0
  · rw [if_pos h5] at h; exact absurd h h5
  rw [if_neg h5] at h hr ⊢
  by_cases h6 : grdB (itsB ⟨(frB d st.frm [] [] []).1, [], false⟩ st.its []).1 (exsB ⟨(frB d st.frm [] [] []).1, [], false⟩ st.grp []).1 = false
  · rw [if_pos h6] at h; cases h
  rw [if_neg h6] at h hr ⊢
  by_cases h7 : (st.ord.any fun o => decide (wdB st.its (frB d st.frm [] [] []).2.2.1 < o.it)) = true
  · rw [if_pos h7] at h; cases h
  rw [if_neg h7] at hr ⊢
  dsimp only at hr ⊢
  intro x hx hx1
  have hs : ∀ y ∈ (frB d st.frm [] [] []).1, srI (frB d st.frm [] [] []).2.2.1 y := fr_src st.frm [] [] [] (by simp)
  obtain ⟨e, g1, g2, g3, g4⟩ := its_src st.its [] (qY.1 h3) hst.qr.ig (by simp) x hx hx1
  have hn := agn_num (s := ⟨(frB d st.frm [] [] []).1, [], false⟩) rfl hs
  have hb := bnd_again hn e _ _ (Prod.ext rfl (Prod.ext rfl g2))
  have hX := g1.bnd g2
  have hc := bnd_cix (s := ⟨(frB d st.frm [] [] []).1, [], false⟩) (n := r.length) (fun e i k hh => by
    obtain ⟨k1, k2, _⟩ := num_in (s := ⟨(frB d st.frm [] [] []).1, [], false⟩) rfl hs hh
    exact ⟨k1, by rw [hr.1]; exact k2⟩) e g2
  have hF := (fmE_iff _).1 hX.fm
  rw [g4]
  refine ⟨hX, by rw [hb], sf_ev (bnd_sf e g1.fm g2 g3) hc (by have := hF.1; omega) (fun a ha => by have := ((fmE_iff a).1 (hF.2 a ha)).1; omega) hX.fm, ?_⟩
  rw [hb]
  exact bnd_ev (ty_of rfl hs hr) g1.fm g2 g3
open Q
theorem sz_ba (u : ByteArray) : (u.size : Int) = (u.data.toList.length : Int) := by rw [Array.length_toList]; rfl
theorem literalR_any (v : RV) (hs : v.s.size ≤ 1000000000000000) (H : Heap) : E.Spec Tryz.prog 34 [rvC v] H fun x H' => ∃ n, x = .c (iC n) ∧ H' = H := by
 have hsz := sz_ba v.s
 refine Spec.enter Tryz.func34 rfl ?_
 refine AW.wk (wK 68 (l := [(0, .c (rvC v))]) (ll := []) (H := (H))) ?_
 refine D2 ?_
 refine AW.seq (D3 ?_)
 refine Z17 ?_ ?_ <;> intro g7
 rotate_left
 ·
  iterate 3 refine oF ?_
  refine G2 ?_
  iterate 3 refine oF ?_
  refine G2 ?_
  refine AW.condF rfl ?_
  refine AW.skip (AW.seq (D3 ?_))
  refine Z17 ?_ ?_ <;> intro g20
  rotate_left
  ·
   iterate 3 refine oF ?_
   refine G2 ?_
   iterate 3 refine oF ?_
   refine G2 ?_
   iterate 3 refine oF ?_
   refine G2 ?_
   refine AW.condF rfl ?_
   refine AW.skip (AW.seq (D3 ?_))
   refine Z17 ?_ ?_ <;> intro g38
   rotate_left
   ·
    iterate 3 refine oF ?_
    refine G2 ?_
    iterate 4 refine oF ?_
    refine G2 ?_
    refine AW.condF rfl ?_
    refine AW.skip (D1 ?_)
    exact aR (f1 (q := ⟨_, rfl, rfl⟩))
   refine G4 ?_
   refine Z17 ?_ ?_ <;> intro g43
   rotate_left
   ·
    iterate 4 refine oF ?_
    refine G2 ?_
    refine AW.condF rfl ?_
    refine AW.skip (D1 ?_)
    exact aR (f1 (q := ⟨_, rfl, rfl⟩))
   refine G6 ?_
   refine cD ?_ ?_ <;> intro h48
   rotate_left
   ·
    refine AW.skip (D1 ?_)
    exact aR (f1 (q := ⟨_, rfl, rfl⟩))
   refine AW.seq (D1 ?_)
   refine AW.block (AW.loop (fun (i : Nat) s => (i ≤ v.s.data.toList.length) ∧ s = ⟨68, sp [(1, .lp 1 0), (2, .c (iC 0)), (3, nX i)], lv [(1, .box [.t (.v (.int .i64 v.k)), .t (.v (.int .i64 v.n)), .t (.v (.string v.s))])], H⟩) (fun i => v.s.data.toList.length - i) 0 ⟨_, by exact wK 68, qZ _, rfl⟩ (fun i s hs => ?_))
   obtain ⟨hi0, rfl⟩ := hs
   refine AW.seq (D6 ?_)
   refine cD ?_ ?_ <;> intro h53
   rotate_left
   ·
    refine AW.exit ?_
    refine eth_e ?_
    refine eth_e ?_
    refine exit_here ?_
    refine D1 ?_
    exact aR (f1 (q := ⟨_, rfl, rfl⟩))
   have hi : i < v.s.data.toList.length := by omega
   refine AW.skip (AW.seq (AW.block (D3 ?_)))
   refine Z58 un9 (idx_ba hi) ?_
   refine Z15 ?_
   refine Z17 ?_ ?_ <;> intro g61
   ·
    iterate 5 refine oF ?_
    refine G2 ?_
    refine AW.condT rfl ?_
    refine D1 ?_
    exact aR (f1 (q := ⟨_, rfl, rfl⟩))
   refine G3 ?_
   refine Z34 un9 (idx_ba hi) ?_
   refine G3 ?_
   refine cD ?_ ?_ <;> intro h67
   ·
    refine D1 ?_
    exact aR (f1 (q := ⟨_, rfl, rfl⟩))
   refine AW.skip (B3 ?_)
   exact ⟨i + 1, _, by exact wK 68, by omega, hi, rfl⟩
  refine G2 ?_
  refine sO (q_eqlS rfl rfl rfl) ?_
  refine Z7 ?_
  refine Z17 ?_ ?_ <;> intro g25
  rotate_left
  ·
   iterate 3 refine oF ?_
   refine G2 ?_
   iterate 3 refine oF ?_
   refine G2 ?_
   refine AW.condF rfl ?_
   refine AW.skip (AW.seq (D3 ?_))
   refine Z17 ?_ ?_ <;> intro g38
   rotate_left
   ·
    iterate 3 refine oF ?_
    refine G2 ?_
    iterate 4 refine oF ?_
    refine G2 ?_
    refine AW.condF rfl ?_
    refine AW.skip (D1 ?_)
    exact aR (f1 (q := ⟨_, rfl, rfl⟩))
   refine G4 ?_
   refine Z17 ?_ ?_ <;> intro g43
   rotate_left
   ·
    iterate 4 refine oF ?_
    refine G2 ?_
    refine AW.condF rfl ?_
    refine AW.skip (D1 ?_)
    exact aR (f1 (q := ⟨_, rfl, rfl⟩))
   refine G6 ?_
   refine cD ?_ ?_ <;> intro h48
   rotate_left
   ·
    refine AW.skip (D1 ?_)
    exact aR (f1 (q := ⟨_, rfl, rfl⟩))
   refine AW.seq (D1 ?_)
   refine AW.block (AW.loop (fun (i : Nat) s => (i ≤ v.s.data.toList.length) ∧ s = ⟨68, sp [(1, .lp 1 0), (2, .c (iC 0)), (3, nX i)], lv [(1, .box [.t (.v (.int .i64 v.k)), .t (.v (.int .i64 v.n)), .t (.v (.string v.s))])], H⟩) (fun i => v.s.data.toList.length - i) 0 ⟨_, by exact wK 68, qZ _, rfl⟩ (fun i s hs => ?_))
   obtain ⟨hi0, rfl⟩ := hs
   refine AW.seq (D6 ?_)
   refine cD ?_ ?_ <;> intro h53
   rotate_left
   ·
    refine AW.exit ?_
    refine eth_e ?_
    refine eth_e ?_
    refine exit_here ?_
    refine D1 ?_
    exact aR (f1 (q := ⟨_, rfl, rfl⟩))
   have hi : i < v.s.data.toList.length := by omega
   refine AW.skip (AW.seq (AW.block (D3 ?_)))
   refine Z58 un9 (idx_ba hi) ?_
   refine Z15 ?_
   refine Z17 ?_ ?_ <;> intro g61
   ·
    iterate 5 refine oF ?_
    refine G2 ?_
    refine AW.condT rfl ?_
    refine D1 ?_
    exact aR (f1 (q := ⟨_, rfl, rfl⟩))
   refine G3 ?_
   refine Z34 un9 (idx_ba hi) ?_
   refine G3 ?_
   refine cD ?_ ?_ <;> intro h67
   ·
    refine D1 ?_
    exact aR (f1 (q := ⟨_, rfl, rfl⟩))
   refine AW.skip (B3 ?_)
   exact ⟨i + 1, _, by exact wK 68, by omega, hi, rfl⟩
  refine G2 ?_
  refine sO (q_geq rfl rfl rfl) ?_
  refine Z7 ?_
  refine Z17 ?_ ?_ <;> intro g30
  ·
   refine G5 ?_
   refine cD ?_ ?_ <;> intro h34
   ·
    refine D1 ?_
    exact aR (f1 (q := ⟨_, rfl, rfl⟩))
   refine AW.skip (AW.seq (D3 ?_))
   refine Z17 ?_ ?_ <;> intro g38
   rotate_left
   ·
    iterate 3 refine oF ?_
    refine G2 ?_
    iterate 4 refine oF ?_
    refine G2 ?_
    refine AW.condF rfl ?_
    refine AW.skip (D1 ?_)
    exact aR (f1 (q := ⟨_, rfl, rfl⟩))
   refine G4 ?_
   refine Z17 ?_ ?_ <;> intro g43
   rotate_left
   ·
    iterate 4 refine oF ?_
    refine G2 ?_
    refine AW.condF rfl ?_
    refine AW.skip (D1 ?_)
    exact aR (f1 (q := ⟨_, rfl, rfl⟩))
   refine G6 ?_
   refine cD ?_ ?_ <;> intro h48
   rotate_left
   ·
    refine AW.skip (D1 ?_)
    exact aR (f1 (q := ⟨_, rfl, rfl⟩))
   refine AW.seq (D1 ?_)
   refine AW.block (AW.loop (fun (i : Nat) s => (i ≤ v.s.data.toList.length) ∧ s = ⟨68, sp [(1, .lp 1 0), (2, .c (iC 0)), (3, nX i)], lv [(1, .box [.t (.v (.int .i64 v.k)), .t (.v (.int .i64 v.n)), .t (.v (.string v.s))])], H⟩) (fun i => v.s.data.toList.length - i) 0 ⟨_, by exact wK 68, qZ _, rfl⟩ (fun i s hs => ?_))
   obtain ⟨hi0, rfl⟩ := hs
   refine AW.seq (D6 ?_)
   refine cD ?_ ?_ <;> intro h53
   rotate_left
   ·
    refine AW.exit ?_
    refine eth_e ?_
    refine eth_e ?_
    refine exit_here ?_
    refine D1 ?_
    exact aR (f1 (q := ⟨_, rfl, rfl⟩))
   have hi : i < v.s.data.toList.length := by omega
   refine AW.skip (AW.seq (AW.block (D3 ?_)))
   refine Z58 un9 (idx_ba hi) ?_
   refine Z15 ?_
   refine Z17 ?_ ?_ <;> intro g61
   ·
    iterate 5 refine oF ?_
    refine G2 ?_
    refine AW.condT rfl ?_
    refine D1 ?_
    exact aR (f1 (q := ⟨_, rfl, rfl⟩))
   refine G3 ?_
   refine Z34 un9 (idx_ba hi) ?_
   refine Z30 ?_
   refine Z6 ?_
   refine Z4 ?_
   refine cD ?_ ?_ <;> intro h67
   ·
    refine sR (sB ?_)
    exact aR (f1 (q := ⟨_, rfl, rfl⟩))
   refine AW.skip (AW.reg (sM ?_))
   refine Z2 ?_
   refine sB ?_
   exact ⟨i + 1, _, by exact wK 68, by omega, hi, rfl⟩
  iterate 3 refine oF ?_
  refine Z6 ?_
  refine Z4 (AW.condF rfl ?_)
  refine AW.skip (AW.seq (sR (Z1 Fx.fl35_0 ?_)))
  refine Z0 Fx.ty3 ?_
  refine Z9 ?_
  refine Z17 ?_ ?_ <;> intro g38
  rotate_left
  ·
   iterate 3 refine oF ?_
   refine Z6 ?_
   refine sM ?_
   iterate 4 refine oF ?_
   refine Z6 ?_
   refine Z4 (AW.condF rfl ?_)
   refine AW.skip (sR (sB ?_))
   exact aR (f1 (q := ⟨_, rfl, rfl⟩))
  refine Z8 Fx.fl35_1 ?_
  refine Z5 Fx.ty2 ?_
  refine Z29 ?_
  refine Z7 ?_
  refine Z17 ?_ ?_ <;> intro g43
  rotate_left
  ·
   iterate 4 refine oF ?_
   refine Z6 ?_
   refine Z4 (AW.condF rfl ?_)
   refine AW.skip (sR (sB ?_))
   exact aR (f1 (q := ⟨_, rfl, rfl⟩))
  refine Z8 Fx.fl35_2 ?_
  refine Z5 Fx.ty9 ?_
  refine Z59 Fx.un9 ?_
  refine Z37 ?_
  refine Z7 ?_
  refine Z4 ?_
  refine cD ?_ ?_ <;> intro h48
  rotate_left
  ·
   refine AW.skip (sR (sB ?_))
   exact aR (f1 (q := ⟨_, rfl, rfl⟩))
  refine AW.seq (sR (sB ?_))
  refine AW.block ?_
  refine AW.loop (fun (i : Nat) s => (i ≤ v.s.data.toList.length) ∧ s = ⟨68, sp [(1, .lp 1 0), (2, .c (iC 0)), (3, iX .i64 ((i : Nat) : Int))], lv [(1, .box [.t (.v (.int .i64 v.k)), .t (.v (.int .i64 v.n)), .t (.v (.string v.s))])], H⟩) (fun i => v.s.data.toList.length - i) 0 ⟨_, by exact Wk.keep 68 _ _ _ rfl ⟨rfl, rfl, rfl, trivial⟩ ⟨rfl, trivial⟩ (fun _ _ h => h) rfl, Nat.zero_le _, rfl⟩ (fun i s hs => ?_)
  obtain ⟨hi0, rfl⟩ := hs
  refine AW.seq (sR (sM ?_))
  refine Z1 Fx.fl35_2 ?_
  refine Z0 Fx.ty9 ?_
  refine Z47 Fx.un9 ?_
  refine Z15 ?_
  refine Z4 ?_
  refine cD ?_ ?_ <;> intro h53
  rotate_left
  ·
   refine AW.exit ?_
   refine eth_e ?_
   refine eth_e ?_
   refine exit_here ?_
   refine sR (sB ?_)
   exact aR (f1 (q := ⟨_, rfl, rfl⟩))
  have hi : i < v.s.data.toList.length := by omega
  refine AW.skip (AW.seq (AW.block (sR (Z1 Fx.fl35_2 ?_))))
  refine Z0 Fx.ty9 ?_
  refine sM ?_
  refine Z58 Fx.un9 (idx_ba hi) ?_
  refine Z15 ?_
  refine Z17 ?_ ?_ <;> intro g61
  ·
   iterate 5 refine oF ?_
   refine Z7 ?_
   refine Z4 (AW.condT rfl ?_)
   refine sR (sB ?_)
   exact aR (f1 (q := ⟨_, rfl, rfl⟩))
  refine Z8 Fx.fl35_2 ?_
  refine Z5 Fx.ty9 ?_
  refine Z14 ?_
  refine Z34 Fx.un9 (idx_ba hi) ?_
  refine Z30 ?_
  refine Z6 ?_
  refine Z4 ?_
  refine cD ?_ ?_ <;> intro h67
  ·
   refine sR (sB ?_)
   exact aR (f1 (q := ⟨_, rfl, rfl⟩))
  refine AW.skip (AW.reg (sM ?_))
  refine Z2 ?_
  refine sB ?_
  exact ⟨i + 1, _, by exact wK 68, by omega, hi, rfl⟩
 refine Z8 Fx.fl35_1 ?_
 refine Z5 Fx.ty2 ?_
 refine Z29 ?_
 refine Z7 ?_
 refine Z17 ?_ ?_ <;> intro g12
 ·
  refine Z8 Fx.fl35_2 ?_
  refine Z5 Fx.ty9 ?_
  refine SeqK.on (q_eqlS rfl rfl rfl) rfl rfl rfl rfl rfl ?_
  refine Z7 ?_
  refine Z4 ?_
  refine cD ?_ ?_ <;> intro h16
  ·
   refine sR (sB ?_)
   exact aR (f1 (q := ⟨_, rfl, rfl⟩))
  refine AW.skip (AW.seq (sR (Z1 Fx.fl35_0 ?_)))
  refine Z0 Fx.ty3 ?_
  refine Z9 ?_
  refine Z17 ?_ ?_ <;> intro g20
  rotate_left
  ·
   iterate 3 refine oF ?_
   refine Z6 ?_
   refine sM ?_
   iterate 3 refine oF ?_
   refine Z6 ?_
   refine sM ?_
   iterate 3 refine oF ?_
   refine Z6 ?_
   refine Z4 (AW.condF rfl ?_)
   refine AW.skip (AW.seq (sR (Z1 Fx.fl35_0 ?_)))
   refine Z0 Fx.ty3 ?_
   refine Z9 ?_
   refine Z17 ?_ ?_ <;> intro g38
   rotate_left
   ·
    iterate 3 refine oF ?_
    refine Z6 ?_
    refine sM ?_
    iterate 4 refine oF ?_
    refine Z6 ?_
    refine Z4 (AW.condF rfl ?_)
    refine AW.skip (sR (sB ?_))
    exact aR (f1 (q := ⟨_, rfl, rfl⟩))
   refine Z8 Fx.fl35_1 ?_
   refine Z5 Fx.ty2 ?_
   refine Z29 ?_
   refine Z7 ?_
   refine Z17 ?_ ?_ <;> intro g43
   rotate_left
   ·
    iterate 4 refine oF ?_
    refine Z6 ?_
    refine Z4 (AW.condF rfl ?_)
    refine AW.skip (sR (sB ?_))
    exact aR (f1 (q := ⟨_, rfl, rfl⟩))
   refine Z8 Fx.fl35_2 ?_
   refine Z5 Fx.ty9 ?_
   refine Z59 Fx.un9 ?_
   refine Z37 ?_
   refine Z7 ?_
   refine Z4 ?_
   refine cD ?_ ?_ <;> intro h48
   rotate_left
   ·
    refine AW.skip (sR (sB ?_))
    exact aR (f1 (q := ⟨_, rfl, rfl⟩))
   refine AW.seq (sR (sB ?_))
   refine AW.block ?_
   refine AW.loop (fun (i : Nat) s => (i ≤ v.s.data.toList.length) ∧ s = ⟨68, sp [(1, .lp 1 0), (2, .c (iC 0)), (3, iX .i64 ((i : Nat) : Int))], lv [(1, .box [.t (.v (.int .i64 v.k)), .t (.v (.int .i64 v.n)), .t (.v (.string v.s))])], H⟩) (fun i => v.s.data.toList.length - i) 0 ⟨_, by exact Wk.keep 68 _ _ _ rfl ⟨rfl, rfl, rfl, trivial⟩ ⟨rfl, trivial⟩ (fun _ _ h => h) rfl, Nat.zero_le _, rfl⟩ (fun i s hs => ?_)
   obtain ⟨hi0, rfl⟩ := hs
   refine AW.seq (sR (sM ?_))
   refine Z1 Fx.fl35_2 ?_
   refine Z0 Fx.ty9 ?_
   refine Z47 Fx.un9 ?_
   refine Z15 ?_
   refine Z4 ?_
   refine cD ?_ ?_ <;> intro h53
   rotate_left
   ·
    refine AW.exit ?_
    refine eth_e ?_
    refine eth_e ?_
    refine exit_here ?_
    refine sR (sB ?_)
    exact aR (f1 (q := ⟨_, rfl, rfl⟩))
   have hi : i < v.s.data.toList.length := by omega
   refine AW.skip (AW.seq (AW.block (sR (Z1 Fx.fl35_2 ?_))))
   refine Z0 Fx.ty9 ?_
   refine sM ?_
   refine Z58 Fx.un9 (idx_ba hi) ?_
   refine Z15 ?_
   refine Z17 ?_ ?_ <;> intro g61
   ·
    iterate 5 refine oF ?_
    refine Z7 ?_
    refine Z4 (AW.condT rfl ?_)
    refine sR (sB ?_)
    exact aR (f1 (q := ⟨_, rfl, rfl⟩))
   refine Z8 Fx.fl35_2 ?_
   refine Z5 Fx.ty9 ?_
   refine Z14 ?_
   refine Z34 Fx.un9 (idx_ba hi) ?_
   refine Z30 ?_
   refine Z6 ?_
   refine Z4 ?_
   refine cD ?_ ?_ <;> intro h67
   ·
    refine sR (sB ?_)
    exact aR (f1 (q := ⟨_, rfl, rfl⟩))
   refine AW.skip (AW.reg (sM ?_))
   refine Z2 ?_
   refine sB ?_
   exact ⟨i + 1, _, by exact wK 68, by omega, hi, rfl⟩
  refine Z8 Fx.fl35_2 ?_
  refine Z5 Fx.ty9 ?_
  refine SeqK.on (q_eqlS rfl rfl rfl) rfl rfl rfl rfl rfl ?_
  refine Z7 ?_
  refine Z17 ?_ ?_ <;> intro g25
  rotate_left
  ·
   iterate 3 refine oF ?_
   refine Z6 ?_
   refine sM ?_
   iterate 3 refine oF ?_
   refine Z6 ?_
   refine Z4 (AW.condF rfl ?_)
   refine AW.skip (AW.seq (sR (Z1 Fx.fl35_0 ?_)))
   refine Z0 Fx.ty3 ?_
   refine Z9 ?_
   refine Z17 ?_ ?_ <;> intro g38
   rotate_left
   ·
    iterate 3 refine oF ?_
    refine Z6 ?_
    refine sM ?_
    iterate 4 refine oF ?_
    refine Z6 ?_
    refine Z4 (AW.condF rfl ?_)
    refine AW.skip (sR (sB ?_))
    exact aR (f1 (q := ⟨_, rfl, rfl⟩))
   refine Z8 Fx.fl35_1 ?_
   refine Z5 Fx.ty2 ?_
   refine Z29 ?_
   refine Z7 ?_
   refine Z17 ?_ ?_ <;> intro g43
   rotate_left
   ·
    iterate 4 refine oF ?_
    refine Z6 ?_
    refine Z4 (AW.condF rfl ?_)
    refine AW.skip (sR (sB ?_))
    exact aR (f1 (q := ⟨_, rfl, rfl⟩))
   refine Z8 Fx.fl35_2 ?_
   refine Z5 Fx.ty9 ?_
   refine Z59 Fx.un9 ?_
   refine Z37 ?_
   refine Z7 ?_
   refine Z4 ?_
   refine cD ?_ ?_ <;> intro h48
   rotate_left
   ·
    refine AW.skip (sR (sB ?_))
    exact aR (f1 (q := ⟨_, rfl, rfl⟩))
   refine AW.seq (sR (sB ?_))
   refine AW.block ?_
   refine AW.loop (fun (i : Nat) s => (i ≤ v.s.data.toList.length) ∧ s = ⟨68, sp [(1, .lp 1 0), (2, .c (iC 0)), (3, iX .i64 ((i : Nat) : Int))], lv [(1, .box [.t (.v (.int .i64 v.k)), .t (.v (.int .i64 v.n)), .t (.v (.string v.s))])], H⟩) (fun i => v.s.data.toList.length - i) 0 ⟨_, by exact Wk.keep 68 _ _ _ rfl ⟨rfl, rfl, rfl, trivial⟩ ⟨rfl, trivial⟩ (fun _ _ h => h) rfl, Nat.zero_le _, rfl⟩ (fun i s hs => ?_)
   obtain ⟨hi0, rfl⟩ := hs
   refine AW.seq (sR (sM ?_))
   refine Z1 Fx.fl35_2 ?_
   refine Z0 Fx.ty9 ?_
   refine Z47 Fx.un9 ?_
   refine Z15 ?_
   refine Z4 ?_
   refine cD ?_ ?_ <;> intro h53
   rotate_left
   ·
    refine AW.exit ?_
    refine eth_e ?_
    refine eth_e ?_
    refine exit_here ?_
    refine sR (sB ?_)
    exact aR (f1 (q := ⟨_, rfl, rfl⟩))
   have hi : i < v.s.data.toList.length := by omega
   refine AW.skip (AW.seq (AW.block (sR (Z1 Fx.fl35_2 ?_))))
   refine Z0 Fx.ty9 ?_
   refine sM ?_
   refine Z58 Fx.un9 (idx_ba hi) ?_
   refine Z15 ?_
   refine Z17 ?_ ?_ <;> intro g61
   ·
    iterate 5 refine oF ?_
    refine Z7 ?_
    refine Z4 (AW.condT rfl ?_)
    refine sR (sB ?_)
    exact aR (f1 (q := ⟨_, rfl, rfl⟩))
   refine Z8 Fx.fl35_2 ?_
   refine Z5 Fx.ty9 ?_
   refine Z14 ?_
   refine Z34 Fx.un9 (idx_ba hi) ?_
   refine Z30 ?_
   refine Z6 ?_
   refine Z4 ?_
   refine cD ?_ ?_ <;> intro h67
   ·
    refine sR (sB ?_)
    exact aR (f1 (q := ⟨_, rfl, rfl⟩))
   refine AW.skip (AW.reg (sM ?_))
   refine Z2 ?_
   refine sB ?_
   exact ⟨i + 1, _, by exact wK 68, by omega, hi, rfl⟩
  refine Z8 Fx.fl35_1 ?_
  refine Z5 Fx.ty2 ?_
  refine SeqK.on (q_geq rfl rfl rfl) rfl rfl rfl rfl rfl ?_
  refine Z7 ?_
  refine Z17 ?_ ?_ <;> intro g30
  ·
   refine Z8 Fx.fl35_1 ?_
   refine Z5 Fx.ty2 ?_
   refine Z37 ?_
   refine Z7 ?_
   refine Z4 ?_
   refine cD ?_ ?_ <;> intro h34
   ·
    refine sR (sB ?_)
    exact aR (f1 (q := ⟨_, rfl, rfl⟩))
   refine AW.skip (AW.seq (sR (Z1 Fx.fl35_0 ?_)))
   refine Z0 Fx.ty3 ?_
   refine Z9 ?_
   refine Z17 ?_ ?_ <;> intro g38
   rotate_left
   ·
    iterate 3 refine oF ?_
    refine Z6 ?_
    refine sM ?_
    iterate 4 refine oF ?_
    refine Z6 ?_
    refine Z4 (AW.condF rfl ?_)
    refine AW.skip (sR (sB ?_))
    exact aR (f1 (q := ⟨_, rfl, rfl⟩))
   refine Z8 Fx.fl35_1 ?_
   refine Z5 Fx.ty2 ?_
   refine Z29 ?_
   refine Z7 ?_
   refine Z17 ?_ ?_ <;> intro g43
   rotate_left
   ·
    iterate 4 refine oF ?_
    refine Z6 ?_
    refine Z4 (AW.condF rfl ?_)
    refine AW.skip (sR (sB ?_))
    exact aR (f1 (q := ⟨_, rfl, rfl⟩))
   refine Z8 Fx.fl35_2 ?_
   refine Z5 Fx.ty9 ?_
   refine Z59 Fx.un9 ?_
   refine Z37 ?_
   refine Z7 ?_
   refine Z4 ?_
   refine cD ?_ ?_ <;> intro h48
   rotate_left
   ·
    refine AW.skip (sR (sB ?_))
    exact aR (f1 (q := ⟨_, rfl, rfl⟩))
   refine AW.seq (sR (sB ?_))
   refine AW.block ?_
   refine AW.loop (fun (i : Nat) s => (i ≤ v.s.data.toList.length) ∧ s = ⟨68, sp [(1, .lp 1 0), (2, .c (iC 0)), (3, iX .i64 ((i : Nat) : Int))], lv [(1, .box [.t (.v (.int .i64 v.k)), .t (.v (.int .i64 v.n)), .t (.v (.string v.s))])], H⟩) (fun i => v.s.data.toList.length - i) 0 ⟨_, by exact Wk.keep 68 _ _ _ rfl ⟨rfl, rfl, rfl, trivial⟩ ⟨rfl, trivial⟩ (fun _ _ h => h) rfl, Nat.zero_le _, rfl⟩ (fun i s hs => ?_)
   obtain ⟨hi0, rfl⟩ := hs
   refine AW.seq (sR (sM ?_))
   refine Z1 Fx.fl35_2 ?_
   refine Z0 Fx.ty9 ?_
   refine Z47 Fx.un9 ?_
   refine Z15 ?_
   refine Z4 ?_
   refine cD ?_ ?_ <;> intro h53
   ·
    have hi : i < v.s.data.toList.length := by omega
    refine AW.skip (AW.seq (AW.block (sR (Z1 Fx.fl35_2 ?_))))
    refine Z0 Fx.ty9 ?_
    refine sM ?_
    refine Z58 Fx.un9 (idx_ba hi) ?_
    refine Z15 ?_
    refine Z17 ?_ ?_ <;> intro g61
    ·
     iterate 5 refine oF ?_
     refine Z7 ?_
     refine Z4 (AW.condT rfl ?_)
     refine sR (sB ?_)
     exact aR (f1 (q := ⟨_, rfl, rfl⟩))
    refine Z8 Fx.fl35_2 ?_
    refine Z5 Fx.ty9 ?_
    refine Z14 ?_
    refine Z34 Fx.un9 (idx_ba hi) ?_
    refine Z30 ?_
    refine Z6 ?_
    refine Z4 ?_
    refine cD ?_ ?_ <;> intro h67
    ·
     refine sR (sB ?_)
     exact aR (f1 (q := ⟨_, rfl, rfl⟩))
    refine AW.skip (AW.reg (sM ?_))
    refine Z2 ?_
    refine sB ?_
    exact ⟨i + 1, _, by exact wK 68, by omega, hi, rfl⟩
   refine AW.exit ?_
   refine eth_e ?_
   refine eth_e ?_
   refine exit_here ?_
   refine sR (sB ?_)
   exact aR (f1 (q := ⟨_, rfl, rfl⟩))
  iterate 3 refine oF ?_
  refine Z6 ?_
  refine Z4 (AW.condF rfl ?_)
  refine AW.skip (AW.seq (sR (Z1 Fx.fl35_0 ?_)))
  refine Z0 Fx.ty3 ?_
  refine Z9 ?_
  refine Z17 ?_ ?_ <;> intro g38
  rotate_left
  ·
   iterate 3 refine oF ?_
   refine Z6 ?_
   refine sM ?_
   iterate 4 refine oF ?_
   refine Z6 ?_
   refine Z4 (AW.condF rfl ?_)
   refine AW.skip (sR (sB ?_))
   exact aR (f1 (q := ⟨_, rfl, rfl⟩))
  refine Z8 Fx.fl35_1 ?_
  refine Z5 Fx.ty2 ?_
  refine Z29 ?_
  refine Z7 ?_
  refine Z17 ?_ ?_ <;> intro g43
  rotate_left
  ·
   iterate 4 refine oF ?_
   refine Z6 ?_
   refine Z4 (AW.condF rfl ?_)
   refine AW.skip (sR (sB ?_))
   exact aR (f1 (q := ⟨_, rfl, rfl⟩))
  refine Z8 Fx.fl35_2 ?_
  refine Z5 Fx.ty9 ?_
  refine Z59 Fx.un9 ?_
  refine Z37 ?_
  refine Z7 ?_
  refine Z4 ?_
  refine cD ?_ ?_ <;> intro h48
  rotate_left
  ·
   refine AW.skip (sR (sB ?_))
   exact aR (f1 (q := ⟨_, rfl, rfl⟩))
  refine AW.seq (sR (sB ?_))
  refine AW.block ?_
  refine AW.loop (fun (i : Nat) s => (i ≤ v.s.data.toList.length) ∧ s = ⟨68, sp [(1, .lp 1 0), (2, .c (iC 0)), (3, iX .i64 ((i : Nat) : Int))], lv [(1, .box [.t (.v (.int .i64 v.k)), .t (.v (.int .i64 v.n)), .t (.v (.string v.s))])], H⟩) (fun i => v.s.data.toList.length - i) 0 ⟨_, by exact Wk.keep 68 _ _ _ rfl ⟨rfl, rfl, rfl, trivial⟩ ⟨rfl, trivial⟩ (fun _ _ h => h) rfl, Nat.zero_le _, rfl⟩ (fun i s hs => ?_)
  obtain ⟨hi0, rfl⟩ := hs
  refine AW.seq (sR (sM ?_))
  refine Z1 Fx.fl35_2 ?_
  refine Z0 Fx.ty9 ?_
  refine Z47 Fx.un9 ?_
  refine Z15 ?_
  refine Z4 ?_
  refine cD ?_ ?_ <;> intro h53
  ·
   have hi : i < v.s.data.toList.length := by omega
   refine AW.skip (AW.seq (AW.block (sR (Z1 Fx.fl35_2 ?_))))
   refine Z0 Fx.ty9 ?_
   refine sM ?_
   refine Z58 Fx.un9 (idx_ba hi) ?_
   refine Z15 ?_
   refine Z17 ?_ ?_ <;> intro g61
   ·
    iterate 5 refine oF ?_
    refine Z7 ?_
    refine Z4 (AW.condT rfl ?_)
    refine sR (sB ?_)
    exact aR (f1 (q := ⟨_, rfl, rfl⟩))
   refine Z8 Fx.fl35_2 ?_
   refine Z5 Fx.ty9 ?_
   refine Z14 ?_
   refine Z34 Fx.un9 (idx_ba hi) ?_
   refine Z30 ?_
   refine Z6 ?_
   refine Z4 ?_
   refine cD ?_ ?_ <;> intro h67
   ·
    refine sR (sB ?_)
    exact aR (f1 (q := ⟨_, rfl, rfl⟩))
   refine AW.skip (AW.reg (sM ?_))
   refine Z2 ?_
   refine sB ?_
   exact ⟨i + 1, _, by exact wK 68, by omega, hi, rfl⟩
  refine AW.exit ?_
  refine eth_e ?_
  refine eth_e ?_
  refine exit_here ?_
  refine sR (sB ?_)
  exact aR (f1 (q := ⟨_, rfl, rfl⟩))
 iterate 3 refine oF ?_
 refine Z6 ?_
 refine Z4 (AW.condF rfl ?_)
 refine AW.skip (AW.seq (sR (Z1 Fx.fl35_0 ?_)))
 refine Z0 Fx.ty3 ?_
 refine Z9 ?_
 refine Z17 ?_ ?_ <;> intro g20
 rotate_left
 ·
  iterate 3 refine oF ?_
  refine Z6 ?_
  refine sM ?_
  iterate 3 refine oF ?_
  refine Z6 ?_
  refine sM ?_
  iterate 3 refine oF ?_
  refine Z6 ?_
  refine Z4 (AW.condF rfl ?_)
  refine AW.skip (AW.seq (sR (Z1 Fx.fl35_0 ?_)))
  refine Z0 Fx.ty3 ?_
  refine Z9 ?_
  refine Z17 ?_ ?_ <;> intro g38
  rotate_left
  ·
   iterate 3 refine oF ?_
   refine Z6 ?_
   refine sM ?_
   iterate 4 refine oF ?_
   refine Z6 ?_
   refine Z4 (AW.condF rfl ?_)
   refine AW.skip (sR (sB ?_))
   exact aR (f1 (q := ⟨_, rfl, rfl⟩))
  refine Z8 Fx.fl35_1 ?_
  refine Z5 Fx.ty2 ?_
  refine Z29 ?_
  refine Z7 ?_
  refine Z17 ?_ ?_ <;> intro g43
  rotate_left
  ·
   iterate 4 refine oF ?_
   refine Z6 ?_
   refine Z4 (AW.condF rfl ?_)
   refine AW.skip (sR (sB ?_))
   exact aR (f1 (q := ⟨_, rfl, rfl⟩))
  refine Z8 Fx.fl35_2 ?_
  refine Z5 Fx.ty9 ?_
  refine Z59 Fx.un9 ?_
  refine Z37 ?_
  refine Z7 ?_
  refine Z4 ?_
  refine cD ?_ ?_ <;> intro h48
  rotate_left
  ·
   refine AW.skip (sR (sB ?_))
   exact aR (f1 (q := ⟨_, rfl, rfl⟩))
  refine AW.seq (sR (sB ?_))
  refine AW.block ?_
  refine AW.loop (fun (i : Nat) s => (i ≤ v.s.data.toList.length) ∧ s = ⟨68, sp [(1, .lp 1 0), (2, .c (iC 0)), (3, iX .i64 ((i : Nat) : Int))], lv [(1, .box [.t (.v (.int .i64 v.k)), .t (.v (.int .i64 v.n)), .t (.v (.string v.s))])], H⟩) (fun i => v.s.data.toList.length - i) 0 ⟨_, by exact Wk.keep 68 _ _ _ rfl ⟨rfl, rfl, rfl, trivial⟩ ⟨rfl, trivial⟩ (fun _ _ h => h) rfl, Nat.zero_le _, rfl⟩ (fun i s hs => ?_)
  obtain ⟨hi0, rfl⟩ := hs
  refine AW.seq (sR (sM ?_))
  refine Z1 Fx.fl35_2 ?_
  refine Z0 Fx.ty9 ?_
  refine Z47 Fx.un9 ?_
  refine Z15 ?_
  refine Z4 ?_
  refine cD ?_ ?_ <;> intro h53
  rotate_left
  ·
   refine AW.exit ?_
   refine eth_e ?_
   refine eth_e ?_
   refine exit_here ?_
   refine sR (sB ?_)
   exact aR (f1 (q := ⟨_, rfl, rfl⟩))
  have hi : i < v.s.data.toList.length := by omega
  refine AW.skip (AW.seq (AW.block (sR (Z1 Fx.fl35_2 ?_))))
  refine Z0 Fx.ty9 ?_
  refine sM ?_
  refine Z58 Fx.un9 (idx_ba hi) ?_
  refine Z15 ?_
  refine Z17 ?_ ?_ <;> intro g61
  ·
   iterate 5 refine oF ?_
   refine Z7 ?_
   refine Z4 (AW.condT rfl ?_)
   refine sR (sB ?_)
   exact aR (f1 (q := ⟨_, rfl, rfl⟩))
  refine Z8 Fx.fl35_2 ?_
  refine Z5 Fx.ty9 ?_
  refine Z14 ?_
  refine Z34 Fx.un9 (idx_ba hi) ?_
  refine Z30 ?_
  refine Z6 ?_
  refine Z4 ?_
  refine cD ?_ ?_ <;> intro h67
  ·
   refine sR (sB ?_)
   exact aR (f1 (q := ⟨_, rfl, rfl⟩))
  refine AW.skip (AW.reg (sM ?_))
  refine Z2 ?_
  refine sB ?_
  exact ⟨i + 1, _, by exact wK 68, by omega, hi, rfl⟩
 refine Z8 Fx.fl35_2 ?_
 refine Z5 Fx.ty9 ?_
 refine SeqK.on (q_eqlS rfl rfl rfl) rfl rfl rfl rfl rfl ?_
 refine Z7 ?_
 refine Z17 ?_ ?_ <;> intro g25
 rotate_left
 ·
  iterate 3 refine oF ?_
  refine Z6 ?_
  refine sM ?_
  iterate 3 refine oF ?_
  refine Z6 ?_
  refine Z4 (AW.condF rfl ?_)
  refine AW.skip (AW.seq (sR (Z1 Fx.fl35_0 ?_)))
  refine Z0 Fx.ty3 ?_
  refine Z9 ?_
  refine Z17 ?_ ?_ <;> intro g38
  rotate_left
  ·
   iterate 3 refine oF ?_
   refine Z6 ?_
   refine sM ?_
   iterate 4 refine oF ?_
   refine Z6 ?_
   refine Z4 (AW.condF rfl ?_)
   refine AW.skip (sR (sB ?_))
   exact aR (f1 (q := ⟨_, rfl, rfl⟩))
  refine Z8 Fx.fl35_1 ?_
  refine Z5 Fx.ty2 ?_
  refine Z29 ?_
  refine Z7 ?_
  refine Z17 ?_ ?_ <;> intro g43
  rotate_left
  ·
   iterate 4 refine oF ?_
   refine Z6 ?_
   refine Z4 (AW.condF rfl ?_)
   refine AW.skip (sR (sB ?_))
   exact aR (f1 (q := ⟨_, rfl, rfl⟩))
  refine Z8 Fx.fl35_2 ?_
  refine Z5 Fx.ty9 ?_
  refine Z59 Fx.un9 ?_
  refine Z37 ?_
  refine Z7 ?_
  refine Z4 ?_
  refine cD ?_ ?_ <;> intro h48
  rotate_left
  ·
   refine AW.skip (sR (sB ?_))
   exact aR (f1 (q := ⟨_, rfl, rfl⟩))
  refine AW.seq (sR (sB ?_))
  refine AW.block ?_
  refine AW.loop (fun (i : Nat) s => (i ≤ v.s.data.toList.length) ∧ s = ⟨68, sp [(1, .lp 1 0), (2, .c (iC 0)), (3, iX .i64 ((i : Nat) : Int))], lv [(1, .box [.t (.v (.int .i64 v.k)), .t (.v (.int .i64 v.n)), .t (.v (.string v.s))])], H⟩) (fun i => v.s.data.toList.length - i) 0 ⟨_, by exact Wk.keep 68 _ _ _ rfl ⟨rfl, rfl, rfl, trivial⟩ ⟨rfl, trivial⟩ (fun _ _ h => h) rfl, Nat.zero_le _, rfl⟩ (fun i s hs => ?_)
  obtain ⟨hi0, rfl⟩ := hs
  refine AW.seq (sR (sM ?_))
  refine Z1 Fx.fl35_2 ?_
  refine Z0 Fx.ty9 ?_
  refine Z47 Fx.un9 ?_
  refine Z15 ?_
  refine Z4 ?_
  refine cD ?_ ?_ <;> intro h53
  rotate_left
  ·
   refine AW.exit ?_
   refine eth_e ?_
   refine eth_e ?_
   refine exit_here ?_
   refine sR (sB ?_)
   exact aR (f1 (q := ⟨_, rfl, rfl⟩))
  have hi : i < v.s.data.toList.length := by omega
  refine AW.skip (AW.seq (AW.block (sR (Z1 Fx.fl35_2 ?_))))
  refine Z0 Fx.ty9 ?_
  refine sM ?_
  refine Z58 Fx.un9 (idx_ba hi) ?_
  refine Z15 ?_
  refine Z17 ?_ ?_ <;> intro g61
  ·
   iterate 5 refine oF ?_
   refine Z7 ?_
   refine Z4 (AW.condT rfl ?_)
   refine sR (sB ?_)
   exact aR (f1 (q := ⟨_, rfl, rfl⟩))
  refine Z8 Fx.fl35_2 ?_
  refine Z5 Fx.ty9 ?_
  refine Z14 ?_
  refine Z34 Fx.un9 (idx_ba hi) ?_
  refine Z30 ?_
  refine Z6 ?_
  refine Z4 ?_
  refine cD ?_ ?_ <;> intro h67
  ·
   refine sR (sB ?_)
   exact aR (f1 (q := ⟨_, rfl, rfl⟩))
  refine AW.skip (AW.reg (sM ?_))
  refine Z2 ?_
  refine sB ?_
  exact ⟨i + 1, _, by exact wK 68, by omega, hi, rfl⟩
 refine Z8 Fx.fl35_1 ?_
 refine Z5 Fx.ty2 ?_
 refine SeqK.on (q_geq rfl rfl rfl) rfl rfl rfl rfl rfl ?_
 refine Z7 ?_
 refine Z17 ?_ ?_ <;> intro g30
 ·
  refine Z8 Fx.fl35_1 ?_
  refine Z5 Fx.ty2 ?_
  refine Z37 ?_
  refine Z7 ?_
  refine Z4 ?_
  refine cD ?_ ?_ <;> intro h34
  ·
   refine sR (sB ?_)
   exact aR (f1 (q := ⟨_, rfl, rfl⟩))
  refine AW.skip (AW.seq (sR (Z1 Fx.fl35_0 ?_)))
  refine Z0 Fx.ty3 ?_
  refine Z9 ?_
  refine Z17 ?_ ?_ <;> intro g38
  rotate_left
  ·
   iterate 3 refine oF ?_
   refine Z6 ?_
   refine sM ?_
   iterate 4 refine oF ?_
   refine Z6 ?_
   refine Z4 (AW.condF rfl ?_)
   refine AW.skip (sR (sB ?_))
   exact aR (f1 (q := ⟨_, rfl, rfl⟩))
  refine Z8 Fx.fl35_1 ?_
  refine Z5 Fx.ty2 ?_
  refine Z29 ?_
  refine Z7 ?_
  refine Z17 ?_ ?_ <;> intro g43
  rotate_left
  ·
   iterate 4 refine oF ?_
   refine Z6 ?_
   refine Z4 (AW.condF rfl ?_)
   refine AW.skip (sR (sB ?_))
   exact aR (f1 (q := ⟨_, rfl, rfl⟩))
  refine Z8 Fx.fl35_2 ?_
  refine Z5 Fx.ty9 ?_
  refine Z59 Fx.un9 ?_
  refine Z37 ?_
  refine Z7 ?_
  refine Z4 ?_
  refine cD ?_ ?_ <;> intro h48
  rotate_left
  ·
   refine AW.skip (sR (sB ?_))
   exact aR (f1 (q := ⟨_, rfl, rfl⟩))
  refine AW.seq (sR (sB ?_))
  refine AW.block ?_
  refine AW.loop (fun (i : Nat) s => (i ≤ v.s.data.toList.length) ∧ s = ⟨68, sp [(1, .lp 1 0), (2, .c (iC 0)), (3, iX .i64 ((i : Nat) : Int))], lv [(1, .box [.t (.v (.int .i64 v.k)), .t (.v (.int .i64 v.n)), .t (.v (.string v.s))])], H⟩) (fun i => v.s.data.toList.length - i) 0 ⟨_, by exact Wk.keep 68 _ _ _ rfl ⟨rfl, rfl, rfl, trivial⟩ ⟨rfl, trivial⟩ (fun _ _ h => h) rfl, Nat.zero_le _, rfl⟩ (fun i s hs => ?_)
  obtain ⟨hi0, rfl⟩ := hs
  refine AW.seq (sR (sM ?_))
  refine Z1 Fx.fl35_2 ?_
  refine Z0 Fx.ty9 ?_
  refine Z47 Fx.un9 ?_
  refine Z15 ?_
  refine Z4 ?_
  refine cD ?_ ?_ <;> intro h53
  ·
   have hi : i < v.s.data.toList.length := by omega
   refine AW.skip (AW.seq (AW.block (sR (Z1 Fx.fl35_2 ?_))))
   refine Z0 Fx.ty9 ?_
   refine sM ?_
   refine Z58 Fx.un9 (idx_ba hi) ?_
   refine Z15 ?_
   refine Z17 ?_ ?_ <;> intro g61
   ·
    iterate 5 refine oF ?_
    refine Z7 ?_
    refine Z4 (AW.condT rfl ?_)
    refine sR (sB ?_)
    exact aR (f1 (q := ⟨_, rfl, rfl⟩))
   refine Z8 Fx.fl35_2 ?_
   refine Z5 Fx.ty9 ?_
   refine Z14 ?_
   refine Z34 Fx.un9 (idx_ba hi) ?_
   refine Z30 ?_
   refine Z6 ?_
   refine Z4 ?_
   refine cD ?_ ?_ <;> intro h67
   ·
    refine sR (sB ?_)
    exact aR (f1 (q := ⟨_, rfl, rfl⟩))
   refine AW.skip (AW.reg (sM ?_))
   refine Z2 ?_
   refine sB ?_
   exact ⟨i + 1, _, by exact wK 68, by omega, hi, rfl⟩
  refine AW.exit ?_
  refine eth_e ?_
  refine eth_e ?_
  refine exit_here ?_
  refine sR (sB ?_)
  exact aR (f1 (q := ⟨_, rfl, rfl⟩))
 iterate 3 refine oF ?_
 refine Z6 ?_
 refine Z4 (AW.condF rfl ?_)
 refine AW.skip (AW.seq (sR (Z1 Fx.fl35_0 ?_)))
 refine Z0 Fx.ty3 ?_
 refine Z9 ?_
 refine Z17 ?_ ?_ <;> intro g38
 rotate_left
 ·
  iterate 3 refine oF ?_
  refine Z6 ?_
  refine sM ?_
  iterate 4 refine oF ?_
  refine Z6 ?_
  refine Z4 (AW.condF rfl ?_)
  refine AW.skip (sR (sB ?_))
  exact aR (f1 (q := ⟨_, rfl, rfl⟩))
 refine Z8 Fx.fl35_1 ?_
 refine Z5 Fx.ty2 ?_
 refine Z29 ?_
 refine Z7 ?_
 refine Z17 ?_ ?_ <;> intro g43
 rotate_left
 ·
  iterate 4 refine oF ?_
  refine Z6 ?_
  refine Z4 (AW.condF rfl ?_)
  refine AW.skip (sR (sB ?_))
  exact aR (f1 (q := ⟨_, rfl, rfl⟩))
 refine Z8 Fx.fl35_2 ?_
 refine Z5 Fx.ty9 ?_
 refine Z59 Fx.un9 ?_
 refine Z37 ?_
 refine Z7 ?_
 refine Z4 ?_
 refine cD ?_ ?_ <;> intro h48
 rotate_left
 ·
  refine AW.skip (sR (sB ?_))
  exact aR (f1 (q := ⟨_, rfl, rfl⟩))
 refine AW.seq (sR (sB ?_))
 refine AW.block ?_
 refine AW.loop (fun (i : Nat) s => (i ≤ v.s.data.toList.length) ∧ s = ⟨68, sp [(1, .lp 1 0), (2, .c (iC 0)), (3, iX .i64 ((i : Nat) : Int))], lv [(1, .box [.t (.v (.int .i64 v.k)), .t (.v (.int .i64 v.n)), .t (.v (.string v.s))])], H⟩) (fun i => v.s.data.toList.length - i) 0 ⟨_, by exact Wk.keep 68 _ _ _ rfl ⟨rfl, rfl, rfl, trivial⟩ ⟨rfl, trivial⟩ (fun _ _ h => h) rfl, Nat.zero_le _, rfl⟩ (fun i s hs => ?_)
 obtain ⟨hi0, rfl⟩ := hs
 refine AW.seq (sR (sM ?_))
 refine Z1 Fx.fl35_2 ?_
 refine Z0 Fx.ty9 ?_
 refine Z47 Fx.un9 ?_
 refine Z15 ?_
 refine Z4 ?_
 refine cD ?_ ?_ <;> intro h53
 rotate_left
 ·
  refine AW.exit ?_
  refine eth_e ?_
  refine eth_e ?_
  refine exit_here ?_
  refine sR (sB ?_)
  exact aR (f1 (q := ⟨_, rfl, rfl⟩))
 have hi : i < v.s.data.toList.length := by omega
 refine AW.skip (AW.seq (AW.block (sR (Z1 Fx.fl35_2 ?_))))
 refine Z0 Fx.ty9 ?_
 refine sM ?_
 refine Z58 Fx.un9 (idx_ba hi) ?_
 refine Z15 ?_
 refine Z17 ?_ ?_ <;> intro g61
 ·
  iterate 5 refine oF ?_
  refine Z7 ?_
  refine Z4 (AW.condT rfl ?_)
  refine sR (sB ?_)
  exact aR (f1 (q := ⟨_, rfl, rfl⟩))
 refine Z8 Fx.fl35_2 ?_
 refine Z5 Fx.ty9 ?_
 refine Z14 ?_
 refine Z34 Fx.un9 (idx_ba hi) ?_
 refine Z30 ?_
 refine Z6 ?_
 refine Z4 ?_
 refine cD ?_ ?_ <;> intro h67
 ·
  refine sR (sB ?_)
  exact aR (f1 (q := ⟨_, rfl, rfl⟩))
 refine AW.skip (AW.reg (sM ?_))
 refine Z2 ?_
 refine sB ?_
 exact ⟨i + 1, _, by exact wK 68, by omega, hi, rfl⟩
theorem row_any (l : List Vr) (r : List RV) (z z2 : Nz) (hl : r.length ≤ 1000000000000) (hs : ∀ v ∈ r, v.s.size ≤ 1000000000000000) (H : Heap) : E.Spec Tryz.prog 13 [vsC z l, rowC z2 r] H fun x H' => ∃ b, x = .c (bC b) ∧ (b = true → rowP l r) ∧ H' = H := by
 refine Spec.enter Tryz.func13 rfl ?_
 refine AW.wk (wK 75 (l := [(0, .c (vsC z l)), (1, .c (rowC z2 r))]) (ll := []) (H := (H))) ?_
 refine D1 ?_
 refine AW.seq (D6 ?_)
 refine cD ?_ ?_ <;> intro h11
 ·
  refine D1 ?_
  exact aR (f1 (q := ⟨_, rfl, fun h => (by cases h), rfl⟩))
 refine AW.skip (AW.seq (D1 ?_))
 refine AW.block (AW.loop (fun (i : Nat) s => (i ≤ r.length ∧ ∀ j (h : j < r.length), j < i → r[j].k = 0 ∨ r[j].k = (l.getD j v0).ty) ∧ s = ⟨75, sp [(0, .c (vsC z l)), (1, .c (rowC z2 r)), (4, .c (bC false)), (5, nX i)], lv [], H⟩) (fun i => r.length - i) 0 ⟨_, by exact wK 75, ⟨qZ _, up0⟩, rfl⟩ (fun i s hs => ?_))
 obtain ⟨⟨hi0, hU⟩, rfl⟩ := hs
 refine AW.seq (D5 ?_)
 refine cD ?_ ?_ <;> intro h15
 rotate_left
 ·
  refine AW.exit ?_
  refine eth_e ?_
  refine eth_e ?_
  refine exit_here ?_
  refine D1 ?_
  exact aR (f1 (q := ⟨_, rfl, fun _ => ⟨by (try simp only [qA] at h11); omega, upE hU (by (try rw [qA] at h15); omega)⟩, rfl⟩))
 have hi := oI h15
 have hlen : r.length = l.length := by (try simp only [qA] at h11); omega
 have hil : i < l.length := by omega
 have hgd : l.getD i v0 = l[i] := getD_at hil
 refine AW.skip (AW.seq (AW.block (D7 ?_)))
 refine D3 ?_
 refine AW.block (D2 ?_)
 refine cD ?_ ?_ <;> intro h24
 ·
  refine D3 ?_
  refine Z17 ?_ ?_ <;> intro g29
  ·
   iterate 3 refine oF ?_
   refine G2 ?_
   refine AW.condT rfl ?_
   refine D1 ?_
   exact aR (f1 (q := ⟨_, rfl, fun h => (by cases h), rfl⟩))
  refine G2 ?_
  refine sO (q_neqS rfl rfl rfl) ?_
  refine G2 ?_
  refine cD ?_ ?_ <;> intro h33
  ·
   refine D1 ?_
   exact aR (f1 (q := ⟨_, rfl, fun h => (by cases h), rfl⟩))
  refine AW.skip (B3 ?_)
  exact ⟨i + 1, _, by exact wK 75, by omega, ⟨hi, upS hi hU (by first | exact .inl (by assumption) | exact .inr (by rw [hgd]; omega))⟩, rfl⟩
 refine D2 ?_
 refine cD ?_ ?_ <;> intro h34
 ·
  refine D6 ?_
  refine Z17 ?_ ?_ <;> intro g42
  ·
   iterate 3 refine oF ?_
   refine G2 ?_
   iterate 3 refine oF ?_
   refine G2 ?_
   iterate 3 refine oF ?_
   refine G2 ?_
   refine AW.condT rfl ?_
   refine D1 ?_
   exact aR (f1 (q := ⟨_, rfl, fun h => (by cases h), rfl⟩))
  refine G2 ?_
  refine sO (q_neqS rfl rfl rfl) ?_
  refine Z6 ?_
  refine Z17 ?_ ?_ <;> intro g47
  ·
   iterate 3 refine oF ?_
   refine G2 ?_
   iterate 3 refine oF ?_
   refine G2 ?_
   refine AW.condT rfl ?_
   refine D1 ?_
   exact aR (f1 (q := ⟨_, rfl, fun h => (by cases h), rfl⟩))
  refine G2 ?_
  refine sO (q_lss rfl rfl rfl) ?_
  refine Z6 ?_
  refine Z17 ?_ ?_ <;> intro g52
  ·
   iterate 3 refine oF ?_
   refine G2 ?_
   refine AW.condT rfl ?_
   refine D1 ?_
   exact aR (f1 (q := ⟨_, rfl, fun h => (by cases h), rfl⟩))
  refine G5 ?_
  refine cD ?_ ?_ <;> intro h56
  ·
   refine D1 ?_
   exact aR (f1 (q := ⟨_, rfl, fun h => (by cases h), rfl⟩))
  refine AW.skip (B3 ?_)
  exact ⟨i + 1, _, by exact wK 75, by omega, ⟨hi, upS hi hU (by first | exact .inl (by assumption) | exact .inr (by rw [hgd]; omega))⟩, rfl⟩
 refine D2 ?_
 refine cD ?_ ?_ <;> intro h57
 rotate_left
 ·
  refine D1 ?_
  exact aR (f1 (q := ⟨_, rfl, fun h => (by cases h), rfl⟩))
 refine D6 ?_
 refine Z17 ?_ ?_ <;> intro g65
 ·
  iterate 3 refine oF ?_
  refine G2 ?_
  iterate 3 refine oF ?_
  refine G2 ?_
  refine AW.condT rfl ?_
  refine D1 ?_
  exact aR (f1 (q := ⟨_, rfl, fun h => (by cases h), rfl⟩))
 refine G4 ?_
 refine Z17 ?_ ?_ <;> intro g70
 ·
  iterate 3 refine oF ?_
  refine G2 ?_
  refine AW.condT rfl ?_
  refine D1 ?_
  exact aR (f1 (q := ⟨_, rfl, fun h => (by cases h), rfl⟩))
 refine G1 ?_
 refine SeqK.callOn rfl rfl rfl rfl rfl rfl fn34 rfl (literalR_any _ (hs _ (qC hi)) _) (fun _ _ h => by obtain ⟨_, h, _⟩ := h; rw [h]; rfl) (fun x72 H72 q72 => ?_)
 obtain ⟨n72, rfl, e72⟩ := q72
 replace e72 := e72.symm
 subst e72
 refine G3 ?_
 refine cD ?_ ?_ <;> intro h74
 ·
  refine D1 ?_
  exact aR (f1 (q := ⟨_, rfl, fun h => (by cases h), rfl⟩))
 refine AW.skip (B3 ?_)
 exact ⟨i + 1, _, by exact wK 75, by omega, ⟨hi, upS hi hU (by first | exact .inl (by assumption) | exact .inr (by rw [hgd]; omega))⟩, rfl⟩
open Q
theorem vars_len {d : List Tb} {st : St} (hd : okDb d) (hk : st.k = 5) (h : (binP d st).2 = 0) : (binP d st).1.vars.length ≤ 1000000000 := by
  rw [bin_q hk] at h ⊢
  unfold qryB at h ⊢
  dsimp only at h ⊢
  by_cases h1 : 3 < st.frm.length
  · rw [if_pos h1] at h; cases h
  rw [if_neg h1] at h ⊢
  by_cases h2 : (frB d st.frm [] [] []).2.2.2 ≠ 0
  · rw [if_pos h2] at h; exact absurd h h2
  rw [if_neg h2] at h ⊢
  obtain ⟨_, k2⟩ := fr_ok (s := d) (C := 1000000) (fun t ht => (hd.tb t ht).cl) st.frm [] [] [] (qY.1 h2)
  rw [qQ, Nat.zero_add] at k2
  have k3 : st.frm.length * 1000000 ≤ 3 * 1000000 := Nat.mul_le_mul_right _ (by omega)
  split
  · exact qZ _
  split
  · exact qZ _
  split
  · exact qZ _
  split
  · exact qZ _
  split
  · exact qZ _
  dsimp only
  omega
theorem values_law (d : List Tb) (z : Nz) (st : St) (z2 : Nz) (r : List RV) (ok : okLw d st) (hl : r.length ≤ 1000000000000) (hs : ∀ v ∈ r, v.s.size ≤ 1000000000000000) : Pu 5 [scC z d, stC st, rowC z2 r] (.c (bC true)) := by
 intro H
 refine Spec.enter Tryz.func5 rfl ?_
 refine AW.wk (wK 105 (l := [(0, .c (scC z d)), (1, .c (stC st)), (2, .c (rowC z2 r))]) (ll := []) (H := (H))) ?_
 refine D2 ?_
 refine AW.seq (sR (Z16 fn6 (awake_t) ?_))
 refine G2 ?_
 refine AW.condF rfl ?_
 refine AW.skip (AW.seq (D2 ?_))
 refine SeqK.callE rfl rfl rfl rfl fn7 rfl (small_q d z st ok.dl ok.dk ok.oi _) (fun _ _ h => by obtain ⟨_, h, _⟩ := h; rw [h]; rfl) (fun x20 H20 q20 => ?_)
 obtain ⟨b20, rfl, hb20, e20⟩ := q20
 replace e20 := e20.symm
 subst e20
 refine Z38 ?_
 refine Z53 ?_ ?_ <;> intro g22
 ·
  iterate 3 refine oF ?_
  refine G2 ?_
  refine AW.condT rfl ?_
  refine D1 ?_
  exact aR (f1 (q := ⟨rfl, rfl⟩))
 have hbt : b20 = true := bnf g22
 obtain ⟨w1, w2, w3, w4⟩ := hb20 hbt
 have hsq := smQ_of w3
 have hdb := okDb_of w1 w2
 have hst := okSt_of ok hsq w4
 have hrg := okRg_of ok hsq
 refine G5 ?_
 refine cD ?_ ?_ <;> intro h26
 ·
  refine D1 ?_
  exact aR (f1 (q := ⟨rfl, rfl⟩))
 refine AW.skip (D2 ?_)
 refine Z16 fn11 (binder_any d z st hdb hst) ?_
 refine G6 ?_
 refine AW.seq (D2 ?_)
 refine Z17 ?_ ?_ <;> intro g35
 ·
  iterate 5 refine oF ?_
  refine G2 ?_
  refine AW.condT rfl ?_
  refine D1 ?_
  exact aR (f1 (q := ⟨rfl, rfl⟩))
 have h0 : (binP d st).2 = 0 := qY.1 g35
 have hk5 : st.k = 5 := by omega
 have hob := bin_ok hdb hst hrg h0
 have hvl := vars_len hdb hk5 h0
 refine G3 ?_
 refine SeqK.callOn rfl rfl rfl rfl rfl rfl fn13 rfl (row_any (binP d st).1.vars r .un z2 hl hs _) (fun _ _ h => by obtain ⟨_, h, _⟩ := h; rw [h]; rfl) (fun x39 H39 q39 => ?_)
 obtain ⟨b39, rfl, hb39, e39⟩ := q39
 replace e39 := e39.symm
 subst e39
 refine G3 ?_
 refine AW.cond _ rfl (fun h41 => ?_) (fun h41 => ?_)
 ·
  refine D1 ?_
  exact aR (f1 (q := ⟨rfl, rfl⟩))
 have hrt : b39 = true := bnf h41
 have hv := val_ok hdb hst hk5 h0 (hb39 hrt)
 have hil := hob.st.qr.il
 refine AW.skip (AW.seq (D4 ?_))
 refine AW.block (AW.loop (fun (i : Nat) s => (i ≤ r.length) ∧ s = ⟨105, sp [(2, .c (rowC z2 r)), (4, .lp 4 0), (7, .lp 7 0), (42, .c (rowC z2 r)), (43, iX .i64 (((r.map rvT).length : Nat) : Int)), (44, nX i)], lv [(4, .box (zSt st)), (7, .box [.t (.v (.int .i64 (binP d st).1.st.k)), .t (.v (.string (binP d st).1.st.tb)), .t (.sl .un 6 ((binP d st).1.st.cr.cols.map coT)), .t (.sl .un 1 ((binP d st).1.st.cr.keys.map sLT)), .t (.sl .un 3 ((binP d st).1.st.cr.fks.map rfT)), .t (.sl .un 8 ((binP d st).1.st.cr.chks.map exT')), .t (.sl .un 1 ((binP d st).1.st.vals.map exLT)), .t (.sl .un 10 ((binP d st).1.st.sets.map asT)), .t (.sl .un 9 ((binP d st).1.st.its.map itT)), .t (.sl .un 2 ((binP d st).1.st.frm.map frT)), .t (.v (.int .i64 (binP d st).1.st.wh.op)), .t (.v (.string (binP d st).1.st.wh.tb)), .t (.v (.string (binP d st).1.st.wh.nm)), .t (.v (.int .i64 (binP d st).1.st.wh.ix)), .t (.v (.int .i64 (binP d st).1.st.wh.vk)), .t (.v (.int .i64 (binP d st).1.st.wh.vn)), .t (.v (.string (binP d st).1.st.wh.vs)), .t (.sl .un 8 ((binP d st).1.st.wh.args.map exT')), .t (.sl .un 8 ((binP d st).1.st.grp.map exT')), .t (.sl .un 2 ((binP d st).1.st.ord.map odT)), .t (.v (.int .i64 (binP d st).1.st.lim)), .t (.v (.string (binP d st).1.st.nm)), .t (.v (.int .i64 (binP d st).1.tab)), .t (.sl .un 1 ((binP d st).1.tabs.map i64T)), .t (.sl .un 5 ((binP d st).1.vars.map vrT)), .t (.sl .un 1 ((binP d st).1.rows.map rowT))])], H⟩) (fun i => r.length - i) 0 ⟨_, by exact wK 105, qZ _, rfl⟩ (fun i s hs => ?_))
 obtain ⟨hi0, rfl⟩ := hs
 refine D2 ?_
 refine AW.seq ?_
 refine cD ?_ ?_ <;> intro h45
 ·
  have hi := oI h45
  refine AW.skip (AW.seq (AW.block (D5 ?_)))
  refine D3 ?_
  refine Z17 ?_ ?_ <;> intro g51
  rotate_left
  ·
   iterate 4 refine oF ?_
   iterate 3 refine oU ?_
   refine G9 ?_
   refine cD ?_ ?_ <;> intro h66
   ·
    refine D1 ?_
    exact aR (f1 (q := ⟨rfl, rfl⟩))
   refine AW.skip (B3 ?_)
   exact ⟨i + 1, _, by exact wK 105, by omega, hi, rfl⟩
  refine G2 ?_
  refine sO (q_lss rfl rfl rfl) ?_
  refine Z48 ?_ ?_ <;> intro g55
  ·
   iterate 3 refine oF ?_
   refine G3 ?_
   iterate 4 refine oF ?_
   refine G2 ?_
   refine AW.condT rfl ?_
   refine D1 ?_
   exact aR (f1 (q := ⟨rfl, rfl⟩))
  refine G5 ?_
  refine Z17 ?_ ?_ <;> intro g61
  ·
   iterate 4 refine oF ?_
   refine G2 ?_
   refine AW.condT rfl ?_
   refine D1 ?_
   exact aR (f1 (q := ⟨rfl, rfl⟩))
  refine G6 ?_
  refine cD ?_ ?_ <;> intro h66
  ·
   refine D1 ?_
   exact aR (f1 (q := ⟨rfl, rfl⟩))
  refine AW.skip (B3 ?_)
  exact ⟨i + 1, _, by exact wK 105, by omega, hi, rfl⟩
 refine AW.exit ?_
 refine eth_e ?_
 refine eth_e ?_
 refine exit_here ?_
 refine AW.seq (D6 ?_)
 refine AW.block (AW.loop (fun (i : Nat) s => (i ≤ (binP d st).1.st.its.length) ∧ s = ⟨105, sp [(2, .c (rowC z2 r)), (4, .lp 4 0), (7, .lp 7 0), (70, .c (itsC .un (binP d st).1.st.its)), (71, iX .i64 ((((binP d st).1.st.its.map itT).length : Nat) : Int)), (72, nX i)], lv [(4, .box (zSt st)), (7, .box [.t (.v (.int .i64 (binP d st).1.st.k)), .t (.v (.string (binP d st).1.st.tb)), .t (.sl .un 6 ((binP d st).1.st.cr.cols.map coT)), .t (.sl .un 1 ((binP d st).1.st.cr.keys.map sLT)), .t (.sl .un 3 ((binP d st).1.st.cr.fks.map rfT)), .t (.sl .un 8 ((binP d st).1.st.cr.chks.map exT')), .t (.sl .un 1 ((binP d st).1.st.vals.map exLT)), .t (.sl .un 10 ((binP d st).1.st.sets.map asT)), .t (.sl .un 9 ((binP d st).1.st.its.map itT)), .t (.sl .un 2 ((binP d st).1.st.frm.map frT)), .t (.v (.int .i64 (binP d st).1.st.wh.op)), .t (.v (.string (binP d st).1.st.wh.tb)), .t (.v (.string (binP d st).1.st.wh.nm)), .t (.v (.int .i64 (binP d st).1.st.wh.ix)), .t (.v (.int .i64 (binP d st).1.st.wh.vk)), .t (.v (.int .i64 (binP d st).1.st.wh.vn)), .t (.v (.string (binP d st).1.st.wh.vs)), .t (.sl .un 8 ((binP d st).1.st.wh.args.map exT')), .t (.sl .un 8 ((binP d st).1.st.grp.map exT')), .t (.sl .un 2 ((binP d st).1.st.ord.map odT)), .t (.v (.int .i64 (binP d st).1.st.lim)), .t (.v (.string (binP d st).1.st.nm)), .t (.v (.int .i64 (binP d st).1.tab)), .t (.sl .un 1 ((binP d st).1.tabs.map i64T)), .t (.sl .un 5 ((binP d st).1.vars.map vrT)), .t (.sl .un 1 ((binP d st).1.rows.map rowT))])], H⟩) (fun i => (binP d st).1.st.its.length - i) 0 ⟨_, by exact wK 105, qZ _, rfl⟩ (fun i s hs => ?_))
 obtain ⟨hi0, rfl⟩ := hs
 refine D2 ?_
 refine AW.seq ?_
 refine cD ?_ ?_ <;> intro h73
 rotate_left
 ·
  refine AW.exit ?_
  refine eth_e ?_
  refine eth_e ?_
  refine exit_here ?_
  refine D1 ?_
  exact aR (f1 (q := ⟨rfl, rfl⟩))
 have hi := oI h73
 refine AW.skip (AW.seq (AW.block (D5 ?_)))
 refine AW.seq (D4 ?_)
 refine cD ?_ ?_ <;> intro h78
 ·
  refine AW.exit ?_
  refine eth_e ?_
  refine exit_here ?_
  refine B3 ?_
  exact ⟨i + 1, _, by exact wK 105, by omega, hi, rfl⟩
 have hx := hv (binP d st).1.st.its[i] (qC hi) h78
 refine AW.skip (D4 ?_)
 refine Z16 fn14 (type_any _ (binP d st).1.vars .un hvl hx.gd) ?_
 refine G5 ?_
 refine D3 ?_
 refine Z16 fn15 (rvalue_any r z2 hs hx.ev hx.gd.fm hx.gd.ts) ?_
 refine G3 ?_
 refine D2 ?_
 refine Z17 ?_ ?_ <;> intro g93
 ·
  iterate 4 refine oF ?_
  iterate 4 refine oU ?_
  refine G3 ?_
  refine AW.condT rfl ?_
  refine D1 ?_
  exact aR (f1 (q := (by first | exact absurd hx.er g93 | (have k := hx.ty; exfalso; omega))))
 refine G3 ?_
 refine Z48 ?_ ?_ <;> intro g97
 ·
  refine G7 ?_
  refine cD ?_ ?_ <;> intro h103
  ·
   refine D1 ?_
   exact aR (f1 (q := (by first | exact absurd hx.er g93 | (have k := hx.ty; exfalso; omega))))
  refine AW.skip (B3 ?_)
  exact ⟨i + 1, _, by exact wK 105, by omega, hi, rfl⟩
 iterate 4 refine oF ?_
 refine G3 ?_
 refine AW.condF rfl ?_
 refine AW.skip (B3 ?_)
 exact ⟨i + 1, _, by exact wK 105, by omega, hi, rfl⟩
theorem values_law2 (d : List Tb) (z : Nz) (st : St) (z2 : Nz) (r : List RV) (ok : okLw d st) (hl : r.length ≤ 1000000000000) (hs : ∀ v ∈ r, v.s.size ≤ 1000000000000000) : E.Spec Tryz.prog 5 [scC z d, stC st, rowC z2 r] (fun _ => none) fun x _ => x = tv (.bool true) := (values_law d z st z2 r ok hl hs (fun _ => none)).mono fun _ _ h => h.1
end Go.Proofs.YtgnnjebfoffphaaGreatDoor.W
