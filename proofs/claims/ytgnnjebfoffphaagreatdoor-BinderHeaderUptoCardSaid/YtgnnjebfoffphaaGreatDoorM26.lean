import Derived.Test.YtgnnjebfoffphaaGreatDoorM25
set_option maxRecDepth 20000
set_option maxHeartbeats 16000000
set_option linter.unusedSectionVars false
set_option linter.unusedSimpArgs false
set_option linter.unusedVariables false
namespace Go.Proofs.YtgnnjebfoffphaaGreatDoor.W
open Fx
open Go.RowKit E M
open Q
theorem rupdate_any (d : List Tb) (z : Nz) (st : St) (hd : okDb d) (hst : okCh st) (hx : (∀ x ∈ st.its, itH x) ∧ st.its.length ≤ 1000000) (H : Heap) : E.Spec Tryz.prog 24 [scC z d, stC st] H fun x H' => ∃ b e, x = bdX b e ∧ (e = 0 → hdG d st b) ∧ H' = H := by
 refine Spec.enter Tryz.func24 rfl ?_
 refine AW.wk (wK 128 (l := [(0, .c (scC z d)), (1, .c (stC st))]) (ll := []) (H := (H))) ?_
 refine D3 ?_
 refine D2 ?_
 refine SeqK.callE rfl rfl rfl rfl fn51 rfl (rone_any d z st hd _) (fun _ _ h => by obtain ⟨_, _, _, h, _⟩ := h; rw [h]; rfl) (fun x18 H18 q18 => ?_)
 obtain ⟨b, l, e0, rfl, hb, e18⟩ := q18
 replace e18 := e18.symm
 subst e18
 refine G8 ?_
 refine eL153 ?_
 refine cD ?_ ?_ <;> intro h23
 ·
  refine D4 ?_
  exact cL4
 obtain ⟨n, t, hn0, hnt, hok, rfl, rfl⟩ := hb (qY.1 h23)
 have hcl := hok.cl
 have hsl := hst.sl
 refine eL213 ?_
 refine eL301 ?_
 refine AW.block (AW.tipL 6 7 85 10 rfl rfl (fun k0 hk0 => ?_))
 refine AW.loop (fun (i : Nat) s => ∃ (kt : Nat) (zs : List (List E.T)) (out : List As), (i ≤ st.sets.length ∧ H kt = none ∧ zs = out.map asT ∧ zs.length = i) ∧ s = ⟨128, sp [(3, .lp 3 0), (4, .lp 4 0), (5, .c (iC 0)), (6, .lp 6 0), (7, .c (srsC .un [⟨t.nm, t, 0⟩])), (9, .lp 9 0), (10, nX i)], lv [(3, .box (zSt st)), (4, .box zL0), (6, .box (zQ st (cV st) (.ts kt .ne 10 zs) (cI st) st.wh (cG st) n (.t (.sl .un 1 ([n].map i64T))) (.t (.sl .un 5 ((vrL [⟨t.nm, t, 0⟩]).map vrT))) (nA))), (9, .box (zTb t))], (upd H kt (some (.tip 85 10 zs.length)))⟩) (fun i => st.sets.length - i) 0 ⟨_, by exact wK 128, k0, [], [], ⟨qZ _, hk0, rfl, rfl⟩, rfl⟩ (fun i s hs => ?_)
 obtain ⟨kt, zs, out, ⟨hi0, hkt, hzs, hzl⟩, rfl⟩ := hs
 refine eL150 ?_
 refine cD ?_ ?_ <;> intro h36
 rotate_left
 ·
  refine eL147 ?_
  refine AW.seq (AW.xwL 6 rfl (xr4 (xr2 (xr1 (.cons (XW.ts.trans (XW.es hzs)) (xr16 (xr1 (.cons (XW.nilU (sz := 1)) .nil))))))) ?_)
  refine B3 ?_
  refine Z16 fn55 (rcond_any [⟨t.nm, t, 0⟩] .un st.wh (okAln hok.cl) hst.wg) ?_
  refine G7 ?_
  refine eL153 ?_
  refine cD ?_ ?_ <;> intro h124
  ·
   refine D4 ?_
   exact cL2
  refine eL219 ?_
  exact aR (fin_x (x := .tup [_, _]) (H) (.cellL rfl rfl ty47 rfl rfl (.tmp rfl .nil)) rfl ((fun j o h => upd_sub hkt j o h)) (⟨⟨⟨st.k, st.tb, st.cr, st.vals, out, st.its, st.frm, (cndB (spR [⟨t.nm, t, 0⟩]) (zxE st.wh)).1, st.grp, st.ord, st.lim, st.nm⟩, n, [n], vrL [⟨t.nm, t, 0⟩], []⟩, 0, rfl, fun _ => hdG_one rfl rfl rfl hn0 hnt hx, rfl⟩))
 have hi := oI h36
 have hge := hst.sg _ (qC hi)
 refine eL167 ?_
 refine N4 ?_
 refine Z26 sl31 (idx_map (f := asT) hi) ?_
 refine N2 ?_
 refine lQ (q_call _ rfl fn54 rfl (rcolumn_any t st.sets[i].col (by omega)) rfl) ?_
 refine eL253 ?_
 refine eL153 ?_
 refine AW.cond _ rfl (fun h51 => ?_) (fun h51 => ?_)
 ·
  refine D3 ?_
  exact cL2
 have hn0 : 0 ≤ (colI t.cols st.sets[i].col) := jK (bnf h51)
 have hnm : max (colI t.cols st.sets[i].col) 0 = (colI t.cols st.sets[i].col) := by omega
 rw [hnm]
 have hnl := colI_lt (cols := t.cols) (nm := st.sets[i].col)
 have hkt2 : (colI t.cols st.sets[i].col).toNat < t.cols.length := by omega
 refine eL232 ?_
 refine AW.block (AW.loop (fun (j : Nat) s => (j ≤ i) ∧ s = ⟨128, sp [(3, .lp 3 0), (4, .lp 4 0), (5, .c (iC 0)), (6, .lp 6 0), (7, .c (srsC .un [⟨t.nm, t, 0⟩])), (9, .lp 9 0), (10, nX i), (11, .c (iC (colI t.cols st.sets[i].col))), (13, nX j)], lv [(3, .box (zSt st)), (4, .box zL0), (6, .box (zQ st (cV st) (.ts kt .ne 10 zs) (cI st) st.wh (cG st) n (.t (.sl .un 1 ([n].map i64T))) (.t (.sl .un 5 ((vrL [⟨t.nm, t, 0⟩]).map vrT))) (nA))), (9, .box (zTb t))], (upd H kt (some (.tip 85 10 zs.length)))⟩) (fun j => i - j) 0 ⟨_, Wk.keep 128 [(3, .lp 3 0), (4, .lp 4 0), (5, .c (iC 0)), (6, .lp 6 0), (7, .c (srsC .un [⟨t.nm, t, 0⟩])), (9, .lp 9 0), (10, nX i), (11, .c (iC (colI t.cols st.sets[i].col))), (13, iX .i64 ((((0 : Nat)) : Nat) : Int))] [(3, .box (zSt st)), (4, .box zL0), (6, .box (zQ st (cV st) (.ts kt .ne 10 zs) (cI st) st.wh (cG st) n (.t (.sl .un 1 ([n].map i64T))) (.t (.sl .un 5 ((vrL [⟨t.nm, t, 0⟩]).map vrT))) (nA))), (9, .box (zTb t))] ((upd H kt (some (.tip 85 10 zs.length)))) rfl ⟨rfl, rfl, rfl, rfl, rfl, rfl, rfl, rfl, rfl, trivial⟩ ⟨rfl, rfl, rfl, rfl, trivial⟩ (fun _ _ h => h) rfl, qZ _, rfl⟩ (fun j s hs => ?_))
 obtain ⟨hj0, rfl⟩ := hs
 refine eL189 ?_
 refine cD ?_ ?_ <;> intro h55
 ·
  have hj : j < st.sets.length := by omega
  refine eL167 ?_
  refine N3 ?_
  refine Z26 sl31 (idx_map (f := asT) hj) ?_
  refine N5 ?_
  refine Z26 sl31 (idx_map (f := asT) hi) ?_
  refine N2 ?_
  refine lQ (q_eqlS rfl rfl rfl) ?_
  refine Z38 ?_
  refine cD ?_ ?_ <;> intro h70
  ·
   refine D3 ?_
   exact cL2
  refine eL173 ?_
  exact ⟨j + 1, _, by exact wK 128, by omega, (by omega), rfl⟩
 refine eL147 ?_
 refine D3 ?_
 refine Z10 sl31 (idx_map (f := asT) hi) ?_
 refine G3 ?_
 refine Z16 fn52 (rexpr_any (z := .un) (okAln hok.cl) st.sets[i].ex hge) ?_
 refine eL241 ?_
 refine eL165 ?_
 refine cD ?_ ?_ <;> intro h82
 ·
  refine eL251 ?_
  refine eL151 ?_
  refine N4 ?_
  refine Z38 ?_
  exact cL2
 refine AW.skip (AW.seq (AW.seq (AW.draw mo ?_)))
 refine N5 ?_
 refine Z26 sl24 (idx_map (f := coT) hkt2) ?_
 refine N2 ?_
 refine Z40 fn53 (rfits_any _ _) ?_
 refine lQ (q_not rfl rfl) ?_
 refine Z38 ?_
 refine AW.cond _ rfl (fun h95 => ?_) (fun h95 => ?_)
 ·
  refine D3 ?_
  exact cL2
 refine AW.skip (AW.drawO [0, 1, 2, 3, 4, 5, 6, 7, 8, 9, 10, 11, 12, 13, 14, 15, 16, 17] mo (by kernel_rfl) ?_)
 refine eL190 ?_
 refine eL174 ?_
 refine eL174 ?_
 refine eL162 ?_
 refine eL206 ?_
 refine eL162 ?_
 refine eL226 ?_
 refine LexO.q rfl (by kernel_rfl) (q_build2 (zs := [_, _, _, _, _, _, _, _, _, _]) (r := [_, _, _, _, _, _, _, _, _, _]) [(0, 1), (1, 1), (2, 8)] _ rfl ze85 rfl bp85 rfl rfl rfl rfl) rfl rfl rfl ?_
 refine LexO.q rfl (by kernel_rfl) (q_buildSlice _ rfl el31 rfl (by decide) rfl) rfl rfl rfl ?_
 refine LexO.app1 rfl (by kernel_rfl) (by kernel_rfl) (by kernel_rfl) rfl (hkt) rfl el31 rfl rfl (by simp [hzl]; omega) rfl rfl (fun k111 hk111 => ?_)
 refine eL190 ?_
 refine LexO.q rfl (by kernel_rfl) (q_fieldL _ rfl fl40_4 rfl rfl) rfl rfl rfl ?_
 refine LexO.r rfl (by kernel_rfl) (b_store (r := [_, _, _, _, _, _, _, _, _, _, _, _, _, _, _, _, _, _, _, _, _, _, _, _, _, _]) rfl rfl ty31 rfl rfl rfl rfl rfl rfl) rfl ?_
 refine eL217 ?_
 exact ⟨i + 1, _, by exact wK 128, by omega, k111, zs ++ [asT (⟨st.sets[i].col, (colI t.cols st.sets[i].col), (bnR (spR [⟨t.nm, t, 0⟩]) st.sets[i].ex).1⟩ : As)], out ++ [(⟨st.sets[i].col, (colI t.cols st.sets[i].col), (bnR (spR [⟨t.nm, t, 0⟩]) st.sets[i].ex).1⟩ : As)], ⟨hi, hk111, mp_put hzs, by simp [hzl]⟩, rfl⟩
open Q
theorem gh_0 : ghE ex0 := ⟨okE_iff.2 ⟨⟨by decide, by decide, by decide, by decide⟩, fun a ha => by cases ha⟩, by rw [ndE_eq, ndS]; decide⟩
theorem ndS_mp {f : Ex → Ex} : ∀ l : List Ex, (∀ a ∈ l, ndE (f a) = ndE a) → ndS (l.map f) = ndS l
  | [], _ => rfl
  | a :: r, h => by rw [qL, ndS, ndS, h a (by simp), ndS_mp r fun b hb => h b (by simp [hb])]
theorem gh_zx (e : Ex) : ndE (zxE e) = ndE e ∧ (Q.okE e → Q.okE (zxE e)) := by
  induction e using Ex.ind with
  | h e ih =>
    refine ⟨by rw [zxE_eq, ndE_eq, ndE_eq e]; show (if e.op ≠ 0 then 1 else 0) + ndS (e.args.map zxE) = _; rw [ndS_mp _ fun a ha => (ih a ha).1], fun h => ?_⟩
    have h := okE_iff.1 h
    rw [zxE_eq]
    refine okE_iff.2 ⟨⟨h.1.1, h.1.2.1, h.1.2.2.1, by show (e.args.map _).length ≤ _; rw [qA]; exact h.1.2.2.2⟩, fun a ha => ?_⟩
    obtain ⟨b, hb, rfl⟩ := jE.1 ha
    exact (ih b hb).2 (h.2 b hb)
theorem gh_bnd {s : Sp} (e : Ex) : (bndE s e).2.2 = 0 → ndE (bndE s e).1 = ndE e ∧ (Q.okE e → Q.okE (bndE s e).1) := by
  induction e using Ex.ind with
  | h e ih =>
    intro h0
    have B := bnd_of h0
    refine ⟨by rw [ndE_eq, ndE_eq e, B.op, B.args, ndS_mp _ fun a ha => (ih a ha (B.ok a ha)).1], fun h => ?_⟩
    have h := okE_iff.1 h
    refine okE_iff.2 ⟨⟨by rw [B.tb]; exact h.1.1, by rw [B.nm]; exact h.1.2.1, by rw [B.vs]; exact h.1.2.2.1, by rw [B.args, qA]; exact h.1.2.2.2⟩, fun a ha => ?_⟩
    rw [B.args] at ha
    obtain ⟨b, hb, rfl⟩ := jE.1 ha
    exact (ih b hb (B.ok b hb)).2 (h.2 b hb)
theorem gh_bnR {s : Sp} {e : Ex} (h : ghE e) (h0 : (bnR s e).2.2 = 0) : ghE (bnR s e).1 := by
  have h1 := gh_zx e
  have h2 := gh_bnd (s := s) (zxE e) h0
  exact ⟨h2.2 (h1.2 h.1), by rw [h2.1, h1.1]; exact h.2⟩
theorem itH_put {its : List It} {x : It} (h : ∀ y ∈ its, itH y) (hx : itH x) : ∀ y ∈ its ++ [x], itH y := fun y hy => by
  rcases jC.1 hy with hy | hy
  · exact h y hy
  · rw [jF.1 hy]; exact hx
theorem rquery_any (d : List Tb) (z : Nz) (st : St) (hd : okDb d) (hst : okQr st) (hx : ∀ x ∈ st.its, itH x) (H : Heap) : E.Spec Tryz.prog 25 [scC z d, stC st] H fun x H' => ∃ b e, x = bdX b e ∧ (e = 0 → hdG d st b) ∧ H' = H := by
 refine Spec.enter Tryz.func25 rfl ?_
 refine AW.wk (wK 220 (l := [(0, .c (scC z d)), (1, .c (stC st))]) (ll := []) (H := (H))) ?_
 refine D3 ?_
 refine D2 ?_
 refine SeqK.callE rfl rfl rfl rfl fn56 rfl (rsources_any d z st hd hst.fl _) (fun _ _ h => by obtain ⟨_, _, _, h, _⟩ := h; rw [h]; rfl) (fun x21 H21 q21 => ?_)
 obtain ⟨ss, ts, e0, rfl, hb, e21⟩ := q21
 replace e21 := e21.symm
 subst e21
 refine G7 ?_
 refine eL153 ?_
 refine cD ?_ ?_ <;> intro h26
 ·
  refine D4 ?_
  exact cL4
 obtain ⟨m, f, hm, hG⟩ := hb (qY.1 h26)
 have hsl : ss.length ≤ 3 := by rw [hG.sl]; exact hm
 have hsp : okSp (spR ss) := ⟨by show ss.length ≤ _; omega, qZ _, fun x hx => (hG.sg x hx).1, fun x hx => (hG.sg x hx).2⟩
 have hil := hst.il
 have hgl := hst.gl
 have hol := hst.ol
 refine eL252 ?_
 refine N3 ?_
 refine lQ (q_call _ rfl fn57 rfl (rvl_any ss _ (by omega) (fun x hx => (hG.sg x hx).1)) rfl) ?_
 refine eL151 ?_
 refine LexK.r (b_alloc (r := [_, _, _, _, _, _, _, _, _, _, _, _, _, _, _, _, _, _, _, _, _, _, _, _, _, _]) rfl rfl ze47 rfl rfl rfl rfl) rfl ?_
 refine N1 ?_
 refine Z38 ?_
 refine D6 ?_
 refine Z3 (sR (Z1 fl40_8 ?_))
 refine G4 ?_
 refine AW.seqM (fun s => ∃ (its : List It) (ag : Bool), (its.length = st.its.length) ∧ (∀ x ∈ its, itH x) ∧ s = ⟨220, sp [(3, .lp 3 0), (4, .lp 4 0), (5, .c (iC 0)), (6, .c (srsC .un ss)), (9, .lp 9 0), (10, .c (bC ag))], lv [(3, .box (zSt st)), (4, .box zL0), (9, .box (zQ st (cV st) (cS st) (.t (.sl .un 9 (its.map itT))) st.wh (nA) 0 (.t (.sl .un 1 (ts.map i64T))) (.t (.sl .un 5 ((vrL ss).map vrT))) (nA)))], H⟩) ?_ ?_
 ·
  refine D1 ?_
  refine AW.block (AW.tipL 9 8 58 9 rfl rfl (fun k0 hk0 => ?_))
  refine AW.loop (fun (i : Nat) s => ∃ (kt : Nat) (zs : List (List E.T)) (its : List It) (ag : Bool), (i ≤ st.its.length ∧ H kt = none ∧ zs = its.map itT ∧ zs.length = i ∧ ∀ x ∈ its, itH x) ∧ s = ⟨220, sp [(3, .lp 3 0), (4, .lp 4 0), (5, .c (iC 0)), (6, .c (srsC .un ss)), (9, .lp 9 0), (10, .c (bC ag)), (11, nX i)], lv [(3, .box (zSt st)), (4, .box zL0), (9, .box (zQ st (cV st) (cS st) (.ts kt .ne 9 zs) st.wh (nA) 0 (.t (.sl .un 1 (ts.map i64T))) (.t (.sl .un 5 ((vrL ss).map vrT))) (nA)))], (upd H kt (some (.tip 58 9 zs.length)))⟩) (fun i => st.its.length - i) 0 ⟨_, by exact wK 220, k0, [], [], _, ⟨qZ _, hk0, rfl, rfl, fun x h => by cases h⟩, rfl⟩ (fun i s hs => ?_)
  obtain ⟨kt, zs, its, ag, ⟨hi0, hkt, hzs, hzl, hxg⟩, rfl⟩ := hs
  refine eL150 ?_
  refine cD ?_ ?_ <;> intro h46
  rotate_left
  ·
   refine eL147 ?_
   obtain rfl := oE h46 hi0
   exact ⟨_, Wk.trans (Wk.xwL 9 rfl (xr8 (.cons (XW.ts.trans (XW.es hzs)) (xr16 (.cons XW.reA .nil))))) (Wk.keep 220 [(3, .lp 3 0), (4, .lp 4 0), (5, .c (iC 0)), (6, .c (srsC .un ss)), (9, .lp 9 0), (10, .c (bC ag))] [(3, .box (zSt st)), (4, .box zL0), (9, .box (zQ st (cV st) (cS st) (.t (.sl .un 9 (its.map itT))) st.wh (nA) 0 (.t (.sl .un 1 (ts.map i64T))) (.t (.sl .un 5 ((vrL ss).map vrT))) (nA)))] (H) rfl ⟨rfl, rfl, rfl, rfl, rfl, rfl, trivial⟩ ⟨rfl, rfl, rfl, trivial⟩ (fun j o h => upd_sub hkt j o h) rfl), its, ag, by rw [← hzl, hzs, qA], hxg, rfl⟩
  have hi := oI h46
  refine eL152 ?_
  refine Z3 (AW.xwL 12 rfl (xr4 (xr2 (xr1 (.cons (XW.nilU (sz := 8)) (.cons XW.reA (.cons XW.reA .nil)))))) ?_)
  refine AW.seqM (fun s => ∃ r : Ex × Int × Int, (r.2.2 = 0 → ghE r.1) ∧ s = ⟨220, sp [(3, .lp 3 0), (4, .lp 4 0), (5, .c (iC 0)), (6, .c (srsC .un ss)), (9, .lp 9 0), (10, .c (bC ag)), (11, nX i), (12, .lp 12 0)], lv [(3, .box (zSt st)), (4, .box zL0), (9, .box (zQ st (cV st) (cS st) (.ts kt .ne 9 zs) st.wh (nA) 0 (.t (.sl .un 1 (ts.map i64T))) (.t (.sl .un 5 ((vrL ss).map vrT))) (nA))), (12, .box (zTy r))], (upd H kt (some (.tip 58 9 zs.length)))⟩) ?_ ?_
  ·
   refine D3 ?_
   refine eL195 ?_
   refine eL191 ?_
   refine cD ?_ ?_ <;> intro h56
   ·
    refine B3 ?_
    refine eL195 ?_
    refine G3 ?_
    refine eL295 ?_
    refine G1 ?_
    refine Z3 ?_
    first | exact ⟨_, by exact wK 220, bnR (spR ss) st.its[i].ex, fun h0 => gh_bnR (hx _ (qC hi)).ex h0, rfl⟩ | exact ⟨_, by exact wK 220, (ex0, 0, 0), fun _ => gh_0, rfl⟩
   refine eL257 ?_
   first | exact ⟨_, by exact Wk.keep 220 _ _ _ rfl ⟨rfl, rfl, rfl, rfl, rfl, rfl, rfl, rfl, trivial⟩ ⟨rfl, rfl, rfl, rfl, trivial⟩ (fun _ _ h => h) rfl, bnR (spR ss) st.its[i].ex, fun h0 => gh_bnR (hx _ (List.getElem_mem hi)).ex h0, rfl⟩ | exact ⟨_, by exact Wk.keep 220 _ _ _ rfl ⟨rfl, rfl, rfl, rfl, rfl, rfl, rfl, rfl, trivial⟩ ⟨rfl, rfl, rfl, rfl, trivial⟩ (fun _ _ h => h) rfl, (ex0, 0, 0), fun _ => gh_0, rfl⟩
  rintro s ⟨r, hr, rfl⟩
  refine eL189 ?_
  refine cD ?_ ?_ <;> intro h67
  ·
   refine eL251 ?_
   refine eL151 ?_
   refine N4 ?_
   refine Z38 ?_
   exact cL2
  refine AW.skip (AW.seqM (fun s => s = ⟨220, sp [(3, .lp 3 0), (4, .lp 4 0), (5, .c (iC 0)), (6, .c (srsC .un ss)), (9, .lp 9 0), (10, .c (bC ag)), (11, nX i), (12, .lp 12 0)], lv [(3, .box (zSt st)), (4, .box zL0), (9, .box (zQ st (cV st) (cS st) (.ts kt .ne 9 zs) st.wh (nA) 0 (.t (.sl .un 1 (ts.map i64T))) (.t (.sl .un 5 ((vrL ss).map vrT))) (nA))), (12, .box (zTy r))], (upd H kt (some (.tip 58 9 zs.length)))⟩) ?_ ?_)
  ·
   refine D3 ?_
   refine Z22 ?_ ?_ <;> intro g74
   ·
    iterate 8 refine oF ?_
    iterate 4 refine oU ?_
    refine eL157 ?_
    refine D3 ?_
    exact cL2
   refine G3 ?_
   refine Z47 sl32 (idx_map (f := itT) hi) ?_
   refine sO (q_fieldP _ rfl fl58_0 rfl rfl) ?_
   refine G2 ?_
   refine Z44 ?_ ?_ <;> intro g82
   ·
    refine G2 ?_
    refine Z43 fn53 (rfits_any _ _) ?_
    refine eL191 ?_
    refine AW.cond _ rfl (fun h88 => ?_) (fun h88 => ?_)
    ·
     refine D3 ?_
     exact cL2
    exact cL116
   iterate 4 refine oF ?_
   refine eL164 ?_
   exact cL116
  rintro s rfl
  refine AW.seqM (fun s => ∃ ag2 : Bool, s = ⟨220, sp [(3, .lp 3 0), (4, .lp 4 0), (5, .c (iC 0)), (6, .c (srsC .un ss)), (9, .lp 9 0), (10, .c (bC ag2)), (11, nX i), (12, .lp 12 0)], lv [(3, .box (zSt st)), (4, .box zL0), (9, .box (zQ st (cV st) (cS st) (.ts kt .ne 9 zs) st.wh (nA) 0 (.t (.sl .un 1 (ts.map i64T))) (.t (.sl .un 5 ((vrL ss).map vrT))) (nA))), (12, .box (zTy r))], (upd H kt (some (.tip 58 9 zs.length)))⟩) ?_ ?_
  ·
   refine D3 ?_
   refine eL195 ?_
   refine eL191 ?_
   refine cD ?_ ?_ <;> intro h96
   ·
    refine B1 ?_
    exact cL138
   refine eL257 ?_
   exact cL138
  rintro s ⟨ag2, rfl⟩
  refine AW.drawO [0, 1, 2, 3, 4, 5, 6, 7, 8, 9, 10, 11, 12, 13, 14, 15, 16] mo (by kernel_rfl) ?_
  refine eL190 ?_
  refine eL245 ?_
  refine eL245 ?_
  refine eL162 ?_
  refine LexO.q rfl (by kernel_rfl) (q_index _ rfl sl32 rfl rfl (by omega) (idx_map (f := itT) hi)) rfl rfl rfl ?_
  refine LexO.q rfl (by kernel_rfl) (q_fieldP _ rfl fl58_0 rfl rfl) rfl rfl rfl ?_
  refine LexO.q rfl (by kernel_rfl) (q_load (.a _) rfl ty3 rfl rfl rfl) rfl rfl rfl ?_
  refine eL226 ?_
  refine LexO.q rfl (by kernel_rfl) (q_build2 (zs := [_, _, _, _, _, _, _, _, _]) (r := [_, _, _, _, _, _, _, _, _]) [(0, 1), (1, 8)] _ rfl ze58 rfl bp58 rfl rfl rfl rfl) rfl rfl rfl ?_
  refine LexO.q rfl (by kernel_rfl) (q_buildSlice _ rfl el32 rfl (by decide) rfl) rfl rfl rfl ?_
  refine LexO.app1 rfl (by kernel_rfl) (by kernel_rfl) (by kernel_rfl) rfl (hkt) rfl el32 rfl rfl (by simp [hzl]; omega) rfl rfl (fun k110 hk110 => ?_)
  refine eL190 ?_
  refine LexO.q rfl (by kernel_rfl) (q_fieldL _ rfl fl40_5 rfl rfl) rfl rfl rfl ?_
  refine LexO.r rfl (by kernel_rfl) (b_store (r := [_, _, _, _, _, _, _, _, _, _, _, _, _, _, _, _, _, _, _, _, _, _, _, _, _, _]) rfl rfl ty32 rfl rfl rfl rfl rfl rfl) rfl ?_
  refine eL217 ?_
  exact ⟨i + 1, _, by exact wK 220, by omega, k110, zs ++ [itT (⟨st.its[i].ag, r.1⟩ : It)], its ++ [(⟨st.its[i].ag, r.1⟩ : It)], ag2, ⟨hi, hk110, mp_put hzs, by simp [hzl], (itH_put hxg ⟨hr (qY.1 h67), (hx _ (qC hi)).lo, (hx _ (qC hi)).hi⟩)⟩, rfl⟩
 rintro s ⟨its, ag, hitl, hxg, rfl⟩
 refine D3 ?_
 refine Z16 fn55 (rcond_any ss .un st.wh hsp hst.wg) ?_
 refine G7 ?_
 refine eL153 ?_
 refine cD ?_ ?_ <;> intro h123
 ·
  refine D4 ?_
  exact cL4
 refine AW.skip (AW.seqM (fun s => ∃ es : List Ex, (es.length ≤ 1000000000) ∧ s = ⟨220, sp [(3, .lp 3 0), (4, .lp 4 0), (5, .c (iC 0)), (6, .c (srsC .un ss)), (9, .lp 9 0), (10, .c (bC ag))], lv [(3, .box (zSt st)), (4, .box zL0), (9, .box (zQ st (cV st) (cS st) (.t (.sl .un 9 (its.map itT))) ((cndB (spR ss) (zxE st.wh)).1) (.t (.sl .un 8 (es.map exT'))) 0 (.t (.sl .un 1 (ts.map i64T))) (.t (.sl .un 5 ((vrL ss).map vrT))) (nA)))], H⟩) ?_ ?_)
 ·
  refine D1 ?_
  refine AW.block (AW.tipL 9 18 37 8 rfl rfl (fun k0 hk0 => ?_))
  refine AW.loop (fun (j : Nat) s => ∃ (kg : Nat) (xs : List (List E.T)) (es : List Ex), (j ≤ st.grp.length ∧ H kg = none ∧ xs = es.map exT' ∧ xs.length = j) ∧ s = ⟨220, sp [(3, .lp 3 0), (4, .lp 4 0), (5, .c (iC 0)), (6, .c (srsC .un ss)), (9, .lp 9 0), (10, .c (bC ag)), (13, nX j)], lv [(3, .box (zSt st)), (4, .box zL0), (9, .box (zQ st (cV st) (cS st) (.t (.sl .un 9 (its.map itT))) ((cndB (spR ss) (zxE st.wh)).1) (.ts kg .ne 8 xs) 0 (.t (.sl .un 1 (ts.map i64T))) (.t (.sl .un 5 ((vrL ss).map vrT))) (nA)))], (upd H kg (some (.tip 37 8 xs.length)))⟩) (fun j => st.grp.length - j) 0 ⟨_, by exact wK 220, k0, [], [], ⟨qZ _, hk0, rfl, rfl⟩, rfl⟩ (fun j s hs => ?_)
  obtain ⟨kg, xs, es, ⟨hj0, hkg, hxs, hxl⟩, rfl⟩ := hs
  refine eL150 ?_
  refine cD ?_ ?_ <;> intro h130
  rotate_left
  ·
   refine eL147 ?_
   exact ⟨_, Wk.trans (Wk.xwL 9 rfl (xr16 (xr2 (.cons (XW.ts.trans (XW.es hxs)) (xr4 (xr2 (.cons XW.reA .nil))))))) (Wk.keep 220 [(3, .lp 3 0), (4, .lp 4 0), (5, .c (iC 0)), (6, .c (srsC .un ss)), (9, .lp 9 0), (10, .c (bC ag))] [(3, .box (zSt st)), (4, .box zL0), (9, .box (zQ st (cV st) (cS st) (.t (.sl .un 9 (its.map itT))) ((cndB (spR ss) (zxE st.wh)).1) (.t (.sl .un 8 (es.map exT'))) 0 (.t (.sl .un 1 (ts.map i64T))) (.t (.sl .un 5 ((vrL ss).map vrT))) (nA)))] (H) rfl ⟨rfl, rfl, rfl, rfl, rfl, rfl, trivial⟩ ⟨rfl, rfl, rfl, trivial⟩ (fun j o h => upd_sub hkg j o h) rfl), es, by have e1 : xs.length = es.length := (by rw [hxs, qA]); omega, rfl⟩
  have hj := oI h130
  refine eL152 ?_
  refine Z10 sl27 (idx_ex hj) ?_
  refine G2 ?_
  refine eL295 ?_
  refine eL241 ?_
  refine eL165 ?_
  refine cD ?_ ?_ <;> intro h142
  ·
   refine eL251 ?_
   refine eL151 ?_
   refine N4 ?_
   refine Z38 ?_
   refine eL179 ?_
   exact aR (fin_x (x := .tup [_, _]) (H) (.cellL rfl rfl ty47 rfl rfl (.tmp rfl .nil)) rfl ((fun j o h => upd_sub hkg j o h)) (⟨bd0, _, rfl, fun k => absurd k (by first | decide | assumption), rfl⟩))
  refine AW.skip (B6 ?_)
  refine SeqK.app1 rfl (hkg) rfl el27 rfl rfl (by simp [hxl]; omega) rfl rfl (fun k152 hk152 => ?_)
  refine G3 ?_
  refine Z3 (AW.reg (sM ?_))
  refine G2 ?_
  exact ⟨j + 1, _, by exact wK 220, by omega, k152, xs ++ [exL (bnR (spR ss) st.grp[j]).1], es ++ [(bnR (spR ss) st.grp[j]).1], ⟨hj, hk152, ex_put hxs, by simp [hxl]⟩, rfl⟩
 rintro s ⟨es, hel, rfl⟩
 refine AW.seqM (fun s => s = ⟨220, sp [(3, .lp 3 0), (4, .lp 4 0), (5, .c (iC 0)), (9, .lp 9 0), (10, .c (bC ag))], lv [(3, .box (zSt st)), (4, .box zL0), (9, .box (zQ st (cV st) (cS st) (.t (.sl .un 9 (its.map itT))) ((cndB (spR ss) (zxE st.wh)).1) (.t (.sl .un 8 (es.map exT'))) 0 (.t (.sl .un 1 (ts.map i64T))) (.t (.sl .un 5 ((vrL ss).map vrT))) (nA)))], H⟩) ?_ ?_
 ·
  refine D1 ?_
  refine Z49 ?_ ?_ <;> intro g156
  ·
   refine eL265 ?_
   refine cD ?_ ?_ <;> intro h161
   ·
    refine D3 ?_
    exact cL4
   exact cL116
  iterate 4 refine oF ?_
  refine eL172 ?_
  exact cL116
 rintro s rfl
 refine eL161 ?_
 refine AW.block (AW.loop (fun (k : Nat) s => (k ≤ st.its.length) ∧ s = ⟨220, sp [(3, .lp 3 0), (4, .lp 4 0), (5, .c (iC 0)), (9, .lp 9 0), (10, .c (bC ag)), (15, nX k)], lv [(3, .box (zSt st)), (4, .box zL0), (9, .box (zQ st (cV st) (cS st) (.t (.sl .un 9 (its.map itT))) ((cndB (spR ss) (zxE st.wh)).1) (.t (.sl .un 8 (es.map exT'))) 0 (.t (.sl .un 1 (ts.map i64T))) (.t (.sl .un 5 ((vrL ss).map vrT))) (nA)))], H⟩) (fun k => st.its.length - k) 0 ⟨_, by exact wK 220, qZ _, rfl⟩ (fun k s hs => ?_))
 obtain ⟨hk0, rfl⟩ := hs
 refine eL150 ?_
 refine cD ?_ ?_ <;> intro h167
 ·
  have hk := oI h167
  have hk2 : k < its.length := by omega
  refine eL167 ?_
  refine Z23 ?_
  refine LexK.qB (q_mvC rfl rfl) rfl rfl rfl (fun g171 => ?_) (fun g171 => ?_)
  rotate_left
  ·
   iterate 7 refine LexK.off rfl rfl rfl rfl rfl rfl ?_
   refine lQ (q_pkF rfl rfl rfl) ?_
   refine Z23 ?_
   iterate 12 refine LexK.off rfl rfl rfl rfl rfl rfl ?_
   refine lQ (q_pkF rfl rfl rfl) ?_
   refine Z38 ?_
   refine AW.condF rfl ?_
   refine AW.skip (B3 ?_)
   exact ⟨k + 1, _, by exact wK 220, by omega, (by omega), rfl⟩
  refine N2 ?_
  refine eL243 ?_
  refine lO (q_index _ rfl sl32 rfl rfl (by omega) (idx_map (f := itT) hk)) ?_
  refine lO (q_fieldP _ rfl fl58_0 rfl rfl) ?_
  refine lO (q_load (.a _) rfl ty3 rfl rfl rfl) ?_
  refine lO (q_eql rfl rfl rfl) ?_
  refine eL210 ?_
  refine LexK.qD (q_mvC rfl rfl) rfl rfl rfl (fun g180 => ?_) (fun g180 => ?_)
  ·
   refine N3 ?_
   refine eL243 ?_
   refine lO (q_index _ rfl sl32 rfl rfl (by omega) (idx_map (f := itT) hk2)) ?_
   refine lO (q_fieldP _ rfl fl58_1 rfl rfl) ?_
   refine lO (q_load (.g [_, _, _, _, _, _, _, _]) rfl ty37 rfl rfl rfl) ?_
   refine N3 ?_
   refine lO (q_call _ rfl fn58 rfl (rgrouped_any _ es _ hel) rfl) ?_
   refine lO (q_not rfl rfl) ?_
   refine eL210 ?_
   refine Z38 ?_
   refine AW.cond _ rfl (fun h193 => ?_) (fun h193 => ?_)
   ·
    refine D3 ?_
    exact cL4
   refine eL173 ?_
   exact ⟨k + 1, _, by exact wK 220, by omega, (by omega), rfl⟩
  iterate 12 refine LexK.off rfl rfl rfl rfl rfl rfl ?_
  refine lQ (q_pkF rfl rfl rfl) ?_
  refine Z38 ?_
  refine AW.condF rfl ?_
  refine AW.skip (B3 ?_)
  exact ⟨k + 1, _, by exact wK 220, by omega, (by omega), rfl⟩
 refine eL147 ?_
 refine D4 ?_
 refine AW.seqM (fun s => ∃ w : Int, s = ⟨220, sp [(3, .lp 3 0), (4, .lp 4 0), (5, .c (iC 0)), (9, .lp 9 0), (16, .c (iC w))], lv [(3, .box (zSt st)), (4, .box zL0), (9, .box (zQ st (cV st) (cS st) (.t (.sl .un 9 (its.map itT))) ((cndB (spR ss) (zxE st.wh)).1) (.t (.sl .un 8 (es.map exT'))) 0 (.t (.sl .un 1 (ts.map i64T))) (.t (.sl .un 5 ((vrL ss).map vrT))) (nA)))], H⟩) ?_ ?_
 ·
  refine D2 ?_
  refine Z3 ?_
  refine cD ?_ ?_ <;> intro h199
  ·
   refine B4 ?_
   exact cL138
  refine eL257 ?_
  exact cL138
 rintro s ⟨w, rfl⟩
 refine eL161 ?_
 refine AW.block (AW.loop (fun (q : Nat) s => (q ≤ st.ord.length) ∧ s = ⟨220, sp [(3, .lp 3 0), (4, .lp 4 0), (5, .c (iC 0)), (9, .lp 9 0), (16, .c (iC w)), (17, nX q)], lv [(3, .box (zSt st)), (4, .box zL0), (9, .box (zQ st (cV st) (cS st) (.t (.sl .un 9 (its.map itT))) ((cndB (spR ss) (zxE st.wh)).1) (.t (.sl .un 8 (es.map exT'))) 0 (.t (.sl .un 1 (ts.map i64T))) (.t (.sl .un 5 ((vrL ss).map vrT))) (nA)))], H⟩) (fun q => st.ord.length - q) 0 ⟨_, by exact wK 220, qZ _, rfl⟩ (fun q s hs => ?_))
 obtain ⟨hq0, rfl⟩ := hs
 refine eL150 ?_
 refine cD ?_ ?_ <;> intro h207
 ·
  have hq : q < st.ord.length := by (try rw [qA] at h207); omega
  refine eL152 ?_
  refine Z10 sl38 (idx_map (f := odT) hq) ?_
  refine eL259 ?_
  refine cD ?_ ?_ <;> intro h217
  ·
   refine D3 ?_
   exact cL4
  refine eL173 ?_
  exact ⟨q + 1, _, by exact wK 220, by omega, (by omega), rfl⟩
 refine eL147 ?_
 refine AW.seq (AW.xwL 9 rfl (xr16 (xr8 (xr1 (.cons (XW.nilU (sz := 1)) .nil)))) ?_)
 refine B3 ?_
 exact aR (f2 (.cellL rfl rfl ty47 rfl rfl (.tmp rfl .nil)) (⟨⟨⟨st.k, st.tb, st.cr, st.vals, st.sets, its, st.frm, (cndB (spR ss) (zxE st.wh)).1, es, st.ord, st.lim, st.nm⟩, 0, ts, vrL ss, []⟩, 0, rfl, fun _ => ⟨rfl, by show ts.length ≤ 3; rw [hG.tl]; exact hm, hG.tg, by show its.length ≤ _; omega, hxg⟩, rfl⟩))
open Q
theorem rbind_any (d : List Tb) (z : Nz) (st : St) (hd : okDb d) (hst : okSt st) (hx : ∀ x ∈ st.its, itH x) (H : Heap) : E.Spec Tryz.prog 8 [scC z d, stC st] H fun x H' => ∃ b e, x = bdX b e ∧ (e = 0 → hdG d st b) ∧ H' = H := by
 refine Spec.enter Tryz.func8 rfl ?_
 refine AW.wk (wK 35 (l := [(0, .c (scC z d)), (1, .c (stC st))]) (ll := []) (H := (H))) ?_
 refine D3 ?_
 refine eL205 ?_
 refine eL160 ?_
 refine cD ?_ ?_ <;> intro h8
 ·
  refine D1 ?_
  refine SeqK.xw 10 rfl (XW.g (xr2 (.cons (XW.nilU (sz := 6)) (.cons (XW.nilU (sz := 1)) (.cons (XW.nilU (sz := 3)) (.cons (XW.nilU (sz := 8)) (.cons (XW.nilU (sz := 1)) (.cons (XW.nilU (sz := 10)) (.cons (XW.nilU (sz := 9)) (.cons (XW.nilU (sz := 2)) (xr4 (xr2 (xr1 (.cons (XW.nilU (sz := 8)) (.cons (XW.nilU (sz := 8)) (.cons (XW.nilU (sz := 2)) (xr2 (xr1 (.cons (XW.nilU (sz := 1)) (.cons (XW.nilU (sz := 5)) (.cons (XW.nilU (sz := 1)) .nil))))))))))))))))))))) ?_
  refine G2 ?_
  exact aR (f2 (.cellL rfl rfl ty47 rfl rfl (.tmp rfl .nil)) (⟨bd0, 13, rfl, fun k => absurd k (by decide), rfl⟩))
 refine D2 ?_
 refine cD ?_ ?_ <;> intro h11
 ·
  refine D2 ?_
  refine SeqK.callE rfl rfl rfl rfl fn23 rfl (rinsert_any d z st hd hst.ch ⟨hx, hst.qr.il⟩ _) (fun _ _ h => by obtain ⟨_, _, h, _⟩ := h; rw [h]; rfl) (fun x15 H15 q15 => ?_)
  obtain ⟨b, e0, rfl, hb, e15⟩ := q15
  replace e15 := e15.symm
  subst e15
  exact cL129
 refine eL205 ?_
 refine cD ?_ ?_ <;> intro h18
 ·
  refine eL257 ?_
  refine AW.condD rfl (fun _ => ?_) (fun hq => absurd h18 hq)
  exact cL57
 refine B2 ?_
 refine cD ?_ ?_ <;> intro h18
 ·
  exact cL57
 refine D2 ?_
 refine cD ?_ ?_ <;> intro h26
 ·
  refine D2 ?_
  refine SeqK.callE rfl rfl rfl rfl fn25 rfl (rquery_any d z st hd hst.qr hx _) (fun _ _ h => by obtain ⟨_, _, h, _⟩ := h; rw [h]; rfl) (fun x30 H30 q30 => ?_)
  obtain ⟨b, e0, rfl, hb, e30⟩ := q30
  replace e30 := e30.symm
  subst e30
  exact cL129
 refine eL201 ?_
 refine SeqK.xw 34 rfl (XW.g (xr16 (xr4 (xr2 (xr1 (.cons (XW.nilU (sz := 1)) (.cons (XW.nilU (sz := 5)) (.cons (XW.nilU (sz := 1)) .nil)))))))) ?_
 refine G2 ?_
 exact aR (f2 (.cellL rfl rfl ty47 rfl rfl (.tmp rfl .nil)) (⟨⟨st, 0, [], [], []⟩, 0, rfl, fun _ => ⟨rfl, qZ _, (fun n h => by cases h), hst.qr.il, hx⟩, rfl⟩))
end Go.Proofs.YtgnnjebfoffphaaGreatDoor.W
