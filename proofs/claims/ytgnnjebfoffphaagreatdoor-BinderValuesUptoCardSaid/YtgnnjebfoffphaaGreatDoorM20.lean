import Derived.Test.YtgnnjebfoffphaaGreatDoorM19
set_option maxRecDepth 20000
set_option maxHeartbeats 16000000
set_option linter.unusedSectionVars false
set_option linter.unusedSimpArgs false
set_option linter.unusedVariables false
namespace Go.Proofs.YtgnnjebfoffphaaGreatDoor.W
open Fx
open Go.RowKit E M
open Q
theorem upd_inc1 {α : Type} {H : Nat → Option α} {a b cc d k : Nat} {U W Z0 B Z : α} (hab : a ≠ b) (hac : a ≠ cc) (hbc : b ≠ cc) (hc0 : H cc = none) (hda : d ≠ a) (hdb : d ≠ b) (hd0 : H d = none) (hka : k ≠ a) (hkb : k ≠ b) :
    ∀ j o, upd (upd (upd H b (some W)) k (some Z)) a (some U) j = some o → upd (upd (upd (upd (upd (upd H a (some U)) b (some W)) cc (some Z0)) d (some B)) cc none) k (some Z) j = some o := fun j o h => by
  by_cases e1 : j = k
  · subst e1; rw [upd_ne _ _ hka, upd_same] at h; rw [upd_same]; exact h
  · rw [upd_ne _ _ e1]
    by_cases e2 : j = a
    · subst e2; rw [upd_same] at h; rw [upd_ne _ _ hac, upd_ne _ _ hda.symm, upd_ne _ _ hac, upd_ne _ _ hab, upd_same]; exact h
    · rw [upd_ne _ _ e2, upd_ne _ _ e1] at h
      by_cases e3 : j = b
      · subst e3; rw [upd_same] at h; rw [upd_ne _ _ hbc, upd_ne _ _ hdb.symm, upd_ne _ _ hbc, upd_same]; exact h
      · rw [upd_ne _ _ e3] at h
        have e4 : j ≠ cc := fun e => by subst e; rw [hc0] at h; cases h
        have e5 : j ≠ d := fun e => by subst e; rw [hd0] at h; cases h
        rw [upd_ne _ _ e4, upd_ne _ _ e5, upd_ne _ _ e4, upd_ne _ _ e3, upd_ne _ _ e2]; exact h
theorem upd_rot {α : Type} {H : Nat → Option α} {a b k : Nat} {x y z : Option α} (hab : a ≠ b) (hbk : b ≠ k) : ∀ j o, upd (upd (upd H k z) a x) b y j = some o → upd (upd (upd H b y) k z) a x j = some o := fun j o h => by
  by_cases e1 : j = b
  · subst e1; rw [upd_same] at h; rw [upd_ne _ _ hab.symm, upd_ne _ _ hbk, upd_same]; exact h
  · rw [upd_ne _ _ e1] at h
    by_cases e2 : j = a
    · subst e2; rw [upd_same] at h ⊢; exact h
    · rw [upd_ne _ _ e2] at h ⊢
      by_cases e3 : j = k
      · subst e3; rw [upd_same] at h ⊢; exact h
      · rw [upd_ne _ _ e3] at h ⊢; rw [upd_ne _ _ e1]; exact h
theorem upd_2 {α : Type} {H : Nat → Option α} {k : Nat} {x y : Option α} : ∀ j o, upd H k y j = some o → upd (upd H k x) k y j = some o := fun j o h => by
  by_cases e : j = k
  · subst e; rw [upd_same] at h ⊢; exact h
  · rw [upd_ne _ _ e] at h; rw [upd_ne _ _ e, upd_ne _ _ e]; exact h
theorem upd_3 {α : Type} {H : Nat → Option α} {k : Nat} {x x' y : Option α} : ∀ j o, upd H k y j = some o → upd (upd (upd H k x) k x') k y j = some o := fun j o h => by
  by_cases e : j = k
  · subst e; rw [upd_same] at h ⊢; exact h
  · rw [upd_ne _ _ e] at h; rw [upd_ne _ _ e, upd_ne _ _ e, upd_ne _ _ e]; exact h
structure okQr (st : St) : Prop where
  il : st.its.length ≤ 1000000
  ig : ∀ x ∈ st.its, x.ag ≠ 1 → gdX x.ex
  wg : ¬ st.wh.op = 0 → gdX st.wh
  gl : st.grp.length ≤ 1000000
  gg : ∀ e ∈ st.grp, gdX e
  ol : st.ord.length ≤ 1000000
  fl : st.frm.length ≤ 1000000000
structure okQs (sp : Sp) (st : St) : Prop where
  ib : ∀ x ∈ st.its, x.ag ≠ 1 → bdP sp x.ex
  wb : ¬ st.wh.op = 0 → bdP sp st.wh
  gb : ∀ e ∈ st.grp, bdP sp e
structure okQb (d : List Tb) (st : St) : Prop where
  il : st.its.length ≤ 1000000
  gl : st.grp.length ≤ 1000000
  ol : st.ord.length ≤ 1000000
  fl : st.frm.length ≤ 1000000000
  q : okQs ⟨(frB d st.frm [] [] []).1, [], false⟩ st
theorem okQb.at {d : List Tb} {st : St} {ss : List Sr} {ts : List Int} {vs : List Vr} (h : okQb d st) (hE : (ss, ts, vs, (0 : Int)) = frB d st.frm [] [] []) : okQs ⟨ss, [], false⟩ st := by
  have := h.q
  rw [← hE] at this; exact this
theorem okQb_of {d : List Tb} {st : St} (h : okQr st) : okQb d st := ⟨h.il, h.gl, h.ol, h.fl, fun x hx k => bdP_of (h.ig x hx k), fun k => bdP_of (h.wg k), fun e he => bdP_of (h.gg e he)⟩
section
variable {d : List Tb} {l : List Fr} {i : Nat} {ss : List Sr} {ts : List Int} {vs : List Vr} {R : List Sr × List Int × List Vr × Int}
theorem fr_e4 (hi : i < l.length) (hI : frB d (l.drop i) ss ts vs = R) (h : fndI d l[i].tb < 0) : ([], [], [], 4) = R := by
  rw [qH hi, frB, if_pos h] at hI; exact hI
theorem fr_e5 (hi : i < l.length) (hI : frB d (l.drop i) ss ts vs = R) (h : ¬ fndI d l[i].tb < 0) (h2 : (ss.any fun y => decide (y.nm = frN l[i])) = true) : ([], [], [], 5) = R := by
  rw [qH hi, frB, if_neg h, if_pos h2] at hI; exact hI
theorem fr_st (hi : i < l.length) (hI : frB d (l.drop i) ss ts vs = R) (h : ¬ fndI d l[i].tb < 0) (h2 : (ss.any fun y => decide (y.nm = frN l[i])) = false) : frB d (l.drop (i + 1)) (ss ++ [⟨frN l[i], tbA d (fndI d l[i].tb), (vs.length : Int)⟩]) (ts ++ [fndI d l[i].tb]) (vs ++ vrsT (tbA d (fndI d l[i].tb))) = R := by
  rw [qH hi, frB, if_neg h, if_neg (by rw [h2]; simp)] at hI; exact hI
theorem fr_en (hI : frB d (l.drop l.length) ss ts vs = R) : (ss, ts, vs, 0) = R := by rw [List.drop_length, frB] at hI; exact hI
end
theorem qr_3 {d : List Tb} {st : St} (h : 3 < st.frm.length) : qryB d st = (bd0, 3) := by unfold qryB; rw [if_pos h]
section
variable {d : List Tb} {st : St} {ss : List Sr} {ts : List Int} {vs : List Vr}
theorem qr_e {e : Int} (h : ¬ 3 < st.frm.length) (hE : ([], [], [], e) = frB d st.frm [] [] []) (he : e ≠ 0) : qryB d st = (bd0, e) := by
  unfold qryB; rw [if_neg h]; dsimp only; rw [← hE, if_pos he]
theorem qr_i (h : ¬ 3 < st.frm.length) (hE : (ss, ts, vs, (0 : Int)) = frB d st.frm [] [] []) (h2 : (itsB ⟨ss, [], false⟩ st.its []).2 ≠ 0) : qryB d st = (bd0, (itsB ⟨ss, [], false⟩ st.its []).2) := by
  unfold qryB; rw [if_neg h]; dsimp only; rw [← hE, if_neg (by simp), if_pos h2]
theorem qr_w (h : ¬ 3 < st.frm.length) (hE : (ss, ts, vs, (0 : Int)) = frB d st.frm [] [] []) (h2 : ¬ (itsB ⟨ss, [], false⟩ st.its []).2 ≠ 0) (h3 : (cndB ⟨ss, [], false⟩ st.wh).2 ≠ 0) : qryB d st = (bd0, (cndB ⟨ss, [], false⟩ st.wh).2) := by
  unfold qryB; rw [if_neg h]; dsimp only; rw [← hE, if_neg (by simp), if_neg h2, if_pos h3]
theorem qr_g (h : ¬ 3 < st.frm.length) (hE : (ss, ts, vs, (0 : Int)) = frB d st.frm [] [] []) (h2 : ¬ (itsB ⟨ss, [], false⟩ st.its []).2 ≠ 0) (h3 : ¬ (cndB ⟨ss, [], false⟩ st.wh).2 ≠ 0) {e : Int} (h4 : e = (exsB ⟨ss, [], false⟩ st.grp []).2) (h5 : e ≠ 0) : qryB d st = (bd0, e) := by
  subst h4; unfold qryB; rw [if_neg h]; dsimp only; rw [← hE, if_neg (by simp), if_neg h2, if_neg h3, if_pos h5]
theorem qr_1 (h : ¬ 3 < st.frm.length) (hE : (ss, ts, vs, (0 : Int)) = frB d st.frm [] [] []) (h2 : ¬ (itsB ⟨ss, [], false⟩ st.its []).2 ≠ 0) (h3 : ¬ (cndB ⟨ss, [], false⟩ st.wh).2 ≠ 0) {es : List Ex} (h4 : (es, (0 : Int)) = exsB ⟨ss, [], false⟩ st.grp []) (h5 : grdB (itsB ⟨ss, [], false⟩ st.its []).1 es = false ∨ (st.ord.any fun o => decide (wdB st.its vs < o.it)) = true) : qryB d st = (bd0, 1) := by
  unfold qryB; rw [if_neg h]; dsimp only; rw [← hE, if_neg (by simp), if_neg h2, if_neg h3, ← h4, if_neg (by simp)]
  rcases h5 with h5 | h5
  · rw [if_pos h5]
  · by_cases h6 : grdB (itsB ⟨ss, [], false⟩ st.its []).1 es = false
    · rw [if_pos h6]
    · rw [if_neg h6, if_pos h5]
theorem qr_ok (h : ¬ 3 < st.frm.length) (hE : (ss, ts, vs, (0 : Int)) = frB d st.frm [] [] []) (h2 : ¬ (itsB ⟨ss, [], false⟩ st.its []).2 ≠ 0) (h3 : ¬ (cndB ⟨ss, [], false⟩ st.wh).2 ≠ 0) {es : List Ex} (h4 : (es, (0 : Int)) = exsB ⟨ss, [], false⟩ st.grp []) (h5 : grdB (itsB ⟨ss, [], false⟩ st.its []).1 es = true) (h6 : (st.ord.any fun o => decide (wdB st.its vs < o.it)) = false) : qryB d st = (⟨⟨st.k, st.tb, st.cr, st.vals, st.sets, (itsB ⟨ss, [], false⟩ st.its []).1, st.frm, (cndB ⟨ss, [], false⟩ st.wh).1, es, st.ord, st.lim, st.nm⟩, 0, ts, vs, []⟩, 0) := by
  unfold qryB; rw [if_neg h]; dsimp only; rw [← hE, if_neg (by simp), if_neg h2, if_neg h3, ← h4, if_neg (by simp), if_neg (by rw [h5]; simp), if_neg (by rw [h6]; simp)]
theorem gr_e {sp : Sp} {l : List Ex} {es : List Ex} {j : Nat} {R : List Ex × Int} (hj : j < l.length) (hJ : exsB sp (l.drop j) es = R) (h : (bndE sp l[j]).2.2 ≠ 0) : ([], (bndE sp l[j]).2.2) = R := by
  rw [qH hj, exsB, if_pos h] at hJ; exact hJ
theorem gr_st {sp : Sp} {l : List Ex} {es : List Ex} {j : Nat} {R : List Ex × Int} (hj : j < l.length) (hJ : exsB sp (l.drop j) es = R) (h : ¬ (bndE sp l[j]).2.2 ≠ 0) : exsB sp (l.drop (j + 1)) (es ++ [(bndE sp l[j]).1]) = R := by
  rw [qH hj, exsB, if_neg h] at hJ; exact hJ
theorem gr_en {sp : Sp} {l : List Ex} {es : List Ex} {R : List Ex × Int} (hJ : exsB sp (l.drop l.length) es = R) : (es, 0) = R := by rw [List.drop_length, exsB] at hJ; exact hJ
end
theorem upd_s4 {α : Type} {H : Nat → Option α} {a k : Nat} {w : α} {y y2 y3 : Option α} (h0 : H a = none) (hk : upd H a (some w) k = none) : ∀ j o, H j = some o → upd (upd (upd (upd H a (some w)) k y) k y2) k y3 j = some o := fun j o h => by
  obtain ⟨h1, h2⟩ := upd_lt hk
  have e2 : j ≠ a := fun e => by subst e; rw [h0] at h; cases h
  have e3 : j ≠ k := fun e => by subst e; rw [h2] at h; cases h
  rw [upd_ne _ _ e3, upd_ne _ _ e3, upd_ne _ _ e3, upd_ne _ _ e2]; exact h
theorem vr_l {t : Tb} : ((vrsT t).map vrT).length = t.cols.length := by rw [qA, qA]
theorem frN_t {f : Fr} (h : f.al ≠ ⟨#[]⟩) : frN f = f.al := if_pos h
theorem frN_f {f : Fr} (h : ¬ f.al ≠ ⟨#[]⟩) : frN f = f.tb := if_neg h
theorem wd_v {its : List It} {vs : List Vr} (h : its.length = 0) : wdB its vs = (((vs.map vrT).length : Nat) : Int) := by unfold wdB; rw [if_pos h, qA]
theorem wd_i {its : List It} {vs : List Vr} (h : ¬ its.length = 0) : wdB its vs = (((its.map itT).length : Nat) : Int) := by unfold wdB; rw [if_neg h, qA]
theorem h3_sub {α : Type} {H : Nat → Option α} {a b c : Nat} {x y z : α} (h1 : H a = none) (h2 : upd H a (some x) b = none) (h3 : upd (upd H a (some x)) b (some y) c = none) : ∀ j o, H j = some o → upd (upd (upd H a (some x)) b (some y)) c (some z) j = some o := fun j o h => upd_sub h3 j o (upd_sub h2 j o (upd_sub h1 j o h))
theorem query_any (d : List Tb) (z : Nz) (st : St) (hd : okDb d) (hst : okQb d st) (H : Heap) : E.Spec Tryz.prog 29 [scC z d, stC st] H fun x H' => ∃ b, x = bdX b (qryB d st).2 ∧ ((qryB d st).2 = 0 → b = (qryB d st).1) ∧ H' = H := by
 refine Spec.enter Tryz.func29 rfl ?_
 refine AW.wk (wK 171 (l := [(0, .c (scC z d)), (1, .c (stC st))]) (ll := []) (H := (H))) ?_
 refine D3 ?_
 refine D5 ?_
 refine AW.seq (D5 ?_)
 refine cD ?_ ?_ <;> intro h25
 ·
  refine D1 ?_
  refine SeqK.xw 26 rfl (XW.g (xr16 (xr4 (xr2 (xr1 (.cons (XW.nilU (sz := 1)) (.cons (XW.nilU (sz := 5)) (.cons (XW.nilU (sz := 1)) .nil)))))))) ?_
  refine G2 ?_
  exact aR (f2 (.cellL rfl rfl ty47 rfl rfl (.tmp rfl .nil)) (⟨_, bdXe (b := ⟨st, 0, [], [], []⟩) (e := 3) rfl (by rw [qr_3 (by rw [qA] at h25; omega)]), fun k => absurd k (by rw [qr_3 (by rw [qA] at h25; omega)]; first | decide | assumption), rfl⟩))
 have hf3 : st.frm.length ≤ 3 := by rw [qA] at h25; omega
 have hnf : ¬ 3 < st.frm.length := by omega
 refine AW.skip (D1 ?_)
 refine Z4 (AW.seqM (fun s => ∃ (ss : List Sr) (ts : List Int) (vs : List Vr), ((ss, ts, vs, (0 : Int)) = frB d st.frm [] [] []) ∧ (okSp (⟨ss, [], false⟩ : Sp)) ∧ s = ⟨171, sp [(0, .c (scC z d)), (3, .lp 3 0), (4, .lp 4 0), (5, .c (iC 0)), (6, .lp 6 0), (7, .lp 7 0)], lv [(3, .box (zSt st)), (4, .box zL2), (6, .box (zQ st (cV st) (cS st) (cI st) st.wh (cG st) 0 (.t (.sl .un 1 (ts.map i64T))) (.t (.sl .un 5 (vs.map vrT))) (.t (.sl .un 1 (([] : List (List RV)).map rowT))))), (7, .box [.t (.sl .un 7 (ss.map srT)), .t (.sl .un 5 (([] : List Vr).map vrT)), .t (.v (.bool false))])], H⟩) ?_ ?_)
 ·
  refine D5 ?_
  refine AW.block (AW.tipL 6 23 3 1 rfl rfl (fun k0 hk0 => ?_))
  refine AW.tipL 6 24 88 5 rfl rfl (fun k1 hk1 => ?_)
  refine AW.tipL 7 0 143 7 rfl rfl (fun k2 hk2 => ?_)
  refine AW.loop (fun (i : Nat) s => ∃ (ka kb kc : Nat) (zs us ws : List (List E.T)) (ss : List Sr) (ts : List Int) (vs : List Vr), (i ≤ st.frm.length ∧ H ka = none ∧ upd H ka (some (.tip 3 1 us.length)) kb = none ∧ upd (upd H ka (some (.tip 3 1 us.length))) kb (some (.tip 88 5 ws.length)) kc = none ∧ zs = ss.map srT ∧ us = ts.map i64T ∧ ws = vs.map vrT ∧ zs.length = i ∧ us.length = i ∧ ws.length ≤ i * 1000000 ∧ (∀ x ∈ ss, x.t.cols.length ≤ 1000000 ∧ 0 ≤ x.f0 ∧ x.f0 ≤ 1000000000000) ∧ frB d (st.frm.drop i) ss ts vs = frB d st.frm [] [] []) ∧ s = ⟨171, sp [(0, .c (scC z d)), (3, .lp 3 0), (4, .lp 4 0), (5, .c (iC 0)), (6, .lp 6 0), (7, .lp 7 0), (28, .c (frsC .un st.frm)), (29, iX .i64 (((st.frm.map frT).length : Nat) : Int)), (30, nX i)], lv [(3, .box (zSt st)), (4, .box zL2), (6, .box (zQ st (cV st) (cS st) (cI st) st.wh (cG st) 0 (.ts ka .ne 1 us) (.ts kb .ne 5 ws) (nA))), (7, .box [.ts kc .ne 7 zs, nA, .t (.v (.bool false))])], (upd (upd (upd H ka (some (.tip 3 1 us.length))) kb (some (.tip 88 5 ws.length))) kc (some (.tip 143 7 zs.length)))⟩) (fun i => st.frm.length - i) 0 ⟨_, by exact wK 171, k0, k1, k2, [], [], [], [], [], [], ⟨qZ _, hk0, hk1, hk2, rfl, rfl, rfl, rfl, rfl, qZ _, (fun x hx => by simp at hx), rfl⟩, rfl⟩ (fun i s hs => ?_)
  obtain ⟨ka, kb, kc, zs, us, ws, ss, ts, vs, ⟨hi0, hka, hkb, hkc, hzs, hus, hws, hzl, hul, hwl, hsx, hI⟩, rfl⟩ := hs
  refine D2 ?_
  refine AW.seq ?_
  refine cD ?_ ?_ <;> intro h31
  rotate_left
  ·
   have hsl : zs.length = ss.length := by rw [hzs, qA]
   refine AW.exit ?_
   refine eth_e ?_
   refine eth_e ?_
   refine exit_here ?_
   obtain rfl := oE h31 hi0
   have hE := fr_en hI
   have hspx : okSp (⟨ss, [], false⟩ : Sp) := ⟨by show ss.length ≤ _; rw [← hsl]; omega, qZ _, fun x hx => (hsx x hx).1, fun x hx => (hsx x hx).2⟩
   exact ⟨_, Wk.trans (Wk.xwL 6 rfl (xr16 (xr4 (xr2 (xr1 (.cons (XW.ts.trans (XW.es hus)) (.cons (XW.ts.trans (XW.es hws)) (.cons (XW.nilU (sz := 1)) .nil)))))))) (Wk.trans (Wk.xwL 7 rfl (.cons (XW.ts.trans (XW.es hzs)) (.cons (XW.nilU (sz := 5)) (.cons XW.reA .nil)))) (Wk.keep 171 [(0, .c (scC z d)), (3, .lp 3 0), (4, .lp 4 0), (5, .c (iC 0)), (6, .lp 6 0), (7, .lp 7 0)] [(3, .box (zSt st)), (4, .box zL2), (6, .box (zQ st (cV st) (cS st) (cI st) st.wh (cG st) 0 (.t (.sl .un 1 (ts.map i64T))) (.t (.sl .un 5 (vs.map vrT))) (.t (.sl .un 1 (([] : List (List RV)).map rowT))))), (7, .box [.t (.sl .un 7 (ss.map srT)), .t (.sl .un 5 (([] : List Vr).map vrT)), .t (.v (.bool false))])] (H) rfl ⟨rfl, rfl, rfl, rfl, rfl, rfl, trivial⟩ ⟨rfl, rfl, rfl, rfl, trivial⟩ (fun j o h => h3_sub hka hkb hkc j o h) rfl)), ss, ts, vs, hE, hspx, rfl⟩
  have hi := oI h31
  have hsl : zs.length = ss.length := by rw [hzs, qA]
  have hwv : ws.length = vs.length := by rw [hws, qA]
  refine AW.skip (AW.seq (AW.block (D5 ?_)))
  refine D3 ?_
  refine sQ (q_call _ rfl fn63 rfl (find_any d z st.frm[i].tb (by have := hd.len; omega)) rfl) ?_
  refine G5 ?_
  refine AW.seq (D3 ?_)
  refine AW.cond _ rfl (fun h42 => ?_) (fun h42 => ?_)
  ·
   refine D1 ?_
   refine SeqK.xw 43 rfl (XW.g (xr16 (xr4 (xr2 (xr1 (.cons (XW.ts.trans (XW.es hus)) (.cons (XW.ts.trans (XW.es hws)) (.cons (XW.nilU (sz := 1)) .nil)))))))) ?_
   refine G2 ?_
   exact aR (fin_x (x := .tup [_, _]) (H) (.cellL rfl rfl ty47 rfl rfl (.tmp rfl .nil)) rfl ((fun j o h => h3_sub hka hkb hkc j o h)) (⟨_, bdXe (b := ⟨st, 0, ts, vs, []⟩) (e := 4) rfl (by rw [qr_e hnf (fr_e4 hi hI (by have := jK (bnt h42); omega)) (by decide)]), fun k => absurd k (by rw [qr_e hnf (fr_e4 hi hI (by have := jK (bnt h42); omega)) (by decide)]; first | decide | assumption), rfl⟩))
  have hn0 : 0 ≤ (fndI d st.frm[i].tb) := jJ (bnf h42)
  have hn : ¬ (fndI d st.frm[i].tb) < 0 := by omega
  have hnm : max (fndI d st.frm[i].tb) 0 = (fndI d st.frm[i].tb) := by omega
  rw [hnm]
  have hnl := fndI_lt (d := d) (nm := st.frm[i].tb)
  have hnt : (fndI d st.frm[i].tb).toNat < d.length := by omega
  have hga : (tbA d (fndI d st.frm[i].tb)) = d[(fndI d st.frm[i].tb).toNat] := getD_at hnt
  have hok := hd.tb _ (qC hnt)
  rw [← hga] at hok
  have hidx : (d.map tbT)[(fndI d st.frm[i].tb).toNat]? = some (tbT (tbA d (fndI d st.frm[i].tb))) := by rw [qR, qF hnt, ← hga]; rfl
  refine AW.skip (AW.seq (AW.drawO [0, 1, 2, 3, 4, 5, 6, 7, 8, 9, 10, 11] mo (by kernel_rfl) ?_))
  refine LexO.q rfl (by kernel_rfl) (q_fieldL _ rfl fl65_0 rfl rfl) rfl rfl rfl ?_
  refine LexO.r rfl (by kernel_rfl) (b_load (r := .a _) rfl ty9 rfl rfl rfl rfl rfl rfl) rfl ?_
  refine LexO.q rfl (by kernel_rfl) (q_mvC rfl rfl) rfl rfl rfl ?_
  refine LexO.q rfl (by kernel_rfl) (q_mvC rfl rfl) rfl rfl rfl ?_
  refine LexO.q rfl (by kernel_rfl) (q_index _ rfl sl23 rfl rfl (by omega) (hidx)) rfl rfl rfl ?_
  refine LexO.q rfl (by kernel_rfl) (q_load (.g [_, _, _, _, _]) rfl ty72 rfl rfl rfl) rfl rfl rfl ?_
  refine LexO.q rfl (by kernel_rfl) (q_fieldL _ rfl fl47_3 rfl rfl) rfl rfl rfl ?_
  refine LexO.r rfl (by kernel_rfl) (b_load (r := .a _) rfl ty44 rfl rfl rfl rfl rfl rfl) rfl ?_
  refine LexO.q rfl (by kernel_rfl) (q_lenTs rfl un44 rfl) rfl rfl rfl ?_
  refine LexO.q rfl (by kernel_rfl) (q_build2 (zs := [_, _, _, _, _, _, _]) (r := [_, _, _, _, _, _, _]) [(0, 1), (1, 5), (6, 1)] _ rfl ze143 rfl bp143 rfl rfl rfl rfl) rfl rfl rfl ?_
  refine LexO.newAlloc (r := [_, _, _, _, _, _, _]) rfl (by kernel_rfl) (by kernel_rfl) (by kernel_rfl) rfl rfl rfl ze143 rfl rfl rfl (fun k12 hk12 => ?_)
  refine LexO.r rfl (by kernel_rfl) (g_store rfl rfl ty143 rfl rfl (by (repeat rw [upd_ne _ _ (by first | assumption | exact Ne.symm (by assumption))]); first | assumption | exact upd_same _ _ _) rfl rfl rfl) rfl ?_
  refine LexO.nil (by kernel_rfl) ?_
  refine AW.seqM (fun s => s = ⟨171, sp [(0, .c (scC z d)), (3, .lp 3 0), (4, .lp 4 0), (5, .c (iC 0)), (6, .lp 6 0), (7, .lp 7 0), (28, .c (frsC .un st.frm)), (29, iX .i64 (((st.frm.map frT).length : Nat) : Int)), (30, nX i), (9, .lp 9 0), (10, .c (iC (fndI d st.frm[i].tb))), (12, .c (.a (.bp k12 0)))], lv [(3, .box (zSt st)), (4, .box zL2), (6, .box (zQ st (cV st) (cS st) (cI st) st.wh (cG st) 0 (.ts ka .ne 1 us) (.ts kb .ne 5 ws) (nA))), (7, .box [.ts kc .ne 7 zs, nA, .t (.v (.bool false))]), (9, .box [.t (.v (.string st.frm[i].tb)), .t (.v (.string st.frm[i].al))])], (upd (upd (upd (upd H ka (some (.tip 3 1 us.length))) kb (some (.tip 88 5 ws.length))) kc (some (.tip 143 7 zs.length))) k12 (some (.box [.t (.v (.string (frN st.frm[i]))), .t (.v (.string (tbA d (fndI d st.frm[i].tb)).nm)), .t (.sl .un 6 ((tbA d (fndI d st.frm[i].tb)).cols.map coT)), .t (.sl .un 1 ((tbA d (fndI d st.frm[i].tb)).keys.map iLT)), .t (.sl .un 3 ((tbA d (fndI d st.frm[i].tb)).fks.map fkT)), .t (.sl .un 8 ((tbA d (fndI d st.frm[i].tb)).chks.map exT')), .t (.v (.int .i64 (ws.length : Nat)))])))⟩) ?_ ?_
  ·
   refine D2 ?_
   refine sQ (q_neqS rfl rfl rfl) ?_
   refine Z4 ?_
   refine cD ?_ ?_ <;> intro h56
   ·
    refine B2 ?_
    refine sQ (q_fieldH _ rfl fl143_0 rfl rfl) ?_
    refine G2 ?_
    exact ⟨_, by exact Wk.keep 171 _ _ _ rfl ⟨rfl, rfl, rfl, rfl, rfl, rfl, rfl, rfl, rfl, rfl, rfl, rfl, trivial⟩ ⟨rfl, rfl, rfl, rfl, rfl, trivial⟩ (fun j o h => by first | (rw [frN_t h56] at h; exact upd_3 j o h) | (rw [frN_f h56] at h; exact upd_2 j o h)) rfl, rfl⟩
   refine AW.skip ?_
   exact ⟨_, by exact Wk.keep 171 _ _ _ rfl ⟨rfl, rfl, rfl, rfl, rfl, rfl, rfl, rfl, rfl, rfl, rfl, rfl, trivial⟩ ⟨rfl, rfl, rfl, rfl, rfl, trivial⟩ (fun j o h => by first | (rw [frN_t h56] at h; exact upd_3 j o h) | (rw [frN_f h56] at h; exact upd_2 j o h)) rfl, rfl⟩
  rintro s rfl
  refine AW.seq (D2 ?_)
  refine SeqK.xw 61 rfl (XW.ts.trans (XW.es hzs)) ?_
  refine sQ (q_mkFn rfl rfl rfl) ?_
  refine SeqK.r (g_call rfl fn68 rfl (anyF_sr _ 69 [.bp k12 0] (fun y => decide (y.nm = frN st.frm[i])) ss .un fn69 (by rw [← hsl]; omega) (fun y hy H1 h1 => srEq_any H1 k12 (⟨frN st.frm[i], (tbA d (fndI d st.frm[i].tb)), (ws.length : Nat)⟩ : Sr) (h1 _ _ (upd_same _ _ _)) y)) rfl rfl rfl) rfl ?_
  refine Z4 ?_
  refine AW.cond _ rfl (fun h63 => ?_) (fun h63 => ?_)
  ·
   refine D1 ?_
   refine SeqK.xw 64 rfl (XW.g (xr16 (xr4 (xr2 (xr1 (.cons (XW.ts.trans (XW.es hus)) (.cons (XW.ts.trans (XW.es hws)) (.cons (XW.nilU (sz := 1)) .nil)))))))) ?_
   refine G2 ?_
   exact aR (fin_x (x := .tup [_, _]) (H) (.cellL rfl rfl ty47 rfl rfl (.tmp rfl .nil)) rfl ((fun j o h => upd_sub hk12 j o (h3_sub hka hkb hkc j o h))) (⟨_, bdXe (b := ⟨st, 0, ts, vs, []⟩) (e := 5) rfl (by rw [qr_e hnf (fr_e5 hi hI hn h63) (by decide)]), fun k => absurd k (by rw [qr_e hnf (fr_e5 hi hI hn h63) (by decide)]; first | decide | assumption), rfl⟩))
  refine AW.skip (D2 ?_)
  refine SeqK.r (g_load (r := .g [_, _, _, _, _, _, _]) rfl ty143 rfl (by (repeat rw [upd_ne _ _ (by first | assumption | exact Ne.symm (by assumption))]); first | assumption | exact upd_same _ _ _) rfl rfl rfl rfl) rfl ?_
  refine G1 ?_
  obtain ⟨nba, hb0⟩ := upd_lt hkb
  obtain ⟨ncb, hkc1⟩ := upd_lt hkc
  obtain ⟨nca, hc0⟩ := upd_lt hkc1
  obtain ⟨ndc, hk12a⟩ := upd_lt hk12
  obtain ⟨ndb, hk12b⟩ := upd_lt hk12a
  obtain ⟨nda, hd0⟩ := upd_lt hk12b
  refine SeqK.app rfl rfl el90 rfl (by rw [upd_ne _ _ ndc.symm, upd_same]) rfl (by simp [hzl]; omega) rfl rfl (fun k69 hk69 => ?_)
  obtain ⟨n1, hk69a⟩ := upd_lt hk69
  obtain ⟨n2, hk69b⟩ := upd_lt hk69a
  obtain ⟨n3, hk69c⟩ := upd_lt hk69b
  obtain ⟨n4, hk69d⟩ := upd_lt hk69c
  refine G3 ?_
  refine AW.seq (AW.wk (Wk.keep 171 [(0, .c (scC z d)), (3, .lp 3 0), (4, .lp 4 0), (5, .c (iC 0)), (6, .lp 6 0), (7, .lp 7 0), (28, .c (frsC .un st.frm)), (29, iX .i64 (((st.frm.map frT).length : Nat) : Int)), (30, nX i), (10, .c (iC (fndI d st.frm[i].tb)))] [(3, .box (zSt st)), (4, .box zL2), (6, .box (zQ st (cV st) (cS st) (cI st) st.wh (cG st) 0 (.ts ka .ne 1 us) (.ts kb .ne 5 ws) (nA))), (7, .box [.ts k69 .ne 7 (zs ++ [srT (⟨frN st.frm[i], (tbA d (fndI d st.frm[i].tb)), (ws.length : Nat)⟩ : Sr)]), nA, .t (.v (.bool false))])] ((upd (upd (upd H kb (some (.tip 88 5 ws.length))) k69 (some (.tip 143 7 (zs ++ [srT (⟨frN st.frm[i], (tbA d (fndI d st.frm[i].tb)), (ws.length : Nat)⟩ : Sr)]).length))) ka (some (.tip 3 1 us.length)))) rfl ⟨rfl, rfl, rfl, rfl, rfl, rfl, rfl, rfl, rfl, rfl, trivial⟩ ⟨rfl, rfl, rfl, rfl, trivial⟩ (upd_inc1 nba.symm nca.symm ncb.symm hc0 nda ndb hd0 n4 n3) rfl) ?_)
  refine B4 ?_
  refine SeqK.app1 rfl ((by rw [upd_ne _ _ n4.symm, upd_ne _ _ nba.symm]; exact hka)) rfl el43 rfl rfl (by simp [hul]; omega) rfl rfl (fun k75 hk75 => ?_)
  refine G3 ?_
  obtain ⟨m1, hk75a⟩ := upd_lt hk75
  obtain ⟨m2, hk75b⟩ := upd_lt hk75a
  refine AW.wk (Wk.keep 171 [(0, .c (scC z d)), (3, .lp 3 0), (4, .lp 4 0), (5, .c (iC 0)), (6, .lp 6 0), (7, .lp 7 0), (28, .c (frsC .un st.frm)), (29, iX .i64 (((st.frm.map frT).length : Nat) : Int)), (30, nX i), (10, .c (iC (fndI d st.frm[i].tb)))] [(3, .box (zSt st)), (4, .box zL2), (6, .box (zQ st (cV st) (cS st) (cI st) st.wh (cG st) 0 (.ts k75 .ne 1 (us ++ [i64T (fndI d st.frm[i].tb)])) (.ts kb .ne 5 ws) (nA))), (7, .box [.ts k69 .ne 7 (zs ++ [srT (⟨frN st.frm[i], (tbA d (fndI d st.frm[i].tb)), (ws.length : Nat)⟩ : Sr)]), nA, .t (.v (.bool false))])] ((upd (upd (upd H k69 (some (.tip 143 7 (zs ++ [srT (⟨frN st.frm[i], (tbA d (fndI d st.frm[i].tb)), (ws.length : Nat)⟩ : Sr)]).length))) k75 (some (.tip 3 1 (us ++ [i64T (fndI d st.frm[i].tb)]).length))) kb (some (.tip 88 5 ws.length)))) rfl ⟨rfl, rfl, rfl, rfl, rfl, rfl, rfl, rfl, rfl, rfl, trivial⟩ ⟨rfl, rfl, rfl, rfl, trivial⟩ (upd_rot m2 n3.symm) rfl) ?_
  refine AW.drawO [0, 1, 2, 3, 4, 5, 6, 7, 8, 9] mo (by kernel_rfl) ?_
  refine LexO.q rfl (by kernel_rfl) (q_fieldL _ rfl fl47_3 rfl rfl) rfl rfl rfl ?_
  refine LexO.r rfl (by kernel_rfl) (b_load (r := .a _) rfl ty44 rfl rfl rfl rfl rfl rfl) rfl ?_
  refine LexO.q rfl (by kernel_rfl) (q_mvC rfl rfl) rfl rfl rfl ?_
  refine LexO.q rfl (by kernel_rfl) (q_mvC rfl rfl) rfl rfl rfl ?_
  refine LexO.q rfl (by kernel_rfl) (q_index _ rfl sl23 rfl rfl (by omega) (hidx)) rfl rfl rfl ?_
  refine LexO.q rfl (by kernel_rfl) (q_load (.g [_, _, _, _, _]) rfl ty72 rfl rfl rfl) rfl rfl rfl ?_
  refine LexO.q rfl (by kernel_rfl) (q_call _ rfl fn64 rfl (variables_any (tbA d (fndI d st.frm[i].tb)) (by have := hok.cl; omega)) rfl) rfl rfl rfl ?_
  refine LexO.app1 rfl (by kernel_rfl) (by kernel_rfl) (by kernel_rfl) rfl ((by rw [upd_ne _ _ m2.symm, upd_ne _ _ n3.symm]; exact hb0)) rfl el44 rfl rfl (by have e := vr_l (t := (tbA d (fndI d st.frm[i].tb))); have := hok.cl; omega) rfl rfl (fun k84 hk84 => ?_)
  refine LexO.q rfl (by kernel_rfl) (q_fieldL _ rfl fl47_3 rfl rfl) rfl rfl rfl ?_
  refine LexO.r rfl (by kernel_rfl) (b_store (r := [_, _, _, _, _, _, _, _, _, _, _, _, _, _, _, _, _, _, _, _, _, _, _, _, _, _]) rfl rfl ty44 rfl rfl rfl rfl rfl rfl) rfl ?_
  refine LexO.nil (by kernel_rfl) ?_
  refine B3 ?_
  obtain ⟨m3, hk84a⟩ := upd_lt hk84
  obtain ⟨m4, hk84b⟩ := upd_lt hk84a
  exact ⟨i + 1, _, by exact Wk.keep 171 _ _ _ rfl ⟨rfl, rfl, rfl, rfl, rfl, rfl, rfl, rfl, rfl, trivial⟩ ⟨rfl, rfl, rfl, rfl, trivial⟩ (upd_rot m4 m1.symm) rfl, by omega, k75, k84, k69, (zs ++ [srT (⟨frN st.frm[i], (tbA d (fndI d st.frm[i].tb)), (ws.length : Nat)⟩ : Sr)]), (us ++ [i64T (fndI d st.frm[i].tb)]), (ws ++ (vrsT (tbA d (fndI d st.frm[i].tb))).map vrT), ss ++ [(⟨frN st.frm[i], (tbA d (fndI d st.frm[i].tb)), (ws.length : Nat)⟩ : Sr)], ts ++ [(fndI d st.frm[i].tb)], vs ++ vrsT (tbA d (fndI d st.frm[i].tb)), ⟨hi, hk75b, by rw [upd_ne _ _ m3]; exact hk84b, by rw [upd_ne _ _ m4.symm, upd_ne _ _ m1.symm]; exact hk69d, mp_put hzs, mp_put hus, by rw [hws, qK], by simp [hzl], by simp [hul], by have e := vr_l (t := tbA d (fndI d st.frm[i].tb)); have := hok.cl; rw [qG, e]; omega, (fun x hx => by rcases jC.1 hx with h | h; exact hsx x h; rw [jF.1 h]; exact ⟨hok.cl, Int.natCast_nonneg _, by show ((ws.length : Nat) : Int) ≤ _; omega⟩), by rw [hwv]; exact fr_st hi hI hn h63⟩, rfl⟩
 rintro s ⟨ss, ts, vs, hE, hsp, rfl⟩
 refine AW.seq (AW.drawO [0, 1, 2, 3, 4, 5, 6, 7, 8, 9, 10, 11] mo (by kernel_rfl) ?_)
 refine LexO.q rfl (by kernel_rfl) (q_fieldL _ rfl fl40_6 rfl rfl) rfl rfl rfl ?_
 refine LexO.r rfl (by kernel_rfl) (b_load (r := .a _) rfl ty33 rfl rfl rfl rfl rfl rfl) rfl ?_
 refine LexO.q rfl (by kernel_rfl) (q_call _ rfl fn70 rfl (cloneFr_any st.frm .un (by omega)) rfl) rfl rfl rfl ?_
 refine LexO.q rfl (by kernel_rfl) (q_fieldL _ rfl fl40_9 rfl rfl) rfl rfl rfl ?_
 refine LexO.r rfl (by kernel_rfl) (b_load (r := .a _) rfl ty38 rfl rfl rfl rfl rfl rfl) rfl ?_
 refine LexO.q rfl (by kernel_rfl) (q_call _ rfl fn71 rfl (cloneOd_any st.ord .un (by have := hst.ol; omega)) rfl) rfl rfl rfl ?_
 refine LexO.q rfl (by kernel_rfl) (q_fieldL _ rfl fl47_0 rfl rfl) rfl rfl rfl ?_
 refine LexO.q rfl (by kernel_rfl) (q_fieldL _ rfl fl40_6 rfl rfl) rfl rfl rfl ?_
 refine LexO.r rfl (by kernel_rfl) (b_store (r := [_, _, _, _, _, _, _, _, _, _, _, _, _, _, _, _, _, _, _, _, _, _, _, _, _, _]) rfl rfl ty33 rfl rfl rfl rfl rfl rfl) rfl ?_
 refine LexO.q rfl (by kernel_rfl) (q_fieldL _ rfl fl47_0 rfl rfl) rfl rfl rfl ?_
 refine LexO.q rfl (by kernel_rfl) (q_fieldL _ rfl fl40_9 rfl rfl) rfl rfl rfl ?_
 refine LexO.r rfl (by kernel_rfl) (b_store (r := [_, _, _, _, _, _, _, _, _, _, _, _, _, _, _, _, _, _, _, _, _, _, _, _, _, _]) rfl rfl ty38 rfl rfl rfl rfl rfl rfl) rfl ?_
 refine LexO.nil (by kernel_rfl) ?_
 refine D1 ?_
 refine AW.seq (D3 ?_)
 refine sQ (q_call _ rfl fn72 rfl (items_any (⟨ss, [], false⟩ : Sp) st.its .un hsp (by have := hst.il; omega) (hst.at hE).ib) rfl) ?_
 refine G7 ?_
 refine D3 ?_
 refine cD ?_ ?_ <;> intro h107
 ·
  refine D4 ?_
  exact aR (f2 (.cellL rfl rfl ty47 rfl rfl (.tmp rfl .nil)) (⟨_, bdXe (b := ⟨⟨st.k, st.tb, st.cr, st.vals, st.sets, (itsB (⟨ss, [], false⟩ : Sp) st.its []).1, st.frm, st.wh, st.grp, st.ord, st.lim, st.nm⟩, 0, ts, vs, []⟩) (e := _) rfl (by rw [qr_i hnf hE h107]), fun k => absurd k (by rw [qr_i hnf hE h107]; first | decide | assumption), rfl⟩))
 refine AW.skip (AW.seq (D3 ?_))
 refine Z16 fn67 (condition_any (⟨ss, [], false⟩ : Sp) st.wh hsp (hst.at hE).wb) ?_
 refine G7 ?_
 refine D3 ?_
 refine cD ?_ ?_ <;> intro h120
 ·
  refine D4 ?_
  exact aR (f2 (.cellL rfl rfl ty47 rfl rfl (.tmp rfl .nil)) (⟨_, bdXe (b := ⟨⟨st.k, st.tb, st.cr, st.vals, st.sets, (itsB (⟨ss, [], false⟩ : Sp) st.its []).1, st.frm, (cndB (⟨ss, [], false⟩ : Sp) st.wh).1, st.grp, st.ord, st.lim, st.nm⟩, 0, ts, vs, []⟩) (e := _) rfl (by rw [qr_w hnf hE h107 h120]), fun k => absurd k (by rw [qr_w hnf hE h107 h120]; first | decide | assumption), rfl⟩))
 refine AW.skip (D4 ?_)
 refine AW.seq (D5 ?_)
 refine AW.block (AW.tipL 6 18 37 8 rfl rfl (fun k0 hk0 => ?_))
 refine AW.loop (fun (j : Nat) s => ∃ (kg : Nat) (xs : List (List E.T)) (es : List Ex), (j ≤ st.grp.length ∧ H kg = none ∧ xs = es.map exT' ∧ xs.length = j ∧ exsB (⟨ss, [], false⟩ : Sp) (st.grp.drop j) es = exsB (⟨ss, [], false⟩ : Sp) st.grp []) ∧ s = ⟨171, sp [(3, .lp 3 0), (4, .lp 4 0), (5, .c (iC 0)), (6, .lp 6 0), (7, .lp 7 0), (126, .c (exsC .un st.grp)), (127, iX .i64 (((st.grp.map exT').length : Nat) : Int)), (128, nX j)], lv [(3, .box (zSt st)), (4, .box zL2), (6, .box (zQ st (cV st) (cS st) (.t (.sl .un 9 ((itsB (⟨ss, [], false⟩ : Sp) st.its []).1.map itT))) ((cndB (⟨ss, [], false⟩ : Sp) st.wh).1) (.ts kg .ne 8 xs) 0 (.t (.sl .un 1 (ts.map i64T))) (.t (.sl .un 5 (vs.map vrT))) (.t (.sl .un 1 (([] : List (List RV)).map rowT))))), (7, .box [.t (.sl .un 7 (ss.map srT)), .t (.sl .un 5 (([] : List Vr).map vrT)), .t (.v (.bool false))])], upd H kg (some (.tip 37 8 xs.length))⟩) (fun j => st.grp.length - j) 0 ⟨_, by exact wK 171, k0, [], [], ⟨qZ _, hk0, rfl, rfl, rfl⟩, rfl⟩ (fun j s hs => ?_)
 obtain ⟨kg, xs, es, ⟨hj0, hkg, hxs, hxl, hJ⟩, rfl⟩ := hs
 refine D2 ?_
 refine AW.seq ?_
 refine cD ?_ ?_ <;> intro h129
 ·
  have hj := oI h129
  have hgl0 := hst.gl
  refine AW.skip (AW.seq (AW.block (sR (Z12 Fx.sl27 (idx_ex hj) ?_))))
  refine Z13 (.g [_, _, _, _, _, _, _, _]) Fx.ty37 ?_
  refine Z20 (r := [_, _, _, _, _, _, _, _]) Fx.ze37 ?_
  refine Z3 (r := [_, _, _, _, _, _, _, _]) Fx.ty37 ?_
  refine Z4 (sR (Z10 (r := .g [_, _, _]) Fx.ty92 ?_))
  refine Z10 (r := .g [_, _, _, _, _, _, _, _]) Fx.ty37 ?_
  refine Z16 Fx.fn35 ((hst.at hE).gb _ (List.getElem_mem hj) hsp) ?_
  refine G8 ?_
  refine AW.seq (D3 ?_)
  refine cD ?_ ?_ <;> intro h140
  ·
   refine D1 ?_
   refine SeqK.xw 141 rfl (XW.g (xr16 (xr2 (.cons (XW.ts.trans (XW.es hxs)) (xr4 (xr2 (.cons XW.reA .nil))))))) ?_
   refine G3 ?_
   exact aR (fin_x (x := .tup [_, _]) (H) (.cellL rfl rfl ty47 rfl rfl (.tmp rfl .nil)) rfl ((fun j o h => upd_sub hkg j o h)) (⟨_, bdXe (b := ⟨⟨st.k, st.tb, st.cr, st.vals, st.sets, (itsB (⟨ss, [], false⟩ : Sp) st.its []).1, st.frm, (cndB (⟨ss, [], false⟩ : Sp) st.wh).1, es, st.ord, st.lim, st.nm⟩, 0, ts, vs, []⟩) (e := _) rfl (by rw [qr_g hnf hE h107 h120 (congrArg Prod.snd (gr_e hj hJ h140)) h140]), fun k => absurd k (by rw [qr_g hnf hE h107 h120 (congrArg Prod.snd (gr_e hj hJ h140)) h140]; first | decide | assumption), rfl⟩))
  refine AW.skip (B5 ?_)
  refine SeqK.app1 rfl (hkg) rfl el27 rfl rfl (by simp [hxl]; have := hst.gl; omega) rfl rfl (fun k148 hk148 => ?_)
  refine G4 ?_
  refine B3 ?_
  exact ⟨j + 1, _, by exact wK 171, by omega, k148, xs ++ [exL (bndE (⟨ss, [], false⟩ : Sp) st.grp[j]).1], es ++ [(bndE (⟨ss, [], false⟩ : Sp) st.grp[j]).1], ⟨hj, hk148, ex_put hxs, by simp [hxl], gr_st hj hJ h140⟩, rfl⟩
 refine AW.exit ?_
 refine eth_e ?_
 refine eth_e ?_
 refine exit_here ?_
 refine AW.seq (AW.seq ?_)
 obtain rfl := oE h129 hj0
 have hG := gr_en hJ
 have hgl2 : es.length ≤ 1000000000 := by have h1 := congrArg List.length hxs; rw [qA, hxl] at h1; have := hst.gl; omega
 obtain ⟨aI, aI1, aI2, _⟩ := its_again (s := (⟨ss, [], false⟩ : Sp)) rfl st.its [] (qY.1 h107)
 have hil2 : (itsB (⟨ss, [], false⟩ : Sp) st.its []).1.length ≤ 1000000000 := by rw [aI2]; have := hst.il; simp; omega
 refine AW.xwL 6 rfl (xr16 (xr2 (.cons (XW.ts.trans (XW.es hxs)) (xr4 (xr2 (.cons XW.reA .nil)))))) ?_
 refine B2 ?_
 refine Z16 fn73 (grouped_any ⟨st.k, st.tb, st.cr, st.vals, st.sets, (itsB (⟨ss, [], false⟩ : Sp) st.its []).1, st.frm, (cndB (⟨ss, [], false⟩ : Sp) st.wh).1, es, st.ord, st.lim, st.nm⟩ hgl2 hil2) ?_
 refine G2 ?_
 refine AW.cond _ rfl (fun h155 => ?_) (fun h155 => ?_)
 ·
  refine D3 ?_
  exact aR (fin_x (x := .tup [_, _]) (H) (.cellL rfl rfl ty47 rfl rfl (.tmp rfl .nil)) rfl ((fun j o h => upd_sub hkg j o h)) (⟨_, bdXe (b := ⟨⟨st.k, st.tb, st.cr, st.vals, st.sets, (itsB (⟨ss, [], false⟩ : Sp) st.its []).1, st.frm, (cndB (⟨ss, [], false⟩ : Sp) st.wh).1, es, st.ord, st.lim, st.nm⟩, 0, ts, vs, []⟩) (e := 1) rfl (by rw [qr_1 hnf hE h107 h120 hG (.inl (bnt h155))]), fun k => absurd k (by rw [qr_1 hnf hE h107 h120 hG (.inl (bnt h155))]; first | decide | assumption), rfl⟩))
 refine AW.skip (D3 ?_)
 refine SeqK.newAlloc (r := [_]) rfl rfl rfl ze3 rfl rfl rfl (fun k19 hk19 => ?_)
 refine G2 ?_
 refine AW.seq (D3 ?_)
 refine cD ?_ ?_ <;> intro h161
 ·
  refine B5 ?_
  refine AW.seq (D2 ?_)
  refine sQ (q_mkFn rfl rfl rfl) ?_
  refine SeqK.r (g_call rfl fn74 rfl (anyF_od _ 75 [.bp k19 0] (fun o => decide (wdB st.its vs < o.it)) st.ord .un fn75 (by have := hst.ol; omega) (fun o ho H1 h1 => odGt_any H1 k19 (wdB st.its vs) (by first | (rw [wd_v (vs := vs) (by (try simp only [qA] at h161); omega)]; exact h1 _ _ (upd_same _ _ _)) | (rw [wd_i (vs := vs) (by (try simp only [qA] at h161); omega)]; exact h1 _ _ (upd_same _ _ _))) o)) rfl rfl rfl) rfl ?_
  refine Z4 ?_
  refine AW.cond _ rfl (fun h168 => ?_) (fun h168 => ?_)
  ·
   refine D3 ?_
   exact aR (fin_x (x := .tup [_, _]) (H) (.cellL rfl rfl ty47 rfl rfl (.tmp rfl .nil)) rfl ((fun j o h => by first | exact upd_s2 hkg hk19 j o h | exact upd_s4 hkg hk19 j o h | exact upd_s1 hkg hk19 j o h)) (⟨_, bdXe (b := ⟨⟨st.k, st.tb, st.cr, st.vals, st.sets, (itsB (⟨ss, [], false⟩ : Sp) st.its []).1, st.frm, (cndB (⟨ss, [], false⟩ : Sp) st.wh).1, es, st.ord, st.lim, st.nm⟩, 0, ts, vs, []⟩) (e := 1) rfl (by rw [qr_1 hnf hE h107 h120 hG (.inr h168)]), fun k => absurd k (by rw [qr_1 hnf hE h107 h120 hG (.inr h168)]; first | decide | assumption), rfl⟩))
  refine AW.skip (D3 ?_)
  exact aR (fin_x (x := .tup [_, _]) (H) (.cellL rfl rfl ty47 rfl rfl (.tmp rfl .nil)) rfl ((fun j o h => by first | exact upd_s2 hkg hk19 j o h | exact upd_s4 hkg hk19 j o h | exact upd_s1 hkg hk19 j o h)) (⟨_, bdXe (b := ⟨⟨st.k, st.tb, st.cr, st.vals, st.sets, (itsB (⟨ss, [], false⟩ : Sp) st.its []).1, st.frm, (cndB (⟨ss, [], false⟩ : Sp) st.wh).1, es, st.ord, st.lim, st.nm⟩, 0, ts, vs, []⟩) (e := 0) rfl (by rw [qr_ok hnf hE h107 h120 hG (bnf h155) h168]), fun _ => by rw [qr_ok hnf hE h107 h120 hG (bnf h155) h168], rfl⟩))
 refine AW.skip (AW.seq (D2 ?_))
 refine sQ (q_mkFn rfl rfl rfl) ?_
 refine SeqK.r (g_call rfl fn74 rfl (anyF_od _ 75 [.bp k19 0] (fun o => decide (wdB st.its vs < o.it)) st.ord .un fn75 (by have := hst.ol; omega) (fun o ho H1 h1 => odGt_any H1 k19 (wdB st.its vs) (by first | (rw [wd_v (vs := vs) (by (try simp only [qA] at h161); omega)]; exact h1 _ _ (upd_same _ _ _)) | (rw [wd_i (vs := vs) (by (try simp only [qA] at h161); omega)]; exact h1 _ _ (upd_same _ _ _))) o)) rfl rfl rfl) rfl ?_
 refine Z4 ?_
 refine AW.cond _ rfl (fun h168 => ?_) (fun h168 => ?_)
 ·
  refine D3 ?_
  exact aR (fin_x (x := .tup [_, _]) (H) (.cellL rfl rfl ty47 rfl rfl (.tmp rfl .nil)) rfl ((fun j o h => by first | exact upd_s2 hkg hk19 j o h | exact upd_s4 hkg hk19 j o h | exact upd_s1 hkg hk19 j o h)) (⟨_, bdXe (b := ⟨⟨st.k, st.tb, st.cr, st.vals, st.sets, (itsB (⟨ss, [], false⟩ : Sp) st.its []).1, st.frm, (cndB (⟨ss, [], false⟩ : Sp) st.wh).1, es, st.ord, st.lim, st.nm⟩, 0, ts, vs, []⟩) (e := 1) rfl (by rw [qr_1 hnf hE h107 h120 hG (.inr h168)]), fun k => absurd k (by rw [qr_1 hnf hE h107 h120 hG (.inr h168)]; first | decide | assumption), rfl⟩))
 refine AW.skip (D3 ?_)
 exact aR (fin_x (x := .tup [_, _]) (H) (.cellL rfl rfl ty47 rfl rfl (.tmp rfl .nil)) rfl ((fun j o h => by first | exact upd_s2 hkg hk19 j o h | exact upd_s4 hkg hk19 j o h | exact upd_s1 hkg hk19 j o h)) (⟨_, bdXe (b := ⟨⟨st.k, st.tb, st.cr, st.vals, st.sets, (itsB (⟨ss, [], false⟩ : Sp) st.its []).1, st.frm, (cndB (⟨ss, [], false⟩ : Sp) st.wh).1, es, st.ord, st.lim, st.nm⟩, 0, ts, vs, []⟩) (e := 0) rfl (by rw [qr_ok hnf hE h107 h120 hG (bnf h155) h168]), fun _ => by rw [qr_ok hnf hE h107 h120 hG (bnf h155) h168], rfl⟩))
open Q
structure okSt (st : St) : Prop where
  ch : okCh st
  qr : okQr st
section
variable {d : List Tb} {st : St}
theorem chg_bad (h : (chgB d st).2 ≠ 0) : chgB d st = (bd0, (chgB d st).2) := by
  revert h; unfold chgB; dsimp only
  split
  · intro _; rfl
  · split
    · intro _; rfl
    · split
      · intro _; rfl
      · split
        · intro _; rfl
        · intro h; exact absurd rfl h
theorem qry_bad (h : (qryB d st).2 ≠ 0) : qryB d st = (bd0, (qryB d st).2) := by
  revert h; unfold qryB; dsimp only
  split
  · intro _; rfl
  · split
    · intro _; rfl
    · split
      · intro _; rfl
      · split
        · intro _; rfl
        · split
          · intro _; rfl
          · split
            · intro _; rfl
            · split
              · intro _; rfl
              · intro h; exact absurd rfl h
theorem bin_1 (h : st.k = 1) : binP d st = (bd0, 13) := if_pos h
theorem bin_c (h : st.k = 2 ∨ st.k = 3 ∨ st.k = 4) : binP d st = chgB d st := by rw [binP, if_neg (by omega), if_pos h]
theorem bin_ce (h : st.k = 2 ∨ st.k = 3 ∨ st.k = 4) (h2 : (chgB d st).2 ≠ 0) : binP d st = (bd0, (chgB d st).2) := by rw [bin_c h]; exact chg_bad h2
theorem bin_q (h : st.k = 5) : binP d st = qryB d st := by rw [binP, if_neg (by omega), if_neg (by omega), if_pos h]
theorem bin_qe (h : st.k = 5) (h2 : (qryB d st).2 ≠ 0) : binP d st = (bd0, (qryB d st).2) := by rw [bin_q h]; exact qry_bad h2
theorem bin_0 (h : st.k ≠ 1) (h2 : ¬ (st.k = 2 ∨ st.k = 3 ∨ st.k = 4)) (h3 : st.k ≠ 5) : binP d st = (⟨st, 0, [], [], []⟩, 0) := by rw [binP, if_neg h, if_neg h2, if_neg h3]
end
theorem binder_any (d : List Tb) (z : Nz) (st : St) (hd : okDb d) (hst : okSt st) : Pu 11 [scC z d, stC st] (bdX (binP d st).1 (binP d st).2) := by
 intro H
 refine Spec.enter Tryz.func11 rfl ?_
 refine AW.wk (wK 37 (l := [(0, .c (scC z d)), (1, .c (stC st))]) (ll := []) (H := (H))) ?_
 refine D3 ?_
 refine D2 ?_
 refine D1 ?_
 refine AW.seq (D3 ?_)
 refine AW.block (D2 ?_)
 refine cD ?_ ?_ <;> intro h12
 ·
  refine B1 ?_
  refine AW.seq (D3 ?_)
  refine cD ?_ ?_ <;> intro h33
  ·
   refine D1 ?_
   refine SeqK.xw 34 rfl (XW.g (xr2 (.cons (XW.nilU (sz := 6)) (.cons (XW.nilU (sz := 1)) (.cons (XW.nilU (sz := 3)) (.cons (XW.nilU (sz := 8)) (.cons (XW.nilU (sz := 1)) (.cons (XW.nilU (sz := 10)) (.cons (XW.nilU (sz := 9)) (.cons (XW.nilU (sz := 2)) (xr4 (xr2 (xr1 (.cons (XW.nilU (sz := 8)) (.cons (XW.nilU (sz := 8)) (.cons (XW.nilU (sz := 2)) (xr2 (xr1 (.cons (XW.nilU (sz := 1)) (.cons (XW.nilU (sz := 5)) (.cons (XW.nilU (sz := 1)) .nil))))))))))))))))))))) ?_
   refine G3 ?_
   exact aR (f2 (.cellL rfl rfl ty47 rfl rfl (.tmp rfl .nil)) (⟨bdXe (b := bd0) (e := 13) (by rw [bin_1 (by omega)]) (by rw [bin_1 (by omega)]), rfl⟩))
  refine AW.skip (D1 ?_)
  first | refine SeqK.xw 36 rfl (XW.g (xr16 (xr4 (xr2 (xr1 (.cons (XW.nilU (sz := 1)) (.cons (XW.nilU (sz := 5)) (.cons (XW.nilU (sz := 1)) .nil)))))))) ?_ | skip
  refine G2 ?_
  exact aR (f2 (.cellL rfl rfl ty47 rfl rfl (.tmp rfl .nil)) ((absurd (by decide : (13 : Int) ≠ 0) h33)))
 refine AW.seq (D2 ?_)
 refine cD ?_ ?_ <;> intro h14
 ·
  refine AW.skip ?_
  refine AW.condD rfl (fun _ => ?_) (fun hq => absurd h14 hq)
  refine B2 ?_
  refine SeqK.callE rfl rfl rfl rfl fn28 rfl (change_any d z st hd hst.ch _) (fun _ _ h => by obtain ⟨_, h, _⟩ := h; rw [h]; rfl) (fun x21 H21 q21 => ?_)
  obtain ⟨b, rfl, hb, e21⟩ := q21
  replace e21 := e21.symm
  subst e21
  refine G5 ?_
  refine AW.seq (D3 ?_)
  refine cD ?_ ?_ <;> intro h33
  ·
   refine D1 ?_
   refine SeqK.xw 34 rfl (XW.g (xr2 (.cons (XW.nilU (sz := 6)) (.cons (XW.nilU (sz := 1)) (.cons (XW.nilU (sz := 3)) (.cons (XW.nilU (sz := 8)) (.cons (XW.nilU (sz := 1)) (.cons (XW.nilU (sz := 10)) (.cons (XW.nilU (sz := 9)) (.cons (XW.nilU (sz := 2)) (xr4 (xr2 (xr1 (.cons (XW.nilU (sz := 8)) (.cons (XW.nilU (sz := 8)) (.cons (XW.nilU (sz := 2)) (xr2 (xr1 (.cons (XW.nilU (sz := 1)) (.cons (XW.nilU (sz := 5)) (.cons (XW.nilU (sz := 1)) .nil))))))))))))))))))))) ?_
   refine G3 ?_
   exact aR (f2 (.cellL rfl rfl ty47 rfl rfl (.tmp rfl .nil)) (⟨bdXe (b := bd0) (e := (chgB d st).2) (by rw [bin_ce (by omega) h33]) (by rw [bin_ce (by omega) h33]), rfl⟩))
  refine AW.skip (D1 ?_)
  first | refine SeqK.xw 36 rfl (XW.g (xr16 (xr4 (xr2 (xr1 (.cons (XW.nilU (sz := 1)) (.cons (XW.nilU (sz := 5)) (.cons (XW.nilU (sz := 1)) .nil)))))))) ?_ | skip
  refine G2 ?_
  exact aR (f2 (.cellL rfl rfl ty47 rfl rfl (.tmp rfl .nil)) (⟨bdXe (b := b) (e := 0) (by rw [bin_c (by omega)]; exact hb (qY.1 h33)) (by rw [bin_c (by omega)]; exact (qY.1 h33).symm), rfl⟩))
 refine D2 ?_
 refine cD ?_ ?_ <;> intro h14
 ·
  refine AW.skip ?_
  refine AW.condD rfl (fun _ => ?_) (fun hq => absurd h14 hq)
  refine B2 ?_
  refine SeqK.callE rfl rfl rfl rfl fn28 rfl (change_any d z st hd hst.ch _) (fun _ _ h => by obtain ⟨_, h, _⟩ := h; rw [h]; rfl) (fun x21 H21 q21 => ?_)
  obtain ⟨b, rfl, hb, e21⟩ := q21
  replace e21 := e21.symm
  subst e21
  refine G5 ?_
  refine AW.seq (D3 ?_)
  refine cD ?_ ?_ <;> intro h33
  ·
   refine D1 ?_
   refine SeqK.xw 34 rfl (XW.g (xr2 (.cons (XW.nilU (sz := 6)) (.cons (XW.nilU (sz := 1)) (.cons (XW.nilU (sz := 3)) (.cons (XW.nilU (sz := 8)) (.cons (XW.nilU (sz := 1)) (.cons (XW.nilU (sz := 10)) (.cons (XW.nilU (sz := 9)) (.cons (XW.nilU (sz := 2)) (xr4 (xr2 (xr1 (.cons (XW.nilU (sz := 8)) (.cons (XW.nilU (sz := 8)) (.cons (XW.nilU (sz := 2)) (xr2 (xr1 (.cons (XW.nilU (sz := 1)) (.cons (XW.nilU (sz := 5)) (.cons (XW.nilU (sz := 1)) .nil))))))))))))))))))))) ?_
   refine G3 ?_
   exact aR (f2 (.cellL rfl rfl ty47 rfl rfl (.tmp rfl .nil)) (⟨bdXe (b := bd0) (e := (chgB d st).2) (by rw [bin_ce (by omega) h33]) (by rw [bin_ce (by omega) h33]), rfl⟩))
  refine AW.skip (D1 ?_)
  first | refine SeqK.xw 36 rfl (XW.g (xr16 (xr4 (xr2 (xr1 (.cons (XW.nilU (sz := 1)) (.cons (XW.nilU (sz := 5)) (.cons (XW.nilU (sz := 1)) .nil)))))))) ?_ | skip
  refine G2 ?_
  exact aR (f2 (.cellL rfl rfl ty47 rfl rfl (.tmp rfl .nil)) (⟨bdXe (b := b) (e := 0) (by rw [bin_c (by omega)]; exact hb (qY.1 h33)) (by rw [bin_c (by omega)]; exact (qY.1 h33).symm), rfl⟩))
 refine B2 ?_
 refine cD ?_ ?_ <;> intro h14
 ·
  refine B2 ?_
  refine SeqK.callE rfl rfl rfl rfl fn28 rfl (change_any d z st hd hst.ch _) (fun _ _ h => by obtain ⟨_, h, _⟩ := h; rw [h]; rfl) (fun x21 H21 q21 => ?_)
  obtain ⟨b, rfl, hb, e21⟩ := q21
  replace e21 := e21.symm
  subst e21
  refine G5 ?_
  refine AW.seq (D3 ?_)
  refine cD ?_ ?_ <;> intro h33
  ·
   refine D1 ?_
   refine SeqK.xw 34 rfl (XW.g (xr2 (.cons (XW.nilU (sz := 6)) (.cons (XW.nilU (sz := 1)) (.cons (XW.nilU (sz := 3)) (.cons (XW.nilU (sz := 8)) (.cons (XW.nilU (sz := 1)) (.cons (XW.nilU (sz := 10)) (.cons (XW.nilU (sz := 9)) (.cons (XW.nilU (sz := 2)) (xr4 (xr2 (xr1 (.cons (XW.nilU (sz := 8)) (.cons (XW.nilU (sz := 8)) (.cons (XW.nilU (sz := 2)) (xr2 (xr1 (.cons (XW.nilU (sz := 1)) (.cons (XW.nilU (sz := 5)) (.cons (XW.nilU (sz := 1)) .nil))))))))))))))))))))) ?_
   refine G3 ?_
   exact aR (f2 (.cellL rfl rfl ty47 rfl rfl (.tmp rfl .nil)) (⟨bdXe (b := bd0) (e := (chgB d st).2) (by rw [bin_ce (by omega) h33]) (by rw [bin_ce (by omega) h33]), rfl⟩))
  refine AW.skip (D1 ?_)
  first | refine SeqK.xw 36 rfl (XW.g (xr16 (xr4 (xr2 (xr1 (.cons (XW.nilU (sz := 1)) (.cons (XW.nilU (sz := 5)) (.cons (XW.nilU (sz := 1)) .nil)))))))) ?_ | skip
  refine G2 ?_
  exact aR (f2 (.cellL rfl rfl ty47 rfl rfl (.tmp rfl .nil)) (⟨bdXe (b := b) (e := 0) (by rw [bin_c (by omega)]; exact hb (qY.1 h33)) (by rw [bin_c (by omega)]; exact (qY.1 h33).symm), rfl⟩))
 refine D2 ?_
 refine cD ?_ ?_ <;> intro h24
 ·
  refine B2 ?_
  refine SeqK.callE rfl rfl rfl rfl fn29 rfl (query_any d z st hd (okQb_of hst.qr) _) (fun _ _ h => by obtain ⟨_, h, _⟩ := h; rw [h]; rfl) (fun x29 H29 q29 => ?_)
  obtain ⟨b, rfl, hb, e29⟩ := q29
  replace e29 := e29.symm
  subst e29
  refine G5 ?_
  refine AW.seq (D3 ?_)
  refine cD ?_ ?_ <;> intro h33
  ·
   refine D1 ?_
   refine SeqK.xw 34 rfl (XW.g (xr2 (.cons (XW.nilU (sz := 6)) (.cons (XW.nilU (sz := 1)) (.cons (XW.nilU (sz := 3)) (.cons (XW.nilU (sz := 8)) (.cons (XW.nilU (sz := 1)) (.cons (XW.nilU (sz := 10)) (.cons (XW.nilU (sz := 9)) (.cons (XW.nilU (sz := 2)) (xr4 (xr2 (xr1 (.cons (XW.nilU (sz := 8)) (.cons (XW.nilU (sz := 8)) (.cons (XW.nilU (sz := 2)) (xr2 (xr1 (.cons (XW.nilU (sz := 1)) (.cons (XW.nilU (sz := 5)) (.cons (XW.nilU (sz := 1)) .nil))))))))))))))))))))) ?_
   refine G3 ?_
   exact aR (f2 (.cellL rfl rfl ty47 rfl rfl (.tmp rfl .nil)) (⟨bdXe (b := bd0) (e := (qryB d st).2) (by rw [bin_qe (by omega) h33]) (by rw [bin_qe (by omega) h33]), rfl⟩))
  refine AW.skip (D1 ?_)
  first | refine SeqK.xw 36 rfl (XW.g (xr16 (xr4 (xr2 (xr1 (.cons (XW.nilU (sz := 1)) (.cons (XW.nilU (sz := 5)) (.cons (XW.nilU (sz := 1)) .nil)))))))) ?_ | skip
  refine G2 ?_
  exact aR (f2 (.cellL rfl rfl ty47 rfl rfl (.tmp rfl .nil)) (⟨bdXe (b := b) (e := 0) (by rw [bin_q (by omega)]; exact hb (qY.1 h33)) (by rw [bin_q (by omega)]; exact (qY.1 h33).symm), rfl⟩))
 refine B4 ?_
 refine AW.seq (D3 ?_)
 refine cD ?_ ?_ <;> intro h33
 ·
  refine D1 ?_
  refine SeqK.xw 34 rfl (XW.g (xr2 (.cons (XW.nilU (sz := 6)) (.cons (XW.nilU (sz := 1)) (.cons (XW.nilU (sz := 3)) (.cons (XW.nilU (sz := 8)) (.cons (XW.nilU (sz := 1)) (.cons (XW.nilU (sz := 10)) (.cons (XW.nilU (sz := 9)) (.cons (XW.nilU (sz := 2)) (xr4 (xr2 (xr1 (.cons (XW.nilU (sz := 8)) (.cons (XW.nilU (sz := 8)) (.cons (XW.nilU (sz := 2)) (xr2 (xr1 (.cons (XW.nilU (sz := 1)) (.cons (XW.nilU (sz := 5)) (.cons (XW.nilU (sz := 1)) .nil))))))))))))))))))))) ?_
  refine G3 ?_
  exact aR (f2 (.cellL rfl rfl ty47 rfl rfl (.tmp rfl .nil)) ((absurd rfl h33)))
 refine AW.skip (D1 ?_)
 first | refine SeqK.xw 36 rfl (XW.g (xr16 (xr4 (xr2 (xr1 (.cons (XW.nilU (sz := 1)) (.cons (XW.nilU (sz := 5)) (.cons (XW.nilU (sz := 1)) .nil)))))))) ?_ | skip
 refine G2 ?_
 exact aR (f2 (.cellL rfl rfl ty47 rfl rfl (.tmp rfl .nil)) (⟨bdXe (b := ⟨st, 0, [], [], []⟩) (e := 0) (by rw [bin_0 (by omega) (by omega) (by omega)]) (by rw [bin_0 (by omega) (by omega) (by omega)]), rfl⟩))
open Q
abbrev colE (nm : ByteArray) : Ex := ⟨2, ⟨#[]⟩, nm, 0, 0, 0, ⟨#[]⟩, []⟩
abbrev exD : List Tb := [⟨⟨#[116]⟩, [⟨⟨#[97]⟩, 1, -5, 5, 0, false⟩, ⟨⟨#[98]⟩, 2, 0, 0, 4, false⟩], [], [], []⟩]
theorem okExD : okDb exD := ⟨by decide, fun t ht => by
  rw [jF.1 ht]
  exact ⟨by decide, fun c hc => by
    rcases jD.1 hc with h | h
    · rw [h]; exact .inl rfl
    · rw [jF.1 h]; exact .inr rfl⟩⟩
theorem example_any  : Pu 16 [] (.c (scC .nn exD)) := by
 intro H
 refine Spec.enter Tryz.func16 rfl ?_
 refine AW.wk (wK 6 (l := []) (ll := []) (H := (H))) ?_
 refine D1 ?_
 refine D3 ?_
 refine SeqK.xw 3 rfl .un ?_
 refine G1 ?_
 refine SeqK.xw 4 rfl (XW.g (xr2 (.cons (XW.nilU (sz := 1)) (.cons (XW.nilU (sz := 3)) (.cons (XW.nilU (sz := 8)) .nil))))) ?_
 refine G2 ?_
 exact aR (f1 (q := ⟨rfl, rfl⟩))
theorem col_any (nm : ByteArray) : Pu 17 [sC nm] (.c (exC (colE nm))) := by
 intro H
 refine Spec.enter Tryz.func17 rfl ?_
 refine AW.wk (wK 5 (l := [(0, .c (sC nm))]) (ll := []) (H := (H))) ?_
 refine D2 ?_
 refine D2 ?_
 refine SeqK.xw 4 rfl (XW.g (xr4 (xr2 (xr1 (.cons (XW.nilU (sz := 8)) .nil))))) ?_
 refine G2 ?_
 refine AW.ret ?_
 exact f1 (.cellL rfl rfl ty37 rfl rfl .nil) (⟨rfl, rfl⟩)
open Q
def ttB (x : It) (s : ByteArray) : ByteArray :=
  if x.ag = 1 then ⟨#[67, 79, 85, 78, 84, 40, 42, 41]⟩
  else if x.ag = 2 then ⟨#[67, 79, 85, 78, 84, 40]⟩ ++ s ++ ⟨#[41]⟩
  else if x.ag = 3 then ⟨#[83, 85, 77, 40]⟩ ++ s ++ ⟨#[41]⟩
  else if x.ag = 4 then ⟨#[77, 73, 78, 40]⟩ ++ s ++ ⟨#[41]⟩
  else if x.ag = 5 then ⟨#[77, 65, 88, 40]⟩ ++ s ++ ⟨#[41]⟩
  else if icB x.ex = true then x.ex.nm
  else s
theorem title_any (x : It) (s : ByteArray) (e : Int) (hs : s.size ≤ 10000000) (hf : Pu 59 [exC x.ex] (.tup [sC s, iC e])) : Pu 26 [itC x] (.c (sC (ttB x s))) := by
 intro H
 refine Spec.enter Tryz.func26 rfl ?_
 refine AW.wk (wK 42 (l := [(0, .c (itC x))]) (ll := []) (H := (H))) ?_
 refine D2 ?_
 refine D2 ?_
 refine Z16 fn59 (hf) ?_
 refine G5 ?_
 refine AW.seq (D3 ?_)
 refine AW.block (D2 ?_)
 refine cD ?_ ?_ <;> intro h13
 ·
  refine D1 ?_
  exact aR (f1 (q := ⟨by unfold ttB; simp [*], rfl⟩))
 refine D2 ?_
 refine cD ?_ ?_ <;> intro h15
 ·
  refine D1 ?_
  refine sQ (q_addS rfl rfl rfl (by have e6 : (⟨#[67, 79, 85, 78, 84, 40]⟩ : ByteArray).size = 6 := rfl; omega)) ?_
  refine sQ (q_addS rfl rfl rfl (by have e6 : (⟨#[67, 79, 85, 78, 84, 40]⟩ : ByteArray).size = 6 := rfl; have e1 : (⟨#[41]⟩ : ByteArray).size = 1 := rfl; have e7 : ((⟨#[67, 79, 85, 78, 84, 40]⟩ : ByteArray) ++ s).size = (⟨#[67, 79, 85, 78, 84, 40]⟩ : ByteArray).size + s.size := qE; omega)) ?_
  refine sB ?_
  exact aR (f1 (q := ⟨by unfold ttB; simp [*], rfl⟩))
 refine D2 ?_
 refine cD ?_ ?_ <;> intro h20
 ·
  refine D1 ?_
  refine sQ (q_addS rfl rfl rfl (by have e6 : (⟨#[83, 85, 77, 40]⟩ : ByteArray).size = 4 := rfl; omega)) ?_
  refine sQ (q_addS rfl rfl rfl (by have e6 : (⟨#[83, 85, 77, 40]⟩ : ByteArray).size = 4 := rfl; have e1 : (⟨#[41]⟩ : ByteArray).size = 1 := rfl; have e7 : ((⟨#[83, 85, 77, 40]⟩ : ByteArray) ++ s).size = (⟨#[83, 85, 77, 40]⟩ : ByteArray).size + s.size := qE; omega)) ?_
  refine sB ?_
  exact aR (f1 (q := ⟨by unfold ttB; simp [*], rfl⟩))
 refine D2 ?_
 refine cD ?_ ?_ <;> intro h25
 ·
  refine D1 ?_
  refine sQ (q_addS rfl rfl rfl (by have e6 : (⟨#[77, 73, 78, 40]⟩ : ByteArray).size = 4 := rfl; omega)) ?_
  refine sQ (q_addS rfl rfl rfl (by have e6 : (⟨#[77, 73, 78, 40]⟩ : ByteArray).size = 4 := rfl; have e1 : (⟨#[41]⟩ : ByteArray).size = 1 := rfl; have e7 : ((⟨#[77, 73, 78, 40]⟩ : ByteArray) ++ s).size = (⟨#[77, 73, 78, 40]⟩ : ByteArray).size + s.size := qE; omega)) ?_
  refine sB ?_
  exact aR (f1 (q := ⟨by unfold ttB; simp [*], rfl⟩))
 refine D2 ?_
 refine cD ?_ ?_ <;> intro h30
 ·
  refine D1 ?_
  refine sQ (q_addS rfl rfl rfl (by have e6 : (⟨#[77, 65, 88, 40]⟩ : ByteArray).size = 4 := rfl; omega)) ?_
  refine sQ (q_addS rfl rfl rfl (by have e6 : (⟨#[77, 65, 88, 40]⟩ : ByteArray).size = 4 := rfl; have e1 : (⟨#[41]⟩ : ByteArray).size = 1 := rfl; have e7 : ((⟨#[77, 65, 88, 40]⟩ : ByteArray) ++ s).size = (⟨#[77, 65, 88, 40]⟩ : ByteArray).size + s.size := qE; omega)) ?_
  refine sB ?_
  exact aR (f1 (q := ⟨by unfold ttB; simp [*], rfl⟩))
 refine AW.skip (AW.seq (D2 ?_))
 refine Z16 fn60 (isColumn_any _) ?_
 refine Z4 ?_
 refine AW.cond _ rfl (fun h37 => ?_) (fun h37 => ?_)
 ·
  refine D4 ?_
  exact aR (f1 (q := ⟨by unfold ttB; simp [*], rfl⟩))
 refine AW.skip (D2 ?_)
 exact aR (f1 (q := ⟨by unfold ttB; simp [*], rfl⟩))
open Q
abbrev nmC (d : List Tb) (n : Int) : List ByteArray := (tbA d n).cols.map fun x => x.nm
def hdB (d : List Tb) (b : Bd) (fx : Ex → ByteArray) : List ByteArray :=
  if b.st.k ≠ 5 then [] else if b.st.its.length = 0 then b.tabs.flatMap (nmC d) else b.st.its.map fun x => ttB x (fx x.ex)
section
variable {d : List Tb} {b : Bd} {fx : Ex → ByteArray}
theorem hd_0 (h : b.st.k ≠ 5) : [] = hdB d b fx := by rw [hdB, if_pos h]
theorem hd_1 (h : ¬ b.st.k ≠ 5) (h2 : b.st.its.length = 0) : b.tabs.flatMap (nmC d) = hdB d b fx := by rw [hdB, if_neg h, if_pos h2]
theorem hd_2 (h : ¬ b.st.k ≠ 5) (h2 : ¬ b.st.its.length = 0) : (b.st.its.map fun x => ttB x (fx x.ex)) = hdB d b fx := by rw [hdB, if_neg h, if_neg h2]
theorem flat_take2 {α β : Type} {f : α → List β} {l : List α} {i : Nat} (hi : i < l.length) : (l.take (i + 1)).flatMap f = (l.take i).flatMap f ++ f l[i] := by
  rw [qJ hi, List.flatMap_append]; simp
theorem map_take2 {α β : Type} {f : α → β} {l : List α} {i : Nat} (hi : i < l.length) : (l.take (i + 1)).map f = (l.take i).map f ++ [f l[i]] := by
  rw [qJ hi, qK]; rfl
end
abbrev hdC (z : Nz) (l : List ByteArray) : C := .a (.t (.sl z 1 (l.map txT)))
theorem hde {a b : List ByteArray} (h : a = b) : X.c (hdC .un a) = .c (hdC .un b) := by rw [h]
abbrev zBd (x : Bd) : List A := [.t (.v (.int .i64 x.st.k)), .t (.v (.string x.st.tb)), .t (.sl .un 6 (x.st.cr.cols.map coT)), .t (.sl .un 1 (x.st.cr.keys.map sLT)), .t (.sl .un 3 (x.st.cr.fks.map rfT)), .t (.sl .un 8 (x.st.cr.chks.map exT')), .t (.sl .un 1 (x.st.vals.map exLT)), .t (.sl .un 10 (x.st.sets.map asT)), .t (.sl .un 9 (x.st.its.map itT)), .t (.sl .un 2 (x.st.frm.map frT)), .t (.v (.int .i64 x.st.wh.op)), .t (.v (.string x.st.wh.tb)), .t (.v (.string x.st.wh.nm)), .t (.v (.int .i64 x.st.wh.ix)), .t (.v (.int .i64 x.st.wh.vk)), .t (.v (.int .i64 x.st.wh.vn)), .t (.v (.string x.st.wh.vs)), .t (.sl .un 8 (x.st.wh.args.map exT')), .t (.sl .un 8 (x.st.grp.map exT')), .t (.sl .un 2 (x.st.ord.map odT)), .t (.v (.int .i64 x.st.lim)), .t (.v (.string x.st.nm)), .t (.v (.int .i64 x.tab)), .t (.sl .un 1 (x.tabs.map i64T)), .t (.sl .un 5 (x.vars.map vrT)), .t (.sl .un 1 (x.rows.map rowT))]
theorem header_any (d : List Tb) (z : Nz) (b : Bd) (fx : Ex → ByteArray) (hd : okDb d) (ht : ∀ n ∈ b.tabs, 0 ≤ n ∧ n.toNat < d.length) (htl : b.tabs.length ≤ 1000) (hil : b.st.its.length ≤ 1000000) (hf : ∀ x ∈ b.st.its, (fx x.ex).size ≤ 10000000 ∧ ∃ e, Pu 59 [exC x.ex] (.tup [sC (fx x.ex), iC e])) : Pu 9 [scC z d, bdC b] (.c (hdC .un (hdB d b fx))) := by
 intro H
 refine Spec.enter Tryz.func9 rfl ?_
 refine AW.wk (wK 61 (l := [(0, .c (scC z d)), (1, .c (bdC b))]) (ll := []) (H := (H))) ?_
 refine D2 ?_
 refine AW.seq (D5 ?_)
 refine cD ?_ ?_ <;> intro h15
 ·
  refine D1 ?_
  refine AW.xw 4 rfl (XW.nilU (sz := 1)) ?_
  exact aR (f1 (q := ⟨hde (a := []) (hd_0 h15), rfl⟩))
 refine AW.skip (D1 ?_)
 refine AW.seq (D6 ?_)
 refine cD ?_ ?_ <;> intro h20
 rotate_left
 ·
  refine AW.skip (AW.seq (D6 ?_))
  refine AW.block (AW.tip 5 9 1 rfl (fun k0 hk0 => ?_))
  refine AW.loop (fun (i : Nat) s => ∃ (kt : Nat) (zs : List (List E.T)), (i ≤ b.st.its.length ∧ H kt = none ∧ zs = ((b.st.its.take i).map fun x => ttB x (fx x.ex)).map txT ∧ zs.length = i) ∧ s = ⟨61, sp [(0, .c (scC z d)), (3, .lp 3 0), (4, .c (.a nA)), (5, .c (.a (.ts kt .ne 1 zs))), (48, .c (itsC .un b.st.its)), (49, iX .i64 (((b.st.its.map itT).length : Nat) : Int)), (50, nX i)], lv [(3, .box (zBd b))], upd H kt (some (.tip 9 1 zs.length))⟩) (fun i => b.st.its.length - i) 0 ⟨_, by exact wK 61, k0, [], ⟨qZ _, hk0, rfl, rfl⟩, rfl⟩ (fun i s hs => ?_)
  obtain ⟨kt, zs, ⟨hi0, hkt, hzs, hzl⟩, rfl⟩ := hs
  refine D2 ?_
  refine AW.seq ?_
  refine cD ?_ ?_ <;> intro h51
  ·
   have hi := oI h51
   refine AW.skip (AW.seq (AW.block (D5 ?_)))
   refine B2 ?_
   refine Z16 fn26 (title_any _ _ (hf _ (qC hi)).2.choose (hf _ (qC hi)).1 (hf _ (qC hi)).2.choose_spec) ?_
   refine G1 ?_
   refine SeqK.app1 rfl (hkt) rfl el51 rfl rfl (by simp [hzl]; omega) rfl rfl (fun k58 hk58 => ?_)
   refine sB ?_
   refine B3 ?_
   exact ⟨i + 1, _, by exact wK 61, by omega, k58, zs ++ [txT (ttB b.st.its[i] (fx b.st.its[i].ex))], ⟨hi, hk58, by rw [hzs, map_take2 hi, qK]; rfl, by simp [hzl]⟩, rfl⟩
  refine AW.exit ?_
  refine eth_e ?_
  refine eth_e ?_
  refine exit_here ?_
  refine AW.seq ?_
  obtain rfl := oE h51 hi0
  rw [qT] at hzs
  refine AW.xw 5 rfl (XW.ts.trans (XW.es hzs)) ?_
  refine B2 ?_
  exact aR (fin_x (x := .c _) (H) (.tmp rfl .nil) rfl ((fun j o h => upd_sub hkt j o h)) (⟨hde (hd_2 h15 (by first | omega | (simp only [qA] at h20; omega))), rfl⟩))
 refine AW.seq (D5 ?_)
 refine AW.block (AW.tip 5 9 1 rfl (fun k0 hk0 => ?_))
 refine AW.loop (fun (i : Nat) s => ∃ (kt : Nat) (zs : List (List E.T)), (i ≤ b.tabs.length ∧ H kt = none ∧ zs = ((b.tabs.take i).flatMap (nmC d)).map txT ∧ zs.length ≤ i * 1000000) ∧ s = ⟨61, sp [(0, .c (scC z d)), (3, .lp 3 0), (4, .c (.a nA)), (5, .c (.a (.ts kt .ne 1 zs))), (22, .c (.a (.t (.sl .un 1 (b.tabs.map i64T))))), (23, iX .i64 (((b.tabs.map i64T).length : Nat) : Int)), (24, nX i)], lv [(3, .box (zBd b))], upd H kt (some (.tip 9 1 zs.length))⟩) (fun i => b.tabs.length - i) 0 ⟨_, by exact wK 61, k0, [], ⟨qZ _, hk0, rfl, qZ _⟩, rfl⟩ (fun i s hs => ?_)
 obtain ⟨kt, zs, ⟨hi0, hkt, hzs, hzl⟩, rfl⟩ := hs
 refine D2 ?_
 refine AW.seq ?_
 refine cD ?_ ?_ <;> intro h25
 rotate_left
 ·
  refine AW.exit ?_
  refine eth_e ?_
  refine eth_e ?_
  refine exit_here ?_
  refine AW.seq ?_
  obtain rfl := oE h25 hi0
  rw [qT] at hzs
  refine AW.xw 5 rfl (XW.ts.trans (XW.es hzs)) ?_
  refine B2 ?_
  exact aR (fin_x (x := .c _) (H) (.tmp rfl .nil) rfl ((fun j o h => upd_sub hkt j o h)) (⟨hde (hd_1 h15 (by first | omega | (simp only [qA] at h20; omega))), rfl⟩))
 have hi := oI h25
 obtain ⟨hn0, hnt⟩ := ht _ (qC hi)
 have hga : (tbA d b.tabs[i]) = d[b.tabs[i].toNat] := getD_at hnt
 have hok := hd.tb _ (qC hnt)
 rw [← hga] at hok
 have hcl := hok.cl
 have hidx : (d.map tbT)[b.tabs[i].toNat]? = some (tbT (tbA d b.tabs[i])) := by rw [qR, qF hnt, ← hga]; rfl
 refine AW.skip (AW.seq (AW.block (D3 ?_)))
 refine D2 ?_
 refine Z12 sl23 (hidx) ?_
 refine G5 ?_
 refine AW.block (AW.loop (fun (j : Nat) s => ∃ (ku : Nat) (ys : List (List E.T)), (j ≤ (tbA d b.tabs[i]).cols.length ∧ H ku = none ∧ ys = zs ++ (((tbA d b.tabs[i]).cols.take j).map fun x => x.nm).map txT ∧ ys.length = zs.length + j) ∧ s = ⟨61, sp [(0, .c (scC z d)), (3, .lp 3 0), (4, .c (.a nA)), (5, .c (.a (.ts ku .ne 1 ys))), (22, .c (.a (.t (.sl .un 1 (b.tabs.map i64T))))), (23, iX .i64 (((b.tabs.map i64T).length : Nat) : Int)), (24, nX i), (32, .c (.a (.t (.sl .un 6 ((tbA d b.tabs[i]).cols.map coT))))), (33, iX .i64 ((((tbA d b.tabs[i]).cols.map coT).length : Nat) : Int)), (34, nX j)], lv [(3, .box (zBd b))], upd H ku (some (.tip 9 1 ys.length))⟩) (fun j => (tbA d b.tabs[i]).cols.length - j) 0 ⟨_, Wk.keep 61 [(0, .c (scC z d)), (3, .lp 3 0), (4, .c (.a nA)), (5, .c (.a (.ts (kt) .ne 1 (zs)))), (22, .c (.a (.t (.sl .un 1 (b.tabs.map i64T))))), (23, iX .i64 (((b.tabs.map i64T).length : Nat) : Int)), (24, nX i), (32, .c (.a (.t (.sl .un 6 ((tbA d b.tabs[i]).cols.map coT))))), (33, iX .i64 ((((tbA d b.tabs[i]).cols.map coT).length : Nat) : Int)), (34, iX .i64 ((((0 : Nat)) : Nat) : Int))] [(3, .box (zBd b))] (upd H (kt) (some (.tip 9 1 (zs).length))) rfl ⟨rfl, rfl, rfl, rfl, rfl, rfl, rfl, rfl, rfl, rfl, trivial⟩ ⟨rfl, trivial⟩ (fun _ _ h => h) rfl, kt, zs, ⟨qZ _, hkt, by simp, rfl⟩, rfl⟩ (fun j s hs => ?_))
 obtain ⟨ku, ys, ⟨hj0, hku, hys, hyl⟩, rfl⟩ := hs
 refine D2 ?_
 refine AW.seq ?_
 refine cD ?_ ?_ <;> intro h35
 ·
  have hj := oI h35
  refine AW.skip (AW.seq (AW.block (D5 ?_)))
  refine B4 ?_
  refine SeqK.app1 rfl (hku) rfl el51 rfl rfl (by simp [hyl]; omega) rfl rfl (fun k42 hk42 => ?_)
  refine sB ?_
  refine B3 ?_
  exact ⟨j + 1, _, by exact wK 61, by omega, k42, ys ++ [txT (tbA d b.tabs[i]).cols[j].nm], ⟨hj, hk42, by rw [hys, map_take2 hj, qK, qO]; rfl, by simp [hyl]; omega⟩, rfl⟩
 refine AW.exit ?_
 refine eth_e ?_
 refine eth_e ?_
 refine exit_here ?_
 refine B3 ?_
 obtain rfl : j = (tbA d b.tabs[i]).cols.length := by rw [qA] at h35; omega
 rw [qT] at hys
 exact ⟨i + 1, _, by exact wK 61, by omega, ku, ys, ⟨hi, hku, by rw [hys, hzs, flat_take2 hi, qK], by rw [hyl]; omega⟩, rfl⟩
open Q
abbrev one1 : Ex := ⟨1, ⟨#[]⟩, ⟨#[]⟩, 0, 1, 1, ⟨#[]⟩, []⟩
abbrev stE (its : List It) (frm : List Fr) (grp : List Ex) : St := ⟨5, ⟨#[]⟩, dn0, [], [], its, frm, ex0, grp, [], 0, ⟨#[]⟩⟩
abbrev frT1 : Fr := ⟨⟨#[116]⟩, ⟨#[]⟩⟩
abbrev cA : Ex := colE ⟨#[97]⟩
abbrev cB : Ex := colE ⟨#[98]⟩
abbrev opE (k : Int) (l : List Ex) : Ex := ⟨k, ⟨#[]⟩, ⟨#[]⟩, 0, 0, 0, ⟨#[]⟩, l⟩
abbrev S1 : St := stE [⟨0, cA⟩, ⟨1, ex0⟩] [frT1] [cA]
abbrev S2 : St := stE [⟨0, opE 4 [cB, one1]⟩] [frT1] []
abbrev S3 : St := stE [⟨0, opE 6 [cA, cA]⟩] [frT1] []
abbrev S4 : St := stE [⟨0, cA⟩] [frT1, frT1] []
abbrev S5 : St := stE [⟨0, cA⟩, ⟨1, ex0⟩] [frT1] []
theorem b1_e : (binP exD S1).2 = 0 := by decide +kernel
theorem b1_v : (binP exD S1).1.vars.length = 2 := by decide +kernel
theorem b1_t : (binP exD S1).1.tabs = [0] := by decide +kernel
theorem b2_e : (binP exD S2).2 = 6 := by decide +kernel
theorem b3_e : (binP exD S3).2 = 7 := by decide +kernel
theorem b4_e : (binP exD S4).2 = 5 := by decide +kernel
theorem b5_e : (binP exD S5).2 = 1 := by decide +kernel
theorem ck_i : (bndE (alnS (tbA exD 0)) cB).1.ix = 1 := by decide +kernel
theorem ck_k : (bndE (alnS (tbA exD 0)) cB).2.1 = 2 := by decide +kernel
theorem ck_e : (bndE (alnS (tbA exD 0)) cB).2.2 = 0 := by decide +kernel
theorem z_sz : (⟨#[]⟩ : ByteArray).size = 0 := rfl
theorem gd_col (nm : ByteArray) : gdX (colE nm) := ⟨by simp [fmE, fmS, arN], by simp [tsE, tsS, z_sz], by simp [rgX, rgXs, R64, z_sz], by simp [szE, szS], by simp [dpE, dpS]⟩
theorem gd_4 : gdX (opE 4 [cB, one1]) := ⟨by simp [fmE, fmS, arN], by simp [tsE, tsS, z_sz], by simp [rgX, rgXs, R64, z_sz], by simp [szE, szS], by simp [dpE, dpS]⟩
theorem gd_6 : gdX (opE 6 [cA, cA]) := ⟨by simp [fmE, fmS, arN], by simp [tsE, tsS, z_sz], by simp [rgX, rgXs, R64, z_sz], by simp [szE, szS], by simp [dpE, dpS]⟩
theorem ok_stE {its : List It} {frm : List Fr} {grp : List Ex} (h1 : its.length ≤ 1000) (h2 : ∀ x ∈ its, x.ag ≠ 1 → gdX x.ex) (h3 : grp.length ≤ 1000) (h4 : ∀ e ∈ grp, gdX e) (h5 : frm.length ≤ 1000) : okSt (stE its frm grp) :=
  ⟨⟨qZ _, fun u hu => by simp at hu, qZ _, fun a ha => by simp at ha, fun h => absurd rfl h⟩,
   ⟨by show its.length ≤ _; omega, h2, fun h => absurd rfl h, by show grp.length ≤ _; omega, h4, qZ _, by show frm.length ≤ _; omega⟩⟩
theorem okS1 : okSt S1 := ok_stE (by decide) (fun x hx h => by
  rcases jD.1 hx with k | k
  · rw [k]; exact gd_col _
  · rw [jF.1 k] at h; exact absurd rfl h) (by decide) (fun e he => by rw [jF.1 he]; exact gd_col _) (by decide)
theorem okS2 : okSt S2 := ok_stE (by decide) (fun x hx h => by rw [jF.1 hx]; exact gd_4) (by decide) (fun e he => by simp at he) (by decide)
theorem okS3 : okSt S3 := ok_stE (by decide) (fun x hx h => by rw [jF.1 hx]; exact gd_6) (by decide) (fun e he => by simp at he) (by decide)
theorem okS4 : okSt S4 := ok_stE (by decide) (fun x hx h => by rw [jF.1 hx]; exact gd_col _) (by decide) (fun e he => by simp at he) (by decide)
theorem okS5 : okSt S5 := ok_stE (by decide) (fun x hx h => by
  rcases jD.1 hx with k | k
  · rw [k]; exact gd_col _
  · rw [jF.1 k] at h; exact absurd rfl h) (by decide) (fun e he => by simp at he) (by decide)
open Q
theorem b1_h : hdB exD (binP exD S1).1 fxL = [⟨#[97]⟩, ⟨#[67, 79, 85, 78, 84, 40, 42, 41]⟩] := by decide +kernel
theorem b1_s : ∀ x ∈ (binP exD S1).1.st.its, (fxL x.ex).size ≤ 10000000 ∧ ndE x.ex ≤ 400 ∧ x.ex.tb.size ≤ 100 ∧ x.ex.nm.size ≤ 100 ∧ x.ex.vs.size ≤ 100 ∧ x.ex.args.length = 0 ∧ (x.ex.op = 0 ∨ x.ex.op = 2) ∧ x.ex.tb = ⟨#[]⟩ := by decide +kernel
theorem b1_f : ∀ x ∈ (binP exD S1).1.st.its, (fxL x.ex).size ≤ 10000000 ∧ ∃ e, Pu 59 [exC x.ex] (.tup [sC (fxL x.ex), iC e]) := fun x hx => by
  obtain ⟨h1, h2, h3, h4, h5, h6, h7, h8⟩ := b1_s x hx
  have h9 := List.length_eq_zero_iff.1 h6
  exact ⟨h1, _, formatL x.ex (Q.okE_iff.2 ⟨⟨by omega, by omega, by omega, by omega⟩, fun a ha => by rw [h9] at ha; simp at ha⟩) h9 h7 h8 h2⟩
theorem h1_any : Pu 9 [scC .nn exD, bdC (binP exD S1).1] (.c (hdC .un [⟨#[97]⟩, ⟨#[67, 79, 85, 78, 84, 40, 42, 41]⟩])) := by
  rw [← b1_h]
  exact header_any exD .nn (binP exD S1).1 fxL okExD (fun n hn => by rw [b1_t] at hn; rw [jF.1 hn]; decide) (by decide +kernel) (by decide +kernel) b1_f
open Q
theorem awake_of (hS1 : Pu 11 [scC .nn exD, stC S1] (bdX (binP exD S1).1 (binP exD S1).2)) (hS2 : Pu 11 [scC .nn exD, stC S2] (bdX (binP exD S2).1 (binP exD S2).2)) (hS3 : Pu 11 [scC .nn exD, stC S3] (bdX (binP exD S3).1 (binP exD S3).2)) (hS4 : Pu 11 [scC .nn exD, stC S4] (bdX (binP exD S4).1 (binP exD S4).2)) (hS5 : Pu 11 [scC .nn exD, stC S5] (bdX (binP exD S5).1 (binP exD S5).2)) (hck : Pu 18 [tbC (tbA exD 0), exC cB] (bnX (bndE (alnS (tbA exD 0)) cB))) : Pu 6 [] (.c (bC true)) := by
 intro H
 refine Spec.enter Tryz.func6 rfl ?_
 refine AW.wk (wK 153 (l := []) (ll := []) (H := (H))) ?_
 refine D1 ?_
 refine sR (Z16 fn16 (example_any) ?_)
 refine sB ?_
 refine D2 ?_
 refine SeqK.xw 21 rfl .un ?_
 refine sB ?_
 refine D2 ?_
 refine SeqK.xw 23 rfl (XW.g (xr4 (xr2 (xr1 (.cons (XW.nilU (sz := 8)) .nil))))) ?_
 refine G3 ?_
 refine D1 ?_
 refine SeqK.xw 24 rfl (XW.g (xr8 (.cons (XW.nilU (sz := 8)) .nil))) ?_
 refine G3 ?_
 refine AW.seq (AW.draw mo ?_)
 refine Z27 ?_
 refine Z35 fn17 (col_any _) ?_
 refine lQ (q_build2 (zs := [_, _, _, _, _, _, _, _, _]) (r := [_, _, _, _, _, _, _, _, _]) [(0, 1), (1, 8)] _ rfl ze58 rfl bp58 rfl rfl rfl rfl) ?_
 refine N1 ?_
 refine lQ (q_buildSlice _ rfl el32 rfl (by decide) rfl) ?_
 refine Z27 ?_
 refine Z35 fn17 (col_any _) ?_
 refine lQ (q_buildSlice _ rfl el27 rfl (by decide) rfl) ?_
 refine lQ (q_build2 (zs := [_, _, _, _, _, _, _, _, _, _, _, _, _, _, _, _, _, _, _, _, _, _]) (r := [_, _, _, _, _, _, _, _, _, _, _, _, _, _, _, _, _, _, _, _, _, _]) [(0, 1), (1, 1), (2, 4), (6, 1), (7, 1), (8, 1), (9, 1), (10, 8), (18, 1), (19, 1), (20, 1), (21, 1)] _ rfl ze40 rfl bp40 rfl rfl rfl rfl) ?_
 refine lQ (q_call _ rfl fn11 rfl (Pure.arg (l := [scC .nn exD]) (r := []) (XW.g (xr2 (.cons (XW.nilU (sz := 6)) (.cons (XW.nilU (sz := 1)) (.cons (XW.nilU (sz := 3)) (.cons (XW.nilU (sz := 8)) (.cons (XW.nilU (sz := 1)) (.cons (XW.nilU (sz := 10)) (.cons XW.un (xr8 (.cons (XW.nilU (sz := 8)) (.cons (XW.un.trans (XW.es (by first | rfl | (simp [exT_eq]; done)))) (.cons (XW.nilU (sz := 2)) (.cons XW.reA (.cons XW.reA .nil))))))))))))))) hS1) rfl) ?_
 refine lQ (q_mvT rfl rfl) ?_
 refine N2 ?_
 refine LexK.r (b_alloc (r := [_, _, _, _, _, _, _, _, _, _, _, _, _, _, _, _, _, _, _, _, _, _, _, _, _, _]) rfl rfl ze47 rfl rfl rfl rfl) rfl ?_
 refine N3 ?_
 refine D2 ?_
 refine Z16 fn9 (h1_any) ?_
 refine sB ?_
 refine AW.seq (AW.draw mo ?_)
 refine Z27 ?_
 refine Z35 fn17 (col_any _) ?_
 refine N1 ?_
 refine lQ (q_buildSlice _ rfl el27 rfl (by decide) rfl) ?_
 refine lQ (q_build2 (zs := [_, _, _, _, _, _, _, _]) (r := [_, _, _, _, _, _, _, _]) [(0, 1), (1, 1), (2, 1), (3, 1), (4, 3), (7, 1)] _ rfl ze37 rfl bp37 rfl rfl rfl rfl) ?_
 refine lQ (q_build2 (zs := [_, _, _, _, _, _, _, _, _]) (r := [_, _, _, _, _, _, _, _, _]) [(0, 1), (1, 8)] _ rfl ze58 rfl bp58 rfl rfl rfl rfl) ?_
 refine lQ (q_buildSlice _ rfl el32 rfl (by decide) rfl) ?_
 refine Z27 ?_
 refine lQ (q_build2 (zs := [_, _, _, _, _, _, _, _, _, _, _, _, _, _, _, _, _, _, _, _, _, _]) (r := [_, _, _, _, _, _, _, _, _, _, _, _, _, _, _, _, _, _, _, _, _, _]) [(0, 1), (1, 1), (2, 4), (6, 1), (7, 1), (8, 1), (9, 1), (10, 8), (18, 1), (19, 1), (20, 1), (21, 1)] _ rfl ze40 rfl bp40 rfl rfl rfl rfl) ?_
 refine lQ (q_call _ rfl fn11 rfl (Pure.arg (l := [scC .nn exD]) (r := []) (XW.g (xr2 (.cons (XW.nilU (sz := 6)) (.cons (XW.nilU (sz := 1)) (.cons (XW.nilU (sz := 3)) (.cons (XW.nilU (sz := 8)) (.cons (XW.nilU (sz := 1)) (.cons (XW.nilU (sz := 10)) (.cons ((XW.tw (TW.sl (.cons (.cons TW.re (.cons TW.re (.cons TW.re (.cons TW.re (.cons TW.re (.cons TW.re (.cons TW.re (.cons TW.re (.cons (TW.sl TWss.re) .nil))))))))) .nil))).trans (XW.es (by first | rfl | (simp [exT_eq]; done)))) (xr8 (.cons (XW.nilU (sz := 8)) (.cons (XW.nilU (sz := 8)) (.cons (XW.nilU (sz := 2)) (.cons XW.reA (.cons XW.reA .nil))))))))))))))) hS2) rfl) ?_
 refine lQ (q_mvT rfl rfl) ?_
 refine N2 ?_
 refine LexK.r (b_alloc (r := [_, _, _, _, _, _, _, _, _, _, _, _, _, _, _, _, _, _, _, _, _, _, _, _, _, _]) rfl rfl ze47 rfl rfl rfl rfl) rfl ?_
 refine N3 ?_
 refine D1 ?_
 refine Z16 fn17 (col_any _) ?_
 refine Z16 fn17 (col_any _) ?_
 refine G1 ?_
 refine SeqK.xw 58 rfl .un ?_
 refine G5 ?_
 refine Z16 fn11 (Pure.arg (l := [scC .nn exD]) (r := []) (XW.g (xr2 (.cons (XW.nilU (sz := 6)) (.cons (XW.nilU (sz := 1)) (.cons (XW.nilU (sz := 3)) (.cons (XW.nilU (sz := 8)) (.cons (XW.nilU (sz := 1)) (.cons (XW.nilU (sz := 10)) (.cons XW.un (xr8 (.cons (XW.nilU (sz := 8)) (.cons (XW.nilU (sz := 8)) (.cons (XW.nilU (sz := 2)) (.cons XW.reA (.cons XW.reA .nil))))))))))))))) hS3) ?_
 refine G6 ?_
 refine D1 ?_
 refine Z16 fn17 (col_any _) ?_
 refine G5 ?_
 refine SeqK.xw 74 rfl .un ?_
 refine G1 ?_
 refine Z16 fn11 (Pure.arg (l := [scC .nn exD]) (r := []) (XW.g (xr2 (.cons (XW.nilU (sz := 6)) (.cons (XW.nilU (sz := 1)) (.cons (XW.nilU (sz := 3)) (.cons (XW.nilU (sz := 8)) (.cons (XW.nilU (sz := 1)) (.cons (XW.nilU (sz := 10)) (.cons XW.un (xr8 (.cons (XW.nilU (sz := 8)) (.cons (XW.nilU (sz := 8)) (.cons (XW.nilU (sz := 2)) (.cons XW.reA (.cons XW.reA .nil))))))))))))))) hS4) ?_
 refine G6 ?_
 refine AW.seq (AW.draw mo ?_)
 refine Z27 ?_
 refine Z35 fn17 (col_any _) ?_
 refine lQ (q_build2 (zs := [_, _, _, _, _, _, _, _, _]) (r := [_, _, _, _, _, _, _, _, _]) [(0, 1), (1, 8)] _ rfl ze58 rfl bp58 rfl rfl rfl rfl) ?_
 refine N1 ?_
 refine lQ (q_buildSlice _ rfl el32 rfl (by decide) rfl) ?_
 refine Z27 ?_
 refine lQ (q_build2 (zs := [_, _, _, _, _, _, _, _, _, _, _, _, _, _, _, _, _, _, _, _, _, _]) (r := [_, _, _, _, _, _, _, _, _, _, _, _, _, _, _, _, _, _, _, _, _, _]) [(0, 1), (1, 1), (2, 4), (6, 1), (7, 1), (8, 1), (9, 1), (10, 8), (18, 1), (19, 1), (20, 1), (21, 1)] _ rfl ze40 rfl bp40 rfl rfl rfl rfl) ?_
 refine Z35 fn11 (Pure.arg (l := [scC .nn exD]) (r := []) (XW.g (xr2 (.cons (XW.nilU (sz := 6)) (.cons (XW.nilU (sz := 1)) (.cons (XW.nilU (sz := 3)) (.cons (XW.nilU (sz := 8)) (.cons (XW.nilU (sz := 1)) (.cons (XW.nilU (sz := 10)) (.cons XW.un (xr8 (.cons (XW.nilU (sz := 8)) (.cons (XW.nilU (sz := 8)) (.cons (XW.nilU (sz := 2)) (.cons XW.reA (.cons XW.reA .nil))))))))))))))) hS5) ?_
 refine lQ (q_mvT rfl rfl) ?_
 refine N2 ?_
 refine LexK.r (b_alloc (r := [_, _, _, _, _, _, _, _, _, _, _, _, _, _, _, _, _, _, _, _, _, _, _, _, _, _]) rfl rfl ze47 rfl rfl rfl rfl) rfl ?_
 refine N3 ?_
 refine AW.seq (AW.draw mo ?_)
 refine Z27 ?_
 refine Z28 sl23 (rfl) ?_
 refine N1 ?_
 refine Z35 fn17 (col_any _) ?_
 refine Z35 fn18 (hck) ?_
 refine lQ (q_mvT rfl rfl) ?_
 refine N3 ?_
 refine LexK.r (b_alloc (r := [_, _, _, _, _, _, _, _]) rfl rfl ze37 rfl rfl rfl rfl) rfl ?_
 refine N4 ?_
 refine D2 ?_
 refine Z17 ?_ ?_ <;> intro g101
 rotate_left
 ·
  exact absurd (b1_e) g101
 refine G5 ?_
 refine Z17 ?_ ?_ <;> intro g107
 rotate_left
 ·
  exact absurd (by rw [qA, b1_v]; rfl) g107
 refine G4 ?_
 refine Z17 ?_ ?_ <;> intro g112
 rotate_left
 ·
  exact absurd (rfl) g112
 refine Z14 ?_
 refine Z50 sl51 (rfl) ?_
 refine G1 ?_
 refine sO (q_eqlS rfl rfl rfl) ?_
 refine Z7 ?_
 refine Z17 ?_ ?_ <;> intro g118
 rotate_left
 ·
  exact absurd (rfl) g118
 refine Z14 ?_
 refine Z50 sl51 (rfl) ?_
 refine G1 ?_
 refine sO (q_eqlS rfl rfl rfl) ?_
 refine Z7 ?_
 refine Z17 ?_ ?_ <;> intro g124
 rotate_left
 ·
  exact absurd (rfl) g124
 refine G3 ?_
 refine Z17 ?_ ?_ <;> intro g128
 rotate_left
 ·
  exact absurd (b2_e) g128
 refine G3 ?_
 refine Z17 ?_ ?_ <;> intro g132
 rotate_left
 ·
  exact absurd (b3_e) g132
 refine G3 ?_
 refine Z17 ?_ ?_ <;> intro g136
 rotate_left
 ·
  exact absurd (b4_e) g136
 refine G3 ?_
 refine Z17 ?_ ?_ <;> intro g140
 ·
  refine G4 ?_
  refine Z17 ?_ ?_ <;> intro g145
  ·
   refine G3 ?_
   refine Z17 ?_ ?_ <;> intro g149
   ·
    refine G4 ?_
    exact aR (fE (e := bCe (jH ck_e)))
   exact absurd (ck_k) g149
  exact absurd (ck_i) g145
 exact absurd (b5_e) g140
theorem awake_t : Pu 6 [] (.c (bC true)) := awake_of (binder_any exD .nn S1 okExD okS1) (binder_any exD .nn S2 okExD okS2) (binder_any exD .nn S3 okExD okS3) (binder_any exD .nn S4 okExD okS4) (binder_any exD .nn S5 okExD okS5) (check_any (tbA exD 0) cB (by decide) (bdP_of (gd_col _)))
open Q
abbrev rwE (l : List Ex) : List A := (l.map exT').flatten.map A.t
theorem rwE_app (a b : List Ex) : rwE (a ++ b) = rwE a ++ (b.map exT').flatten.map A.t := by rw [rwE, qK, List.flatten_append, qK]
theorem rw_len {l : List Ex} : (rwE l).length = l.length * 8 := by
  rw [rwE, qA]
  induction l with
  | nil => rfl
  | cons a r ih => rw [qL, List.flatten_cons, qG, ih, exT_eq, qM]; simp only [exL, qM, qQ]; omega
def x1 (st : St) (i : Nat) : List Ex := st.cr.chks ++ (st.vals.take i).flatten
def x2 (st : St) (i : Nat) : List Ex := x1 st st.vals.length ++ (st.sets.take i).map fun a => a.ex
def x3 (st : St) (i : Nat) : List Ex := x2 st st.sets.length ++ (st.its.take i).map fun a => a.ex
theorem rwE_put (a : List Ex) (e : Ex) : rwE a ++ [exL e].flatten.map A.t = rwE (a ++ [e]) := by rw [rwE_app, qX, exT_eq]
theorem x1_0 {st : St} : st.cr.chks = x1 st 0 := by simp [x1]
theorem x2_0 {st : St} : x1 st st.vals.length = x2 st 0 := by simp [x2]
theorem x3_0 {st : St} : x2 st st.sets.length = x3 st 0 := by simp [x3]
theorem x1_st {st : St} {i : Nat} (hi : i < st.vals.length) : x1 st i ++ st.vals[i] = x1 st (i + 1) := by
  rw [x1, x1, qJ hi, List.flatten_append]; simp
theorem x2_st {st : St} {i : Nat} (hi : i < st.sets.length) : x2 st i ++ [st.sets[i].ex] = x2 st (i + 1) := by
  rw [x2, x2, qJ hi, qK]; simp
theorem x3_st {st : St} {i : Nat} (hi : i < st.its.length) : x3 st i ++ [st.its[i].ex] = x3 st (i + 1) := by
  rw [x3, x3, qJ hi, qK]; simp
theorem x1_le {st : St} (i : Nat) : (x1 st i).length ≤ (x1 st st.vals.length).length := by
  have h := congrArg (fun l => l.flatten.length) (List.take_append_drop i st.vals)
  simp only [List.flatten_append, qG] at h
  unfold x1; simp only [qG, qT]; omega
theorem x2_le {st : St} (i : Nat) : (x1 st st.vals.length).length ≤ (x2 st i).length ∧ (x2 st i).length ≤ (x2 st st.sets.length).length := by
  unfold x2; simp only [qG, qA, List.length_take]; omega
theorem x3_le {st : St} (i : Nat) : (x2 st st.sets.length).length ≤ (x3 st i).length ∧ (x3 st i).length ≤ (x3 st st.its.length).length := by
  unfold x3; simp only [qG, qA, List.length_take]; omega
theorem x2_n {st : St} : st.sets.length ≤ (x2 st st.sets.length).length := by unfold x2; simp only [qG, qA, List.length_take]; omega
theorem x3_n {st : St} : st.its.length ≤ (x3 st st.its.length).length := by unfold x3; simp only [qG, qA, List.length_take]; omega
def allX (st : St) : List Ex := x3 st st.its.length ++ [st.wh] ++ st.grp
theorem al_le {st : St} {N : Nat} (h : (allX st).length ≤ N) : (x3 st st.its.length).length + 1 + st.grp.length ≤ N := by
  rw [allX, qG, qG] at h; exact h
theorem freeze_ex {es : List Ex} : ∀ e ∈ es.map exT', e.length = 8 := fun e he => by
  obtain ⟨a, _, rfl⟩ := jE.1 he
  rw [exT_eq]; rfl
theorem fz_ex {k n : Nat} {l : List Ex} (hn : n = l.length) : fzX k 8 (l.map exT') (.c (.a (.os k 0 n 8))) = .c (exsC .un l) := by subst hn; simp [fzX, fzC, fzA]
theorem exprs_any (st : St) (hv : st.vals.length ≤ 2000000) (hb : (allX st).length ≤ 2000000) : Pu 44 [stC st] (.c (exsC .un (allX st))) := by
 intro H
 refine Spec.enter Tryz.func44 rfl ?_
 refine AW.wk (wK 67 (l := [(0, .c (stC st))]) (ll := []) (H := (H))) ?_
 refine D2 ?_
 refine sR (sQ (q_build0 rfl el27) ?_)
 refine G3 ?_
 refine SeqK.appZR rfl rfl el27 rfl rfl (by simp only [qA]; have := al_le hb; have := x3_le (st := st) st.its.length; have := x2_le (st := st) st.sets.length; have h0 : st.cr.chks.length ≤ (x1 st st.vals.length).length := (by rw [x1, qG]; omega); omega) rfl rfl (fun k11 hk11 => ?_)
 refine sB ?_
 refine AW.seq (D1 ?_)
 refine AW.block (AW.loop (fun (i : Nat) s => ∃ (kt m : Nat) (cells : List A) (es : List Ex), (i ≤ st.vals.length ∧ H kt = none ∧ m = es.length ∧ cells = rwE es ∧ es = x1 st i) ∧ s = ⟨67, sp [(1, .lp 1 0), (2, .c (.a nA)), (3, .c (.a (.os kt 0 m 8))), (4, nX i)], lv [(1, .box (zSt st))], upd H kt (some (.row 37 8 cells))⟩) (fun i => st.vals.length - i) 0 ⟨_, by exact wK 67, k11, (st.cr.chks.map exT').length, rwE st.cr.chks, st.cr.chks, ⟨qZ _, hk11, by simp, rfl, x1_0⟩, rfl⟩ (fun i s hs => ?_))
 obtain ⟨kt, m, cells, es, ⟨hi0, hkt, hm, hc, he⟩, rfl⟩ := hs
 refine AW.seq (D6 ?_)
 refine cD ?_ ?_ <;> intro h16
 ·
  have hi := oI h16
  have b1 := al_le hb
  have b2 := x3_le (st := st) st.its.length
  have b3 := x2_le (st := st) st.sets.length
  have b4 := x1_le (st := st) (i + 1)
  have b5 := congrArg List.length (x1_st hi)
  rw [← he, qG] at b5
  have b6 := x2_n (st := st)
  have b7 := x3_n (st := st)
  refine AW.skip (AW.seq (AW.block (B6 ?_)))
  refine SeqK.appR1 rfl (by assumption) rfl el27 rfl (by rw [hc, hm]; exact rw_len) rfl (by simp only [qA]; omega) rfl rfl (fun k25 hk25 => ?_)
  refine sB ?_
  refine B3 ?_
  exact ⟨i + 1, _, by exact wK 67, by omega, k25, m + (st.vals[i].map exT').length, cells ++ (st.vals[i].map exT').flatten.map A.t, es ++ st.vals[i], ⟨hi, hk25, by rw [hm]; simp, by rw [hc]; exact (rwE_app _ _).symm, by rw [he]; exact x1_st hi⟩, rfl⟩
 refine AW.exit ?_
 refine eth_e ?_
 refine eth_e ?_
 refine exit_here ?_
 refine AW.seq (D1 ?_)
 refine AW.block (AW.loop (fun (i : Nat) s => ∃ (kt m : Nat) (cells : List A) (es : List Ex), (i ≤ st.sets.length ∧ H kt = none ∧ m = es.length ∧ cells = rwE es ∧ es = x2 st i) ∧ s = ⟨67, sp [(1, .lp 1 0), (2, .c (.a nA)), (3, .c (.a (.os kt 0 m 8))), (5, nX i)], lv [(1, .box (zSt st))], upd H kt (some (.row 37 8 cells))⟩) (fun i => st.sets.length - i) 0 ⟨_, by exact wK 67, kt, m, cells, es, ⟨qZ _, hkt, hm, hc, by rw [he, (by rw [qA] at h16; omega : i = st.vals.length)]; exact x2_0⟩, rfl⟩ (fun i s hs => ?_))
 obtain ⟨kt, m, cells, es, ⟨hi0, hkt, hm, hc, he⟩, rfl⟩ := hs
 refine AW.seq (D6 ?_)
 refine cD ?_ ?_ <;> intro h30
 ·
  have hi := oI h30
  have b1 := al_le hb
  have b2 := x3_le (st := st) st.its.length
  have b3 := x2_le (st := st) st.sets.length
  have b4 := x2_le (st := st) (i + 1)
  have b5 := congrArg List.length (x2_st hi)
  rw [← he, qG] at b5
  have b6 := x2_n (st := st)
  have b7 := x3_n (st := st)
  refine AW.skip (AW.seq (AW.block (B8 ?_)))
  refine SeqK.appR1 rfl (by assumption) rfl el27 rfl (by rw [hc, hm]; exact rw_len) rfl (by simp only [qP, qM, qQ] at *; omega) rfl rfl (fun k41 hk41 => ?_)
  refine sB ?_
  refine B3 ?_
  exact ⟨i + 1, _, by exact wK 67, by omega, k41, m + [exL (st.sets[i].ex)].length, cells ++ [exL (st.sets[i].ex)].flatten.map A.t, es ++ [st.sets[i].ex], ⟨hi, hk41, by rw [hm]; simp, by rw [hc]; exact rwE_put _ _, by rw [he]; exact x2_st hi⟩, rfl⟩
 refine AW.exit ?_
 refine eth_e ?_
 refine eth_e ?_
 refine exit_here ?_
 refine AW.seq (D1 ?_)
 refine AW.block (AW.loop (fun (i : Nat) s => ∃ (kt m : Nat) (cells : List A) (es : List Ex), (i ≤ st.its.length ∧ H kt = none ∧ m = es.length ∧ cells = rwE es ∧ es = x3 st i) ∧ s = ⟨67, sp [(1, .lp 1 0), (2, .c (.a nA)), (3, .c (.a (.os kt 0 m 8))), (6, nX i)], lv [(1, .box (zSt st))], upd H kt (some (.row 37 8 cells))⟩) (fun i => st.its.length - i) 0 ⟨_, by exact wK 67, kt, m, cells, es, ⟨qZ _, hkt, hm, hc, by rw [he, (by rw [qA] at h30; omega : i = st.sets.length)]; exact x3_0⟩, rfl⟩ (fun i s hs => ?_))
 obtain ⟨kt, m, cells, es, ⟨hi0, hkt, hm, hc, he⟩, rfl⟩ := hs
 refine AW.seq (D6 ?_)
 refine cD ?_ ?_ <;> intro h46
 ·
  have hi := oI h46
  have b1 := al_le hb
  have b2 := x3_le (st := st) st.its.length
  have b3 := x2_le (st := st) st.sets.length
  have b4 := x3_le (st := st) (i + 1)
  have b5 := congrArg List.length (x3_st hi)
  rw [← he, qG] at b5
  have b6 := x2_n (st := st)
  have b7 := x3_n (st := st)
  refine AW.skip (AW.seq (AW.block (B8 ?_)))
  refine SeqK.appR1 rfl (by assumption) rfl el27 rfl (by rw [hc, hm]; exact rw_len) rfl (by simp only [qP, qM, qQ] at *; omega) rfl rfl (fun k57 hk57 => ?_)
  refine sB ?_
  refine B3 ?_
  exact ⟨i + 1, _, by exact wK 67, by omega, k57, m + [exL (st.its[i].ex)].length, cells ++ [exL (st.its[i].ex)].flatten.map A.t, es ++ [st.its[i].ex], ⟨hi, hk57, by rw [hm]; simp, by rw [hc]; exact rwE_put _ _, by rw [he]; exact x3_st hi⟩, rfl⟩
 refine AW.exit ?_
 refine eth_e ?_
 refine eth_e ?_
 refine exit_here ?_
 refine AW.seq ?_
 obtain rfl := oE h46 hi0
 have b1 := al_le hb
 have hel : es.length = (x3 st st.its.length).length := by rw [he]
 refine B4 ?_
 refine SeqK.appR1 rfl (by assumption) rfl el27 rfl (by rw [hc, hm]; exact rw_len) rfl (by (try simp only [qP, qM, qQ]); omega) rfl rfl (fun k62 hk62 => ?_)
 refine sB ?_
 refine D3 ?_
 refine SeqK.appR1 rfl (by assumption) rfl el27 rfl (by rw [hc, rwE_put, rw_len, qG, hm]; rfl) rfl (by (try simp only [qA, qM, qQ]); omega) rfl rfl (fun k66 hk66 => ?_)
 refine sB ?_
 have hall : es ++ [st.wh] ++ st.grp = allX st := by rw [allX, he]
 have hal : m + 1 + st.grp.length = (allX st).length := by rw [← hall, qG, qG, hm]; rfl
 refine AW.freeze k66 8 37 ((allX st).map exT') (by rw [upd_same, hc, rwE_put, ← rwE_app, hall]) freeze_ex (by decide) ?_
 refine AW.wk (Wk.keep 67 [(2, .c (exsC .un (allX st)))] [] H rfl ⟨fz_ex (by rw [← hal, qA]; rfl), trivial⟩ trivial (fun j o h => by show upd (upd H k66 _) k66 none j = _; rw [upd_back hk66]; exact h) rfl) ?_
 exact aR (f1 (q := ⟨rfl, rfl⟩))
open Q
theorem ndS_tl {l : List Ex} {i : Nat} : ndS (l.take i) ≤ ndS l := by
  conv => rhs; rw [← List.take_append_drop i l]
  rw [ndS_app]; omega
mutual
def wgE : Ex → Nat
  | .mk _ tb nm _ _ _ vs xs => wgL xs (1 + tb.size + nm.size + vs.size)
def wgL : List Ex → Nat → Nat
  | [], n => n
  | a :: r, n => if n < 1000 then wgL r (n + wgE a) else n
end
mutual
def wtE : Ex → Nat
  | .mk _ tb nm _ _ _ vs xs => 1 + tb.size + nm.size + vs.size + wtS xs
def wtS : List Ex → Nat
  | [] => 0
  | e :: r => wtE e + wtS r
end
theorem wgE_eq (e : Ex) : wgE e = wgL e.args (1 + e.tb.size + e.nm.size + e.vs.size) := by cases e; rw [wgE]
theorem wtE_eq (e : Ex) : wtE e = 1 + e.tb.size + e.nm.size + e.vs.size + wtS e.args := by cases e; rw [wtE]
theorem wt_mem {l : List Ex} {a : Ex} (h : a ∈ l) : wtE a ≤ wtS l := by
  induction l with
  | nil => cases h
  | cons x r ih =>
    rw [wtS]
    rcases jD.1 h with rfl | h
    · omega
    · have := ih h; omega
theorem wt_len : ∀ l : List Ex, l.length ≤ wtS l
  | [] => qZ _
  | e :: r => by rw [wtS, qM]; have := wt_len r; have := wtE_eq e; omega
theorem wgL_bd : ∀ (l : List Ex) (n : Nat), (∀ a ∈ l, wgE a ≤ wtE a) → n ≤ wgL l n ∧ wgL l n ≤ n + wtS l
  | [], n, _ => by rw [wgL, wtS]; omega
  | a :: r, n, h => by
    rw [wgL, wtS]
    have h1 := h a (by simp)
    have h2 := wgL_bd r (n + wgE a) fun x hx => h x (by simp [hx])
    split <;> omega
theorem wg_bd (e : Ex) : wgE e ≤ wtE e ∧ 1 ≤ wgE e := by
  have key : ∀ e : Ex, wgE e ≤ wtE e := fun e => by
    induction e using Ex.rec' with
    | h e ih => rw [wgE_eq, wtE_eq]; exact (wgL_bd _ _ ih).2
  refine ⟨key e, ?_⟩
  rw [wgE_eq]
  have := (wgL_bd e.args (1 + e.tb.size + e.nm.size + e.vs.size) fun a _ => key a).1
  omega
theorem wgL_st {l : List Ex} {i n m : Nat} (hi : i < l.length) (h : wgL (l.drop i) n = m) (hn : n < 1000) : wgL (l.drop (i + 1)) (n + wgE l[i]) = m := by
  rw [qH hi, wgL, if_pos hn] at h; exact h
theorem wgL_en {l : List Ex} {i n m : Nat} (h : wgL (l.drop i) n = m) (hn : l.length ≤ i ∨ ¬ n < 1000) : n = m := by
  rcases hn with hn | hn
  · rw [qW hn, wgL] at h; exact h
  · cases hl : l.drop i with
    | nil => rw [hl, wgL] at h; exact h
    | cons a r => rw [hl, wgL, if_neg hn] at h; exact h
theorem wt_tk {l : List Ex} {i : Nat} (hi : i < l.length) : wtE l[i] ≤ wtS l := wt_mem (qC hi)
def smL {α : Type} (f : α → Nat) : List α → Nat
  | [] => 0
  | a :: r => f a + smL f r
theorem smL_app {α : Type} {f : α → Nat} : ∀ a b : List α, smL f (a ++ b) = smL f a + smL f b
  | [], b => by rw [List.nil_append, smL]; omega
  | x :: r, b => by rw [List.cons_append, smL, smL, smL_app r b]; omega
theorem smL_put {α : Type} {f : α → Nat} {l : List α} {i : Nat} (hi : i < l.length) : smL f (l.take (i + 1)) = smL f (l.take i) + f l[i] := by
  rw [qJ hi, smL_app, smL, smL]; omega
theorem smL_tk {α : Type} {f : α → Nat} {l : List α} {i : Nat} : smL f (l.take i) ≤ smL f l := by
  conv => rhs; rw [← List.take_append_drop i l]
  rw [smL_app]; omega
theorem smL_mem {α : Type} {f : α → Nat} : ∀ {l : List α} {a : α}, a ∈ l → f a ≤ smL f l
  | x :: l, a, h => by
    rw [smL]
    rcases jD.1 h with rfl | h
    · omega
    · have := smL_mem (f := f) h; omega
theorem smL_len {α : Type} {f : α → Nat} (hf : ∀ a, 1 ≤ f a) : ∀ l : List α, l.length ≤ smL f l
  | [] => qZ _
  | a :: r => by rw [smL, qM]; have := hf a; have := smL_len hf r; omega
def wdN (l : List ByteArray) : Nat := l.length + smL ByteArray.size l
theorem upToG_of (e : Ex) (m : Nat) (ho : Q.okE e) (hm2 : m ≤ 1000000) (ih : ∀ a ∈ e.args, ∀ n : Nat, n ≤ 1000000 → Pu 47 [exC a, iC (n : Int)] (.c (iC ((min (ndE a) (n + 1) : Nat) : Int)))) : Pu 47 [exC e, iC (m : Int)] (.c (iC ((min (ndE e) (m + 1) : Nat) : Int))) := by
 have k4 := (okE_iff.1 ho).1.2.2.2
 have hne := ndE_eq e
 obtain ⟨c0, hc0⟩ : ∃ c0 : Nat, c0 = if e.op ≠ 0 then 1 else 0 := ⟨_, rfl⟩
 have hc1 : c0 ≤ 1 := by rw [hc0]; split <;> omega
 rw [← hc0] at hne
 intro H
 refine Spec.enter Tryz.func47 rfl ?_
 refine AW.wk (wK 34 (l := [(0, .c (exC e)), (1, .c (iC (m : Int)))]) (ll := []) (H := (H))) ?_
 refine D2 ?_
 refine D1 ?_
 refine AW.seqM (fun s => s = ⟨34, sp [(1, .c (iC (m : Int))), (2, .lp 2 0), (4, .c (iC 0)), (5, nX c0)], lv [(2, .box (zEx e))], H⟩) ?_ ?_
 ·
  refine D4 ?_
  refine cD ?_ ?_ <;> intro h9
  ·
   refine B1 ?_
   exact ⟨_, by exact Wk.keep 34 _ _ _ rfl ⟨rfl, rfl, rfl, iCe2 (by first | rw [hc0, if_pos h9]; rfl | rw [hc0, if_neg h9]; rfl), trivial⟩ ⟨rfl, trivial⟩ (fun _ _ h => h) rfl, rfl⟩
  refine AW.skip ?_
  exact ⟨_, by exact Wk.keep 34 _ _ _ rfl ⟨rfl, rfl, rfl, iCe2 (by first | rw [hc0, if_pos h9]; rfl | rw [hc0, if_neg h9]; rfl), trivial⟩ ⟨rfl, trivial⟩ (fun _ _ h => h) rfl, rfl⟩
 rintro s rfl
 refine AW.seq (D1 ?_)
 refine AW.block (AW.loop (fun (i : Nat) s => ∃ (n : Nat), (i ≤ e.args.length ∧ n = min (c0 + ndS (e.args.take i)) (m + 1)) ∧ s = ⟨34, sp [(1, .c (iC (m : Int))), (2, .lp 2 0), (4, .c (iC 0)), (5, nX n), (6, nX i)], lv [(2, .box (zEx e))], H⟩) (fun i => e.args.length - i) 0 ⟨_, by exact wK 34, c0, ⟨qZ _, by rw [List.take_zero, ndS]; omega⟩, rfl⟩ (fun i s hs => ?_))
 obtain ⟨n, ⟨hi0, hn⟩, rfl⟩ := hs
 refine AW.seq (D5 ?_)
 refine Z17 ?_ ?_ <;> intro g15
 rotate_left
 ·
  iterate 3 refine oF ?_
  refine G2 ?_
  refine AW.condF rfl ?_
  refine AW.exit ?_
  refine eth_e ?_
  refine eth_e ?_
  refine exit_here ?_
  refine AW.seq ?_
  have hf : n = min (ndE e) (m + 1) := by
   have htl := ndS_tl (l := e.args) (i := i)
   first
   | (rw [qU (by rw [qA] at g15; omega)] at hn; omega)
   | omega
  refine B2 ?_
  exact aR (fE (e := iCe2 (by rw [hf])))
 have hi := oI g15
 have htk := ndS_take hi
 refine G5 ?_
 refine cD ?_ ?_ <;> intro h19
 ·
  have hnm : n ≤ m := by omega
  have hns : n = c0 + ndS (e.args.take i) := by omega
  refine AW.skip (AW.seq (AW.block (B8 ?_)))
  refine sQ (q_sub _ rfl rfl rfl ((by rw [w64 (by omega) (by omega)]; omega : IntKind.i64.wrap _ = ((m - n : Nat) : Int)))) ?_
  refine sQ (q_call _ rfl fn47 rfl (ih _ (qC hi) (m - n) (by omega)) rfl) ?_
  refine sQ (q_add _ rfl rfl rfl ((by rw [w64 (by omega) (by omega)]; omega : IntKind.i64.wrap _ = ((n + min (ndE e.args[i]) (m - n + 1) : Nat) : Int)))) ?_
  refine sB ?_
  refine B3 ?_
  exact ⟨i + 1, _, by exact wK 34, by omega, n + min (ndE e.args[i]) (m - n + 1), ⟨hi, by rw [htk]; omega⟩, rfl⟩
 refine AW.exit ?_
 refine eth_e ?_
 refine eth_e ?_
 refine exit_here ?_
 refine AW.seq ?_
 have hf : n = min (ndE e) (m + 1) := by
  have htl := ndS_tl (l := e.args) (i := i)
  first
  | (rw [qU (by rw [qA] at g15; omega)] at hn; omega)
  | omega
 refine B2 ?_
 exact aR (fE (e := iCe2 (by rw [hf])))
theorem upTo_gen (e : Ex) : Q.okE e → ∀ n : Nat, n ≤ 1000000 → Pu 47 [exC e, iC (n : Int)] (.c (iC ((min (ndE e) (n + 1) : Nat) : Int))) := by
  induction e using Ex.rec' with
  | h e ih => exact fun ho n h2 => upToG_of e n ho h2 fun a ha => ih a ha ((okE_iff.1 ho).2 a ha)
theorem weight_of (e : Ex) (hw : wtE e ≤ 4000000) (ih : ∀ a ∈ e.args, Pu 45 [exC a] (.c (iC ((wgE a : Nat) : Int)))) : Pu 45 [exC e] (.c (iC ((wgE e : Nat) : Int))) := by
 have hwe := wtE_eq e
 have hlw := wt_len e.args
 have hge := wgE_eq e
 intro H
 refine Spec.enter Tryz.func45 rfl ?_
 refine AW.wk (wK 38 (l := [(0, .c (exC e))]) (ll := []) (H := (H))) ?_
 refine D2 ?_
 refine D3 ?_
 refine sQ (q_add _ rfl rfl rfl ((by rw [w64 (by omega) (by omega)]; omega : IntKind.i64.wrap _ = ((1 + e.tb.size : Nat) : Int)))) ?_
 refine G3 ?_
 refine sQ (q_add _ rfl rfl rfl ((by rw [w64 (by omega) (by omega)]; omega : IntKind.i64.wrap _ = ((1 + e.tb.size + e.nm.size : Nat) : Int)))) ?_
 refine G4 ?_
 refine sQ (q_add _ rfl rfl rfl ((by rw [w64 (by omega) (by omega)]; omega : IntKind.i64.wrap _ = ((1 + e.tb.size + e.nm.size + e.vs.size : Nat) : Int)))) ?_
 refine sB ?_
 refine AW.seq (D1 ?_)
 refine AW.block (AW.loop (fun (i : Nat) s => ∃ (n : Nat), (i ≤ e.args.length ∧ n ≤ 4001000 ∧ wgL (e.args.drop i) n = wgE e) ∧ s = ⟨38, sp [(1, .lp 1 0), (2, .c (iC 0)), (3, nX n), (4, nX i)], lv [(1, .box (zEx e))], H⟩) (fun i => e.args.length - i) 0 ⟨_, by exact wK 38, 1 + e.tb.size + e.nm.size + e.vs.size, ⟨qZ _, by omega, hge.symm⟩, rfl⟩ (fun i s hs => ?_))
 obtain ⟨n, ⟨hi0, hn, hE⟩, rfl⟩ := hs
 refine AW.seq (D5 ?_)
 refine Z17 ?_ ?_ <;> intro g23
 rotate_left
 ·
  iterate 2 refine oF ?_
  refine G2 ?_
  refine AW.condF rfl ?_
  refine AW.exit ?_
  refine eth_e ?_
  refine eth_e ?_
  refine exit_here ?_
  refine AW.seq ?_
  have hf : n = wgE e := wgL_en hE (by first | exact .inl (by rw [qA] at g23; omega) | exact .inr (by omega))
  refine B2 ?_
  exact aR (fE (e := iCe2 (by rw [hf])))
 have hi := oI g23
 have hta := wt_tk hi
 have hga := (wg_bd e.args[i]).1
 refine Z14 ?_
 refine sO (q_lss rfl rfl rfl) ?_
 refine G2 ?_
 refine cD ?_ ?_ <;> intro h26
 ·
  have hn1 : n < 1000 := by omega
  refine AW.skip (AW.seq (AW.block (B6 ?_)))
  refine Z16 fn45 (ih _ (qC hi)) ?_
  refine sQ (q_add _ rfl rfl rfl ((by rw [w64 (by omega) (by omega)]; omega : IntKind.i64.wrap _ = ((n + wgE e.args[i] : Nat) : Int)))) ?_
  refine sB ?_
  refine B3 ?_
  exact ⟨i + 1, _, by exact wK 38, by omega, n + wgE e.args[i], ⟨hi, by omega, wgL_st hi hE hn1⟩, rfl⟩
 refine AW.exit ?_
 refine eth_e ?_
 refine eth_e ?_
 refine exit_here ?_
 refine AW.seq ?_
 have hf : n = wgE e := wgL_en hE (by first | exact .inl (by rw [qA] at g23; omega) | exact .inr (by omega))
 refine B2 ?_
 exact aR (fE (e := iCe2 (by rw [hf])))
theorem weight_any (e : Ex) : wtE e ≤ 4000000 → Pu 45 [exC e] (.c (iC ((wgE e : Nat) : Int))) := by
  induction e using Ex.rec' with
  | h e ih => exact fun hw => weight_of e hw fun a ha => ih a ha (by have := wt_mem ha; have := wtE_eq e; omega)
theorem wide_any (l : List ByteArray) (z : Nz) (hw : wdN l ≤ 4000000) : Pu 46 [sL z l] (.c (iC ((wdN l : Nat) : Int))) := by
 have hw2 := hw
 unfold wdN at hw2
 intro H
 refine Spec.enter Tryz.func46 rfl ?_
 refine AW.wk (wK 21 (l := [(0, .c (sL z l))]) (ll := []) (H := (H))) ?_
 refine D1 ?_
 refine D3 ?_
 refine AW.seq (D1 ?_)
 refine AW.block (AW.loop (fun (i : Nat) s => ∃ (n : Nat), (i ≤ l.length ∧ n = l.length + smL ByteArray.size (l.take i)) ∧ s = ⟨21, sp [(0, .c (sL z l)), (2, .c (iC 0)), (3, nX n), (4, nX i)], lv [], H⟩) (fun i => l.length - i) 0 ⟨_, by exact wK 21, (l.map sT).length, ⟨qZ _, by simp [smL]⟩, rfl⟩ (fun i s hs => ?_))
 obtain ⟨n, ⟨hi0, hn⟩, rfl⟩ := hs
 refine AW.seq (D5 ?_)
 refine cD ?_ ?_ <;> intro h10
 ·
  have hi := oI h10
  have htk := smL_put (f := ByteArray.size) hi
  have htl := smL_tk (f := ByteArray.size) (l := l) (i := i + 1)
  refine AW.skip (AW.seq (AW.block (B6 ?_)))
  refine sQ (q_add _ rfl rfl rfl ((by rw [w64 (by omega) (by omega)]; omega : IntKind.i64.wrap _ = ((n + l[i].size : Nat) : Int)))) ?_
  refine sB ?_
  refine B3 ?_
  exact ⟨i + 1, _, by exact wK 21, by omega, n + l[i].size, ⟨hi, by rw [hn, smL_put hi]; omega⟩, rfl⟩
 refine AW.exit ?_
 refine eth_e ?_
 refine eth_e ?_
 refine exit_here ?_
 refine AW.seq ?_
 have hf : n = wdN l := by rw [hn, qU (by rw [qA] at h10; omega)]; rfl
 refine B2 ?_
 exact aR (fE (e := iCe2 (by rw [hf])))
end Go.Proofs.YtgnnjebfoffphaaGreatDoor.W
