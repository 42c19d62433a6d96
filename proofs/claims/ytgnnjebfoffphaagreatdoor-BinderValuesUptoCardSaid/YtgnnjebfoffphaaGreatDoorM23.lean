import Derived.Test.YtgnnjebfoffphaaGreatDoorM22
set_option maxRecDepth 20000
set_option maxHeartbeats 8000000
set_option linter.unusedSectionVars false
set_option linter.unusedSimpArgs false
set_option linter.unusedVariables false
namespace Go.Proofs.YtgnnjebfoffphaaGreatDoor.W
open Fx
open Go.RowKit E M
open Q
structure vaP (st : St) : Prop where
  nd : smL ndE (allX st) ≤ 400
  dp : ∀ e ∈ allX st, depN e ≤ 50
  fm : frmS st
theorem allX_eq {st : St} : allX st = st.cr.chks ++ st.vals.flatten ++ (st.sets.map fun a => a.ex) ++ (st.its.map fun a => a.ex) ++ [st.wh] ++ st.grp := by
  unfold allX x3 x2 x1; simp only [qT]
section
variable {st : St}
theorem ax_c {e : Ex} (h : e ∈ st.cr.chks) : e ∈ allX st := by rw [allX_eq]; simp [h]
theorem ax_v {e : Ex} {u : List Ex} (hu : u ∈ st.vals) (h : e ∈ u) : e ∈ allX st := by rw [allX_eq]; simp only [jC, List.mem_flatten]; exact .inl (.inl (.inl (.inl (.inr ⟨u, hu, h⟩))))
theorem ax_s {a : As} (h : a ∈ st.sets) : a.ex ∈ allX st := by rw [allX_eq]; simp only [jC, jE]; exact .inl (.inl (.inl (.inr ⟨a, h, rfl⟩)))
theorem ax_i {a : It} (h : a ∈ st.its) : a.ex ∈ allX st := by rw [allX_eq]; simp only [jC, jE]; exact .inl (.inl (.inr ⟨a, h, rfl⟩))
theorem ax_w : st.wh ∈ allX st := by rw [allX_eq]; simp
theorem ax_g {e : Ex} (h : e ∈ st.grp) : e ∈ allX st := by rw [allX_eq]; simp [h]
theorem fl_len {α : Type} : ∀ {l : List (List α)} {u : List α}, u ∈ l → u.length ≤ l.flatten.length
  | x :: l, u, h => by
    rw [List.flatten_cons, qG]
    rcases jD.1 h with rfl | h
    · omega
    · have := fl_len h; omega
theorem ax_len : st.cr.chks.length + st.vals.flatten.length + st.sets.length + st.its.length + 1 + st.grp.length = (allX st).length := by
  rw [allX_eq]; simp only [qG, qA, qP]
structure smQ (st : St) : Prop where
  ax : (allX st).length ≤ 1200
  vl : st.vals.length ≤ 200
  fl : st.frm.length ≤ 200
  ol : st.ord.length ≤ 200
  cl : st.cr.cols.length ≤ 200
  kl : st.cr.keys.length ≤ 200
  ql : st.cr.fks.length ≤ 200
  kn : ∀ l ∈ st.cr.keys, l.length ≤ 1200
  fn : ∀ f ∈ st.cr.fks, f.cols.length ≤ 1200 ∧ f.tgt.length ≤ 1200
theorem smQ_of (h : smB st = true) : smQ st := by
  obtain ⟨h1, h2⟩ := Bool.and_eq_true_iff.1 h
  have h1 := jJ h1
  have h2 := jJ h2
  unfold n6S n5S n4S n3S n2S n1S at h2
  have q := smL_len (fun e => (wg_bd e).2) (allX st)
  have q1 : ∀ l ∈ st.cr.keys, l.length ≤ 1200 := fun l hl => by have := smL_mem (f := wdN) hl; unfold wdN at this h2; omega
  have q2 : ∀ f ∈ st.cr.fks, f.cols.length ≤ 1200 ∧ f.tgt.length ≤ 1200 := fun f hf => by
    have := smL_mem (f := rfW) hf
    have e : rfW f = wdN f.cols + f.tab.size + wdN f.tgt := rfl
    have e2 : wdN f.cols = f.cols.length + smL ByteArray.size f.cols := rfl
    have e3 : wdN f.tgt = f.tgt.length + smL ByteArray.size f.tgt := rfl
    omega
  unfold n0S at h1
  exact ⟨by omega, by omega, by omega, by omega, by omega, by omega, by omega, q1, q2⟩
theorem tx_of (hf : okFm st) (hs : smQ st) (hn : smL ndE (allX st) ≤ 400) (fm : frmS st) (hb : st.tb.size ≤ 2000000) (hm : st.nm.size ≤ 2000000) (hc : ∀ a ∈ st.sets, a.col.size ≤ 2000000) (hfr : ∀ f ∈ st.frm, f.tb.size ≤ 2000000 ∧ f.al.size ≤ 2000000) : okTx st := by
  have L := ax_len (st := st)
  have la := hs.ax
  have nd : ∀ e ∈ allX st, ndE e ≤ 400 := fun e he => jB (smL_mem (f := ndE) he) hn
  refine ⟨hb, hm, fun k => ⟨hf.wo, fm.wh k, nd _ ax_w⟩, fun k => ?_, fun k => ?_, fun k => ?_, fun k => ?_⟩
  · obtain ⟨d1, d2, d3, d4, _⟩ := fm.c1 k
    refine ⟨by have := hs.cl; omega, fun x hx => ?_, by have := hs.kl; omega, fun l hl => ⟨by have := hs.kn l hl; omega, fun u hu => ?_⟩, by have := hs.ql; omega, fun f hf' => ?_, by omega, fun e he => ⟨hf.cr.xn e he, ?_, nd _ (ax_c he)⟩⟩
    · obtain ⟨j, hj, rfl⟩ := qN.1 hx; exact d1 j hj
    · obtain ⟨j, hj, rfl⟩ := qN.1 hl
      obtain ⟨k, hk, rfl⟩ := qN.1 hu
      exact ((d2 j hj).1 k hk).1.2
    · obtain ⟨j, hj, rfl⟩ := qN.1 hf'
      obtain ⟨e1, e2, e3⟩ := d3 j hj
      obtain ⟨g1, g2⟩ := hs.fn _ (qC hj)
      refine ⟨⟨by omega, fun u hu => ?_⟩, e2.1.2, ⟨by omega, fun u hu => ?_⟩⟩
      · obtain ⟨k, hk, rfl⟩ := qN.1 hu; exact (e1.1 k hk).1.2
      · obtain ⟨k, hk, rfl⟩ := qN.1 hu; exact (e3.1 k hk).1.2
    · obtain ⟨j, hj, rfl⟩ := qN.1 he; exact d4 j hj
  · refine ⟨by have := hs.vl; omega, fun u hu => ⟨by have := fl_len hu; omega, fun e he => ⟨(hf.vo u hu).2 e he, ?_, nd _ (ax_v hu he)⟩⟩⟩
    obtain ⟨j, hj, rfl⟩ := qN.1 hu
    obtain ⟨i, hi, rfl⟩ := qN.1 he
    exact ((fm.c2 k).1 j hj).1 i hi
  · refine ⟨by omega, fun a ha => ⟨hc a ha, (hf.so a ha).2, ?_, nd _ (ax_s ha)⟩⟩
    obtain ⟨j, hj, rfl⟩ := qN.1 ha
    exact ((fm.c3 k).1 j hj).2
  · have q := fm.c5 k
    refine ⟨by omega, fun x hx => ?_, by have := hs.fl; omega, hfr, by omega, fun e he => ⟨hf.go e he, ?_, nd _ (ax_g he)⟩, by have := hs.ol; omega, fun o ho => ?_, by have := q.lm; omega⟩
    · have hx' := hx
      obtain ⟨j, hj, rfl⟩ := qN.1 hx
      have r := q.io j hj
      exact ⟨r.lo, r.hi, fun k => ⟨hf.io _ hx', r.ex k, nd _ (ax_i hx')⟩⟩
    · obtain ⟨j, hj, rfl⟩ := qN.1 he; exact (q.go j hj).2
    · obtain ⟨j, hj, rfl⟩ := qN.1 ho; have := (q.oo j hj).2; omega
end
structure okIn (st : St) : Prop where
  sm : okSm st
  fm : okFm st
  xe : ∀ e ∈ allX st, Q.okE e
  tb : st.tb.size ≤ 2000000
  nm : st.nm.size ≤ 2000000
  sc : ∀ a ∈ st.sets, a.col.size ≤ 2000000
  fr : ∀ f ∈ st.frm, f.tb.size ≤ 2000000 ∧ f.al.size ≤ 2000000
theorem valid_q (st : St) (ok : okIn st) (hsm : smB st = true) (H : Heap) : E.Spec Tryz.prog 22 [stC st] H fun x H' => ∃ n, x = .c (iC n) ∧ (n = 0 → vaP st) ∧ H' = H := by
 have hsq := smQ_of hsm
 have hax := hsq.ax
 refine Spec.enter Tryz.func22 rfl ?_
 refine AW.wk (wK 47 (l := [(0, .c (stC st))]) (ll := []) (H := (H))) ?_
 refine D2 ?_
 refine D1 ?_
 refine Z16 fn44 (exprs_any st ok.sm.hv ok.sm.hb) ?_
 refine sB ?_
 refine D1 ?_
 refine AW.seq (D1 ?_)
 refine AW.block (AW.loop (fun (i : Nat) s => ∃ (n : Nat), (i ≤ (allX st).length ∧ n ≤ 801 ∧ (n ≤ 400 → n = smL ndE ((allX st).take i))) ∧ s = ⟨47, sp [(1, .lp 1 0), (2, .c (iC 0)), (3, .c (exsC .un (allX st))), (4, nX n), (5, nX i)], lv [(1, .box (zSt st))], H⟩) (fun i => (allX st).length - i) 0 ⟨_, by exact wK 47, 0, ⟨qZ _, by omega, fun _ => by simp [smL]⟩, rfl⟩ (fun i s hs => ?_))
 obtain ⟨n, ⟨hi0, hn8, hn⟩, rfl⟩ := hs
 refine AW.seq (D4 ?_)
 refine Z17 ?_ ?_ <;> intro g13
 rotate_left
 ·
  iterate 2 refine oF ?_
  refine G2 ?_
  refine AW.condF rfl ?_
  refine AW.exit ?_
  refine eth_e ?_
  refine eth_e ?_
  refine exit_here ?_
  refine AW.seq (D3 ?_)
  refine cD ?_ ?_ <;> intro h27
  ·
   refine D1 ?_
   exact aR (f1 (q := ⟨_, rfl, fun h => absurd h (by decide), rfl⟩))
  have htot : smL ndE (allX st) ≤ 400 := by
   rw [qU (by (try rw [qA] at g13); omega)] at hn
   omega
  refine AW.skip (AW.seq (D1 ?_))
  refine AW.block (AW.loop (fun (i : Nat) s => (i ≤ (allX st).length ∧ ∀ j (h : j < (allX st).length), j < i → depN (allX st)[j] ≤ 50) ∧ s = ⟨47, sp [(1, .lp 1 0), (2, .c (iC 0)), (3, .c (exsC .un (allX st))), (6, nX i)], lv [(1, .box (zSt st))], H⟩) (fun i => (allX st).length - i) 0 ⟨_, by exact wK 47, ⟨qZ _, up0⟩, rfl⟩ (fun i s hs => ?_))
  obtain ⟨⟨hi0, hU⟩, rfl⟩ := hs
  refine AW.seq (D5 ?_)
  refine cD ?_ ?_ <;> intro h31
  ·
   have hi := oI h31
   have hin := qC hi
   have hdn := dep_nd (allX st)[i]
   have hmn := smL_mem (f := ndE) hin
   refine AW.skip (AW.seq (AW.block (D4 ?_)))
   refine sQ (q_call _ rfl fn48 rfl (rdepth_any _ (ok.xe _ hin) (by omega)) rfl) ?_
   refine G2 ?_
   refine cD ?_ ?_ <;> intro h39
   ·
    refine D1 ?_
    exact aR (f1 (q := ⟨_, rfl, fun h => absurd h (by decide), rfl⟩))
   refine AW.skip (B3 ?_)
   exact ⟨i + 1, _, by exact wK 47, by omega, ⟨hi, upS hi hU (by omega)⟩, rfl⟩
  refine AW.exit ?_
  refine eth_e ?_
  refine eth_e ?_
  refine exit_here ?_
  refine AW.seq (AW.seq ?_)
  have hdp : ∀ e ∈ allX st, depN e ≤ 50 := fun e he => by
   obtain ⟨j, hj, rfl⟩ := qN.1 he
   exact hU j hj (by (try rw [qA] at h31); omega)
  refine B1 ?_
  refine SeqK.callE rfl rfl rfl rfl fn49 rfl (formed_q st ok.fm _) (fun _ _ h => by obtain ⟨_, h, _⟩ := h; rw [h]; rfl) (fun x41 H41 q41 => ?_)
  obtain ⟨b41, rfl, hb41, e41⟩ := q41
  replace e41 := e41.symm
  subst e41
  refine G2 ?_
  refine AW.cond _ rfl (fun h42 => ?_) (fun h42 => ?_)
  ·
   refine D1 ?_
   exact aR (f1 (q := ⟨_, rfl, fun h => absurd h (by decide), rfl⟩))
  have hbt : b41 = true := bnf h42
  refine AW.skip (AW.seq (D1 ?_))
  refine SeqK.callE rfl rfl rfl rfl fn50 rfl (body_any st (tx_of ok.fm hsq htot (hb41 hbt) ok.tb ok.nm ok.sc ok.fr) _) (fun _ _ h => by obtain ⟨_, h, _⟩ := h; rw [h]; rfl) (fun x44 H44 q44 => ?_)
  obtain ⟨u44, rfl, hu44, e44⟩ := q44
  replace e44 := e44.symm
  subst e44
  refine G3 ?_
  refine cD ?_ ?_ <;> intro h46
  ·
   refine D1 ?_
   exact aR (f1 (q := ⟨_, rfl, fun h => absurd h (by decide), rfl⟩))
  refine AW.skip (D1 ?_)
  exact aR (f1 (q := ⟨_, rfl, fun _ => ⟨htot, hdp, hb41 hbt⟩, rfl⟩))
 have hi := oI g13
 have hin := qC hi
 have htk := smL_put (f := ndE) hi
 refine G4 ?_
 refine cD ?_ ?_ <;> intro h16
 ·
  have hn4 : n ≤ 400 := by omega
  refine AW.skip (AW.seq (AW.block (B5 ?_)))
  refine sQ (q_call _ rfl fn47 rfl (upTo_gen _ (ok.xe _ hin) 400 (by omega)) rfl) ?_
  refine sQ (q_add _ rfl rfl rfl ((by rw [w64 (by omega) (by omega)]; omega : IntKind.i64.wrap _ = ((n + min (ndE (allX st)[i]) (400 + 1) : Nat) : Int)))) ?_
  refine sB ?_
  refine B3 ?_
  exact ⟨i + 1, _, by exact wK 47, by omega, n + min (ndE (allX st)[i]) (400 + 1), ⟨hi, by omega, fun h => by rw [htk]; have := hn hn4; omega⟩, rfl⟩
 refine AW.exit ?_
 refine eth_e ?_
 refine eth_e ?_
 refine exit_here ?_
 refine AW.seq (D3 ?_)
 refine cD ?_ ?_ <;> intro h27
 ·
  refine D1 ?_
  exact aR (f1 (q := ⟨_, rfl, fun h => absurd h (by decide), rfl⟩))
 have htot : smL ndE (allX st) ≤ 400 := by
  rw [qU (by (try rw [qA] at g13); omega)] at hn
  omega
 refine AW.skip (AW.seq (D1 ?_))
 refine AW.block (AW.loop (fun (i : Nat) s => (i ≤ (allX st).length ∧ ∀ j (h : j < (allX st).length), j < i → depN (allX st)[j] ≤ 50) ∧ s = ⟨47, sp [(1, .lp 1 0), (2, .c (iC 0)), (3, .c (exsC .un (allX st))), (6, nX i)], lv [(1, .box (zSt st))], H⟩) (fun i => (allX st).length - i) 0 ⟨_, by exact wK 47, ⟨qZ _, up0⟩, rfl⟩ (fun i s hs => ?_))
 obtain ⟨⟨hi0, hU⟩, rfl⟩ := hs
 refine AW.seq (D5 ?_)
 refine cD ?_ ?_ <;> intro h31
 ·
  have hi := oI h31
  have hin := qC hi
  have hdn := dep_nd (allX st)[i]
  have hmn := smL_mem (f := ndE) hin
  refine AW.skip (AW.seq (AW.block (D4 ?_)))
  refine sQ (q_call _ rfl fn48 rfl (rdepth_any _ (ok.xe _ hin) (by omega)) rfl) ?_
  refine G2 ?_
  refine cD ?_ ?_ <;> intro h39
  ·
   refine D1 ?_
   exact aR (f1 (q := ⟨_, rfl, fun h => absurd h (by decide), rfl⟩))
  refine AW.skip (B3 ?_)
  exact ⟨i + 1, _, by exact wK 47, by omega, ⟨hi, upS hi hU (by omega)⟩, rfl⟩
 refine AW.exit ?_
 refine eth_e ?_
 refine eth_e ?_
 refine exit_here ?_
 refine AW.seq (AW.seq ?_)
 have hdp : ∀ e ∈ allX st, depN e ≤ 50 := fun e he => by
  obtain ⟨j, hj, rfl⟩ := qN.1 he
  exact hU j hj (by (try rw [qA] at h31); omega)
 refine B1 ?_
 refine SeqK.callE rfl rfl rfl rfl fn49 rfl (formed_q st ok.fm _) (fun _ _ h => by obtain ⟨_, h, _⟩ := h; rw [h]; rfl) (fun x41 H41 q41 => ?_)
 obtain ⟨b41, rfl, hb41, e41⟩ := q41
 replace e41 := e41.symm
 subst e41
 refine G2 ?_
 refine AW.cond _ rfl (fun h42 => ?_) (fun h42 => ?_)
 ·
  refine D1 ?_
  exact aR (f1 (q := ⟨_, rfl, fun h => absurd h (by decide), rfl⟩))
 have hbt : b41 = true := bnf h42
 refine AW.skip (AW.seq (D1 ?_))
 refine SeqK.callE rfl rfl rfl rfl fn50 rfl (body_any st (tx_of ok.fm hsq htot (hb41 hbt) ok.tb ok.nm ok.sc ok.fr) _) (fun _ _ h => by obtain ⟨_, h, _⟩ := h; rw [h]; rfl) (fun x44 H44 q44 => ?_)
 obtain ⟨u44, rfl, hu44, e44⟩ := q44
 replace e44 := e44.symm
 subst e44
 refine G3 ?_
 refine cD ?_ ?_ <;> intro h46
 ·
  refine D1 ?_
  exact aR (f1 (q := ⟨_, rfl, fun h => absurd h (by decide), rfl⟩))
 refine AW.skip (D1 ?_)
 exact aR (f1 (q := ⟨_, rfl, fun _ => ⟨htot, hdp, hb41 hbt⟩, rfl⟩))
theorem small_q (d : List Tb) (z : Nz) (st : St) (hl : d.length ≤ 1048576) (hok : ∀ t ∈ d, Q.okT t) (ok : okIn st) (H : Heap) : E.Spec Tryz.prog 7 [scC z d, stC st] H fun x H' => ∃ b, x = .c (bC b) ∧ (b = true → ssP d ∧ vldS d ∧ smB st = true ∧ vaP st) ∧ H' = H := by
 refine Spec.enter Tryz.func7 rfl ?_
 refine AW.wk (wK 20 (l := [(0, .c (scC z d)), (1, .c (stC st))]) (ll := []) (H := (H))) ?_
 refine D2 ?_
 refine D1 ?_
 refine sQ (q_call _ rfl fn19 rfl (smallSchema_any d z (by omega) hok) rfl) ?_
 refine Z53 ?_ ?_ <;> intro g7
 rotate_left
 ·
  iterate 2 refine oF ?_
  refine G2 ?_
  iterate 2 refine oF ?_
  refine G2 ?_
  iterate 3 refine oF ?_
  refine G2 ?_
  exact aR (f1 (q := ⟨_, rfl, fun h => (by first | cases h; done | exact ⟨jJ g7, jJ g11, g15, hn17 (jJ h)⟩), rfl⟩))
 refine Z14 ?_
 refine sO (q_call _ rfl fn20 rfl (rvalid_any d z (by have := (jJ g7).2; omega) (jJ g7) hok) rfl) ?_
 refine Z7 ?_
 refine Z53 ?_ ?_ <;> intro g11
 ·
  refine G1 ?_
  refine Z52 fn21 (small21_any st ok.sm) ?_
  refine Z7 ?_
  refine Z53 ?_ ?_ <;> intro g15
  ·
   refine G1 ?_
   refine SeqK.callOn rfl rfl rfl rfl rfl rfl fn22 rfl (valid_q st ok g15 _) (fun _ _ h => by obtain ⟨_, h, _⟩ := h; rw [h]; rfl) (fun x17 H17 q17 => ?_)
   obtain ⟨n17, rfl, hn17, e17⟩ := q17
   replace e17 := e17.symm
   subst e17
   refine G3 ?_
   exact aR (f1 (q := ⟨_, rfl, fun h => (by first | cases h; done | exact ⟨jJ g7, jJ g11, g15, hn17 (jJ h)⟩), rfl⟩))
  iterate 3 refine oF ?_
  refine G2 ?_
  exact aR (f1 (q := ⟨_, rfl, fun h => (by first | cases h; done | exact ⟨jJ g7, jJ g11, g15, hn17 (jJ h)⟩), rfl⟩))
 iterate 2 refine oF ?_
 refine G2 ?_
 iterate 3 refine oF ?_
 refine G2 ?_
 exact aR (f1 (q := ⟨_, rfl, fun h => (by first | cases h; done | exact ⟨jJ g7, jJ g11, g15, hn17 (jJ h)⟩), rfl⟩))
open Q
open Q
theorem mem_put {α : Type} {p : α → Prop} {l : List α} {a : α} (h : ∀ x ∈ l, p x) (ha : p a) : ∀ x ∈ l ++ [a], p x := fun x hx => by
  rcases jC.1 hx with hx | hx
  · exact h x hx
  · rw [jF.1 hx]; exact ha
theorem tpl_ok {t : Tb} : ∀ (r : List Ex) (i : Nat) (es : List Ex) (vs : List RV), (tplB t r i es vs).2.2 = 0 → (∀ e ∈ r, gdX e) → (∀ e ∈ es, gdX e) →
    (∀ e ∈ (tplB t r i es vs).1, gdX e) ∧ (tplB t r i es vs).1.length = es.length + r.length ∧ (tplB t r i es vs).2.1.length = vs.length + r.length
  | [], i, es, vs, _, _, hes => by rw [tplB]; exact ⟨hes, by simp, by simp⟩
  | e :: r, i, es, vs, h, hr, hes => by
    rw [tplB] at h ⊢
    by_cases h1 : (bndE sp0 e).2.2 ≠ 0
    · rw [if_pos h1] at h; exact absurd h h1
    rw [if_neg h1] at h ⊢
    by_cases h2 : fitI (bndE sp0 e).2.1 (t.cols.getD i co0).ty = false
    · rw [if_pos h2] at h; cases h
    rw [if_neg h2] at h ⊢
    by_cases h3 : (cstE (bndE sp0 e).1).2 ≠ 0
    · rw [if_pos h3] at h; exact absurd h h3
    rw [if_neg h3] at h ⊢
    have hg := (hr e (by simp)).bnd (qY.1 h1)
    obtain ⟨k1, k2, k3⟩ := tpl_ok r (i + 1) _ _ h (fun x hx => hr x (by simp [hx])) (mem_put hes hg)
    exact ⟨k1, by rw [k2]; simp only [qG, qM, qQ]; omega, by rw [k3]; simp only [qG, qM, qQ]; omega⟩
theorem tup_ok {t : Tb} : ∀ (l : List (List Ex)) (es : List (List Ex)) (vs : List (List RV)), (tupB t l es vs).2.2 = 0 → (∀ u ∈ l, ∀ e ∈ u, gdX e) → (∀ u ∈ es, (∀ e ∈ u, gdX e) ∧ u.length ≤ t.cols.length) → (∀ v ∈ vs, v.length ≤ t.cols.length) →
    (∀ u ∈ (tupB t l es vs).1, (∀ e ∈ u, gdX e) ∧ u.length ≤ t.cols.length) ∧ (tupB t l es vs).1.length = es.length + l.length ∧ (∀ v ∈ (tupB t l es vs).2.1, v.length ≤ t.cols.length) ∧ (tupB t l es vs).2.1.length = vs.length + l.length
  | [], es, vs, _, _, hes, hvs => by rw [tupB]; exact ⟨hes, by simp, hvs, by simp⟩
  | u :: r, es, vs, h, hr, hes, hvs => by
    rw [tupB] at h ⊢
    by_cases h1 : u.length ≠ t.cols.length
    · rw [if_pos h1] at h; cases h
    rw [if_neg h1] at h ⊢
    by_cases h2 : (tplB t u 0 [] []).2.2 ≠ 0
    · rw [if_pos h2] at h; exact absurd h h2
    rw [if_neg h2] at h ⊢
    obtain ⟨j1, j2, j3⟩ := tpl_ok (t := t) u 0 [] [] (qY.1 h2) (hr u (by simp)) (by simp)
    rw [qQ, Nat.zero_add] at j2 j3
    obtain ⟨k1, k2, k3, k4⟩ := tup_ok r _ _ h (fun x hx => hr x (by simp [hx])) (mem_put hes ⟨j1, by omega⟩) (mem_put hvs (by omega))
    exact ⟨k1, by rw [k2]; simp only [qG, qM, qQ]; omega, k3, by rw [k4]; simp only [qG, qM, qQ]; omega⟩
theorem asg_ok {t : Tb} : ∀ (l out : List As), (asgB t l out).2 = 0 → (∀ a ∈ l, gdX a.ex) → (∀ a ∈ out, gdX a.ex) → (∀ a ∈ (asgB t l out).1, gdX a.ex) ∧ (asgB t l out).1.length = out.length + l.length
  | [], out, _, _, ho => by rw [asgB]; exact ⟨ho, by simp⟩
  | a :: r, out, h, hr, ho => by
    rw [asgB] at h ⊢
    by_cases h1 : colI t.cols a.col < 0
    · rw [if_pos h1] at h; cases h
    rw [if_neg h1] at h ⊢
    by_cases h2 : (out.any fun b => decide (b.ix = colI t.cols a.col)) = true
    · rw [if_pos h2] at h; cases h
    rw [if_neg h2] at h ⊢
    by_cases h3 : (bndE (alnS t) a.ex).2.2 ≠ 0
    · rw [if_pos h3] at h; exact absurd h h3
    rw [if_neg h3] at h ⊢
    by_cases h4 : fitI (bndE (alnS t) a.ex).2.1 (t.cols.getD (colI t.cols a.col).toNat co0).ty = false
    · rw [if_pos h4] at h; cases h
    rw [if_neg h4] at h ⊢
    obtain ⟨k1, k2⟩ := asg_ok r _ h (fun x hx => hr x (by simp [hx])) (mem_put (p := fun a : As => gdX a.ex) ho ((hr a (by simp)).bnd (qY.1 h3)))
    exact ⟨k1, by rw [k2]; simp only [qG, qM, qQ]; omega⟩
theorem exs_ok {s : Sp} : ∀ (l out : List Ex), (exsB s l out).2 = 0 → (∀ a ∈ l, gdX a) → (∀ a ∈ out, gdX a) → (∀ a ∈ (exsB s l out).1, gdX a) ∧ (exsB s l out).1.length = out.length + l.length
  | [], out, _, _, ho => by rw [exsB]; exact ⟨ho, by simp⟩
  | a :: r, out, h, hr, ho => by
    rw [exsB] at h ⊢
    by_cases h3 : (bndE s a).2.2 ≠ 0
    · rw [if_pos h3] at h; exact absurd h h3
    rw [if_neg h3] at h ⊢
    obtain ⟨k1, k2⟩ := exs_ok r _ h (fun x hx => hr x (by simp [hx])) (mem_put ho ((hr a (by simp)).bnd (qY.1 h3)))
    exact ⟨k1, by rw [k2]; simp only [qG, qM, qQ]; omega⟩
abbrev itG (x : It) : Prop := (x.ag ≠ 1 → gdX x.ex) ∧ rgX x.ex
theorem its_ok {s : Sp} : ∀ (l out : List It), (itsB s l out).2 = 0 → (∀ a ∈ l, itG a) → (∀ a ∈ out, itG a) → (∀ a ∈ (itsB s l out).1, itG a) ∧ (itsB s l out).1.length = out.length + l.length
  | [], out, _, _, ho => by rw [itsB]; exact ⟨ho, by simp⟩
  | x :: r, out, h, hr, ho => by
    have hx := hr x (by simp)
    rw [itsB] at h ⊢
    by_cases h1 : x.ag = 1
    · rw [if_pos h1] at h ⊢
      obtain ⟨k1, k2⟩ := its_ok r _ h (fun x hx => hr x (by simp [hx])) (mem_put ho hx)
      exact ⟨k1, by rw [k2]; simp only [qG, qM, qQ]; omega⟩
    rw [if_neg h1] at h ⊢
    by_cases h3 : (bndE s x.ex).2.2 ≠ 0
    · rw [if_pos h3] at h; exact absurd h h3
    rw [if_neg h3] at h ⊢
    by_cases h4 : (bndE s x.ex).2.1 = 3 ∨ (x.ag = 3 ∧ fitI (bndE s x.ex).2.1 1 = false)
    · rw [if_pos h4] at h; cases h
    rw [if_neg h4] at h ⊢
    have hb := (hx.1 h1).bnd (qY.1 h3)
    obtain ⟨k1, k2⟩ := its_ok r _ h (fun x hx => hr x (by simp [hx])) (mem_put (p := itG) ho ⟨fun _ => hb, hb.rg⟩)
    exact ⟨k1, by rw [k2]; simp only [qG, qM, qQ]; omega⟩
theorem rg_0 : rgX ex0 := (rgX_iff _).2 ⟨⟨by decide, by decide, by decide⟩, fun a ha => by simp at ha⟩
theorem cnd_ok {s : Sp} {e : Ex} (h : (cndB s e).2 = 0) (hg : ¬ e.op = 0 → gdX e) : (¬ (cndB s e).1.op = 0 → gdX (cndB s e).1) ∧ rgX (cndB s e).1 := by
  unfold cndB at h ⊢
  by_cases h1 : e.op = 0
  · rw [if_pos h1]; exact ⟨fun k => absurd rfl k, rg_0⟩
  rw [if_neg h1] at h ⊢
  by_cases h2 : (bndE s e).2.2 ≠ 0
  · rw [if_pos h2] at h; exact absurd h h2
  rw [if_neg h2] at h ⊢
  by_cases h3 : fitI (bndE s e).2.1 3 = false
  · rw [if_pos h3] at h; cases h
  rw [if_neg h3]
  have hb := (hg h1).bnd (qY.1 h2)
  exact ⟨fun _ => hb, hb.rg⟩
theorem fr_ok {s : List Tb} {C : Nat} (hs : ∀ t ∈ s, t.cols.length ≤ C) : ∀ (l : List Fr) (ss : List Sr) (ts : List Int) (vs : List Vr), (frB s l ss ts vs).2.2.2 = 0 → (frB s l ss ts vs).2.1.length = ts.length + l.length ∧ (frB s l ss ts vs).2.2.1.length ≤ vs.length + l.length * C
  | [], ss, ts, vs, _ => by rw [frB]; exact ⟨by simp, by simp⟩
  | f :: r, ss, ts, vs, h => by
    rw [frB] at h ⊢
    by_cases h1 : fndI s f.tb < 0
    · rw [if_pos h1] at h; cases h
    rw [if_neg h1] at h ⊢
    by_cases h2 : (ss.any fun y => decide (y.nm = frN f)) = true
    · rw [if_pos h2] at h; cases h
    rw [if_neg h2] at h ⊢
    obtain ⟨k1, k2⟩ := fr_ok hs r _ _ _ h
    have hc : (tbA s (fndI s f.tb)).cols.length ≤ C := by
      unfold tbA
      rw [qI]
      cases hg : s[(fndI s f.tb).toNat]? with
      | none => exact qZ _
      | some t => exact hs t (List.mem_of_getElem? hg)
    have hv : (vrsT (tbA s (fndI s f.tb))).length = (tbA s (fndI s f.tb)).cols.length := qA _
    rw [qG, hv] at k2
    exact ⟨by rw [k1]; simp only [qG, qM, qQ]; omega, by rw [qM, Nat.add_mul]; omega⟩
structure okBd (b : Bd) : Prop where
  st : okSt b.st
  tb : b.tabs.length ≤ 1000000
  vr : b.vars.length ≤ 1000000000000000
  rw : b.rows.length ≤ 1000000 ∧ ∀ r ∈ b.rows, r.length ≤ 1000000
  vl : ∀ u ∈ b.st.vals, u.length ≤ 2000000 ∧ ∀ e ∈ u, rgX e
  sr : ∀ a ∈ b.st.sets, rgX a.ex
  ir : ∀ x ∈ b.st.its, rgX x.ex
  wr : rgX b.st.wh
  gr : ∀ e ∈ b.st.grp, rgX e
structure okRg (st : St) : Prop where
  vl : ∀ u ∈ st.vals, u.length ≤ 2000000 ∧ ∀ e ∈ u, rgX e
  sr : ∀ a ∈ st.sets, rgX a.ex
  ir : ∀ x ∈ st.its, rgX x.ex
  wr : rgX st.wh
  gr : ∀ e ∈ st.grp, rgX e
theorem chg_ok {d : List Tb} {st : St} (hd : okDb d) (hst : okSt st) (hr : okRg st) (hk : st.k = 2 ∨ st.k = 3 ∨ st.k = 4) (h : (chgB d st).2 = 0) : okBd (chgB d st).1 := by
  have hct : (tbA d (fndI d st.tb)).cols.length ≤ 1000000 := by
    unfold tbA
    rw [qI]
    cases hg : d[(fndI d st.tb).toNat]? with
    | none => exact qZ _
    | some t => exact (hd.tb t (List.mem_of_getElem? hg)).cl
  unfold chgB at h ⊢
  dsimp only at h ⊢
  by_cases h1 : fndI d st.tb < 0
  · rw [if_pos h1] at h; cases h
  rw [if_neg h1] at h ⊢
  by_cases h2 : st.k = 2 ∧ (tupB (tbA d (fndI d st.tb)) st.vals [] []).2.2 ≠ 0
  · rw [if_pos h2] at h; exact absurd h h2.2
  rw [if_neg h2] at h ⊢
  by_cases h3 : st.k = 3 ∧ (asgB (tbA d (fndI d st.tb)) st.sets []).2 ≠ 0
  · rw [if_pos h3] at h; exact absurd h h3.2
  rw [if_neg h3] at h ⊢
  by_cases h4 : (cndB (alnS (tbA d (fndI d st.tb))) st.wh).2 ≠ 0
  · rw [if_pos h4] at h; exact absurd h h4
  rw [if_neg h4]
  obtain ⟨w1, w2⟩ := cnd_ok (qY.1 h4) hst.ch.wg
  have V : (∀ u ∈ (if st.k = 2 then (tupB (tbA d (fndI d st.tb)) st.vals [] []).1 else st.vals), (∀ e ∈ u, gdX e) ∧ u.length ≤ 2000000) ∧ (if st.k = 2 then (tupB (tbA d (fndI d st.tb)) st.vals [] []).1 else st.vals).length ≤ 1000000 := by
    by_cases k : st.k = 2
    · rw [if_pos k]
      have k0 : (tupB (tbA d (fndI d st.tb)) st.vals [] []).2.2 = 0 := qY.1 fun h => h2 ⟨k, h⟩
      obtain ⟨j1, j2, _⟩ := tup_ok st.vals [] [] k0 hst.ch.vg (by simp) (by simp)
      exact ⟨fun u hu => ⟨(j1 u hu).1, by have := (j1 u hu).2; omega⟩, by rw [j2]; have := hst.ch.vl; simp; omega⟩
    · rw [if_neg k]; exact ⟨fun u hu => ⟨hst.ch.vg u hu, (hr.vl u hu).1⟩, hst.ch.vl⟩
  have R : (if st.k = 2 then (tupB (tbA d (fndI d st.tb)) st.vals [] []).2.1 else []).length ≤ 1000000 ∧ ∀ r ∈ (if st.k = 2 then (tupB (tbA d (fndI d st.tb)) st.vals [] []).2.1 else []), r.length ≤ 1000000 := by
    by_cases k : st.k = 2
    · rw [if_pos k]
      have k0 : (tupB (tbA d (fndI d st.tb)) st.vals [] []).2.2 = 0 := qY.1 fun h => h2 ⟨k, h⟩
      obtain ⟨_, _, j3, j4⟩ := tup_ok st.vals [] [] k0 hst.ch.vg (by simp) (by simp)
      exact ⟨by rw [j4]; have := hst.ch.vl; simp; omega, fun r hr => by have := j3 r hr; omega⟩
    · rw [if_neg k]; exact ⟨qZ _, fun r hr => by simp at hr⟩
  have S : (∀ a ∈ (if st.k = 3 then (asgB (tbA d (fndI d st.tb)) st.sets []).1 else st.sets), gdX a.ex) ∧ (if st.k = 3 then (asgB (tbA d (fndI d st.tb)) st.sets []).1 else st.sets).length ≤ 1000000 := by
    by_cases k : st.k = 3
    · rw [if_pos k]
      have k0 : (asgB (tbA d (fndI d st.tb)) st.sets []).2 = 0 := qY.1 fun h => h3 ⟨k, h⟩
      obtain ⟨j1, j2⟩ := asg_ok st.sets [] k0 hst.ch.sg (by simp)
      exact ⟨j1, by rw [j2]; have := hst.ch.sl; simp; omega⟩
    · rw [if_neg k]; exact ⟨hst.ch.sg, hst.ch.sl⟩
  refine ⟨⟨⟨V.2, fun u hu => (V.1 u hu).1, S.2, S.1, w1⟩, ⟨hst.qr.il, hst.qr.ig, w1, hst.qr.gl, hst.qr.gg, hst.qr.ol, hst.qr.fl⟩⟩, by simp, ?_, R, fun u hu => ⟨(V.1 u hu).2, fun e he => ((V.1 u hu).1 e he).rg⟩, fun a ha => (S.1 a ha).rg, hr.ir, w2, hr.gr⟩
  show (vrsT _).length ≤ _
  rw [qA]; omega
theorem qry_ok {d : List Tb} {st : St} (hd : okDb d) (hst : okSt st) (hr : okRg st) (h : (qryB d st).2 = 0) : okBd (qryB d st).1 := by
  unfold qryB at h ⊢
  dsimp only at h ⊢
  by_cases h1 : 3 < st.frm.length
  · rw [if_pos h1] at h; cases h
  rw [if_neg h1] at h ⊢
  by_cases h2 : (frB d st.frm [] [] []).2.2.2 ≠ 0
  · rw [if_pos h2] at h; exact absurd h h2
  rw [if_neg h2] at h ⊢
  by_cases h3 : (itsB ⟨(frB d st.frm [] [] []).1, [], false⟩ st.its []).2 ≠ 0
  · rw [if_pos h3] at h; exact absurd h h3
  rw [if_neg h3] at h ⊢
  by_cases h4 : (cndB ⟨(frB d st.frm [] [] []).1, [], false⟩ st.wh).2 ≠ 0
  · rw [if_pos h4] at h; exact absurd h h4
  rw [if_neg h4] at h ⊢
  by_cases h5 : (exsB ⟨(frB d st.frm [] [] []).1, [], false⟩ st.grp []).2 ≠ 0
  · rw [if_pos h5] at h; exact absurd h h5
  rw [if_neg h5] at h ⊢
  by_cases h6 : grdB (itsB ⟨(frB d st.frm [] [] []).1, [], false⟩ st.its []).1 (exsB ⟨(frB d st.frm [] [] []).1, [], false⟩ st.grp []).1 = false
  · rw [if_pos h6] at h; cases h
  rw [if_neg h6] at h ⊢
  by_cases h7 : (st.ord.any fun o => decide (wdB st.its (frB d st.frm [] [] []).2.2.1 < o.it)) = true
  · rw [if_pos h7] at h; cases h
  rw [if_neg h7]
  obtain ⟨w1, w2⟩ := cnd_ok (qY.1 h4) hst.qr.wg
  obtain ⟨f1, f2⟩ := fr_ok (C := 1000000) (fun t ht => (hd.tb t ht).cl) st.frm [] [] [] (qY.1 h2)
  obtain ⟨i1, i2⟩ := its_ok st.its [] (qY.1 h3) (fun a ha => ⟨hst.qr.ig a ha, hr.ir a ha⟩) (by simp)
  obtain ⟨g1, g2⟩ := exs_ok st.grp [] (qY.1 h5) hst.qr.gg (by simp)
  have il := hst.qr.il; have gl := hst.qr.gl
  rw [qQ, Nat.zero_add] at f1 f2 i2 g2
  refine ⟨⟨⟨hst.ch.vl, hst.ch.vg, hst.ch.sl, hst.ch.sg, w1⟩, ⟨by show (itsB _ _ _).1.length ≤ _; rw [i2]; exact il, fun x hx => (i1 x hx).1, w1, by show (exsB _ _ _).1.length ≤ _; rw [g2]; exact gl, g1, hst.qr.ol, hst.qr.fl⟩⟩, ?_, ?_, ⟨qZ _, fun r hr => by simp at hr⟩, hr.vl, hr.sr, fun x hx => (i1 x hx).2, w2, fun e he => (g1 e he).rg⟩
  · show (frB _ _ _ _ _).2.1.length ≤ _; rw [f1]; omega
  · have h3' : st.frm.length * 1000000 ≤ 3 * 1000000 := Nat.mul_le_mul_right _ (by omega)
    show (frB _ _ _ _ _).2.2.1.length ≤ _; omega
theorem bin_ok {d : List Tb} {st : St} (hd : okDb d) (hst : okSt st) (hr : okRg st) (h : (binP d st).2 = 0) : okBd (binP d st).1 := by
  by_cases h1 : st.k = 1
  · rw [bin_1 h1] at h; cases h
  by_cases h2 : st.k = 2 ∨ st.k = 3 ∨ st.k = 4
  · rw [bin_c h2] at h ⊢; exact chg_ok hd hst hr h2 h
  by_cases h3 : st.k = 5
  · rw [bin_q h3] at h ⊢; exact qry_ok hd hst hr h
  rw [bin_0 h1 h2 h3]
  exact ⟨hst, by simp, by simp, ⟨by simp, fun r hr => by simp at hr⟩, hr.vl, hr.sr, hr.ir, hr.wr, hr.gr⟩
open Q
structure okSa (st : St) : Prop where
  cr : okDn st.cr
  cc : ∀ e ∈ st.cr.chks, rgX e
  vl : st.vals.length ≤ 1000000000000
  vo : ∀ u ∈ st.vals, u.length ≤ 1000000000000 ∧ ∀ e ∈ u, rgX e
  sl : st.sets.length ≤ 1000000000000
  so : ∀ a ∈ st.sets, rgX a.ex
  il : st.its.length ≤ 1000000000000
  io : ∀ x ∈ st.its, rgX x.ex
  fl : st.frm.length ≤ 1000000000000
  wo : rgX st.wh
  gl : st.grp.length ≤ 1000000000000
  go : ∀ e ∈ st.grp, rgX e
  ol : st.ord.length ≤ 1000000000000
open Q
theorem ar_of {n : Int} {k : Nat} (h : opsN n = (k : Int)) : arN n k ∧ n ≠ 0 := by
  unfold opsN at h
  split at h
  · omega
  · split at h
    · omega
    · split at h
      · omega
      · omega
theorem nd_of {l : List Ex} (h : ∀ a ∈ l, szE a = ndE a ∧ dpE a = depN a) : szS l = ndS l ∧ dpS l = depNs l := by
  induction l with
  | nil => exact ⟨rfl, rfl⟩
  | cons a r ih =>
    obtain ⟨h1, h2⟩ := h a (by simp)
    obtain ⟨h3, h4⟩ := ih fun b hb => h b (by simp [hb])
    rw [szS, ndS, dpS, depNs, h1, h2, h3, h4]; exact ⟨rfl, rfl⟩
theorem fm_all (e : Ex) : fmB e = true → fmE e ∧ szE e = ndE e ∧ dpE e = depN e := by
  induction e using Ex.rec' with
  | h e ih =>
    intro h
    have h0 := h
    rw [fmB_eq] at h
    obtain ⟨h1, h2⟩ := Bool.and_eq_true_iff.1 h
    obtain ⟨a1, a2⟩ := ar_of (jJ h1)
    have k := fun a ha => ih a ha (fm_arg h0 ha)
    obtain ⟨n1, n2⟩ := nd_of fun a ha => (k a ha).2
    refine ⟨(fmE_iff e).2 ⟨a1, fun a ha => (k a ha).1⟩, ?_, ?_⟩
    · rw [szE_eq, ndE_eq, n1, if_pos a2]
    · rw [dpE_eq, depN_eq, n2, if_pos a2]; omega
theorem ts_wt (e : Ex) : wtE e ≤ 4000000 → tsE e := by
  induction e using Ex.rec' with
  | h e ih =>
    intro h
    have := wtE_eq e
    exact (tsE_iff e).2 ⟨by omega, fun a ha => ih a ha (by have := wt_mem ha; omega)⟩
theorem gd_fm {e : Ex} (h : fmB e = true) (hr : rgX e) (hw : wtE e ≤ 4000000) (hn : ndE e ≤ 400) (hd : depN e ≤ 50) : gdX e := by
  obtain ⟨h1, h2, h3⟩ := fm_all e h
  exact ⟨h1, ts_wt e hw, hr, by omega, by omega⟩
theorem st_gd {i : Nat} {s : List Tb} {d : Df} (h : Q.stE i s d = 0) : gdP d := by
  unfold Q.stE at h
  split at h
  · cases h
  · split at h
    · cases h
    · split at h
      · cases h
      · rename_i k; exact qY.1 k
theorem bld_gd : ∀ (l : List Df) (i : Nat) (s : List Tb), (bld l i s).2.2 = 0 → ∀ d ∈ l, gdP d
  | [], _, _, _, d, hd => by cases hd
  | x :: r, i, s, h, d, hd => by
    rw [bld] at h
    by_cases h1 : Q.stE i s x ≠ 0
    · rw [if_pos h1] at h; exact absurd h h1
    rw [if_neg h1] at h
    by_cases h2 : (tbX s x).2 ≠ 0
    · rw [if_pos h2] at h; exact absurd h h2
    rw [if_neg h2] at h
    rcases jD.1 hd with rfl | hd
    · exact st_gd (qY.1 h1)
    · exact bld_gd r _ _ h d hd
theorem okDb_of {d : List Tb} (h1 : ssP d) (h2 : vldS d) : okDb d := by
  refine ⟨by have := h1.2; omega, fun t ht => ⟨?_, fun x hx => ?_⟩⟩
  · obtain ⟨j, hj, rfl⟩ := qN.1 ht
    have := (h1.1 j hj).1.2.2.1 0 (by simp)
    have := this.1.2.1
    show d[j].cols.length ≤ 1000000
    have e : ([⟨0, d[j].nm, d[j].cols, [], [], d[j].chks⟩] : List Df)[0].cols = d[j].cols := rfl
    rw [e] at this; omega
  · have k := bld_gd _ _ _ h2.2 (dfOf d t) (jE.2 ⟨t, ht, rfl⟩)
    obtain ⟨j, hj, rfl⟩ := qN.1 hx
    have := (k.2.1 j hj).2
    rcases this with h | h
    · exact .inl h.1
    · exact .inr h.1
structure okLw (d : List Tb) (st : St) : Prop where
  dl : d.length ≤ 1048576
  dk : ∀ t ∈ d, Q.okT t
  oi : okIn st
  xr : ∀ e ∈ allX st, rgX e
section
variable {d : List Tb} {st : St}
theorem okRg_of (h : okLw d st) (hs : smQ st) : okRg st := by
  have L := ax_len (st := st)
  have la := hs.ax
  exact ⟨fun u hu => ⟨by have := fl_len hu; omega, fun e he => h.xr e (ax_v hu he)⟩, fun a ha => h.xr _ (ax_s ha), fun x hx => h.xr _ (ax_i hx), h.xr _ ax_w, fun e he => h.xr e (ax_g he)⟩
theorem okSt_of (h : okLw d st) (hs : smQ st) (hv : vaP st) : okSt st := by
  have L := ax_len (st := st)
  have la := hs.ax
  have hg : ∀ e ∈ allX st, fmB e = true → gdX e := fun e he hf => gd_fm hf (h.xr e he) (h.oi.sm.hw e he) (jB (smL_mem (f := ndE) he) hv.nd) (hv.dp e he)
  have wg : ¬ st.wh.op = 0 → gdX st.wh := fun k => hg _ ax_w (hv.fm.wh k)
  refine ⟨⟨by have := hs.vl; omega, fun u hu e he => ?_, by omega, fun a ha => ?_, wg⟩, ⟨by omega, fun x hx hx1 => ?_, wg, by omega, fun e he => ?_, by have := hs.ol; omega, by have := hs.fl; omega⟩⟩
  · have k2 : st.k = 2 := Classical.byContradiction fun k => by
      have := hv.fm.a1.2.1 k
      rw [List.length_eq_zero_iff.1 this] at hu; cases hu
    refine hg e (ax_v hu he) ?_
    obtain ⟨j, hj, rfl⟩ := qN.1 hu
    obtain ⟨i, hi, rfl⟩ := qN.1 he
    exact ((hv.fm.c2 k2).1 j hj).1 i hi
  · have k3 : st.k = 3 := Classical.byContradiction fun k => by
      have := hv.fm.a1.2.2 k
      rw [List.length_eq_zero_iff.1 this] at ha; cases ha
    refine hg _ (ax_s ha) ?_
    obtain ⟨j, hj, rfl⟩ := qN.1 ha
    exact ((hv.fm.c3 k3).1 j hj).2
  · have k5 : st.k = 5 := Classical.byContradiction fun k => by
      have := hv.fm.a2 k
      have e0 : st.its.length = 0 := by omega
      rw [List.length_eq_zero_iff.1 e0] at hx; cases hx
    refine hg _ (ax_i hx) ?_
    obtain ⟨j, hj, rfl⟩ := qN.1 hx
    exact ((hv.fm.c5 k5).io j hj).ex hx1
  · have k5 : st.k = 5 := Classical.byContradiction fun k => by
      have := hv.fm.a2 k
      have e0 : st.grp.length = 0 := by omega
      rw [List.length_eq_zero_iff.1 e0] at he; cases he
    refine hg _ (ax_g he) ?_
    obtain ⟨j, hj, rfl⟩ := qN.1 he
    exact ((hv.fm.c5 k5).go j hj).2
end
end Go.Proofs.YtgnnjebfoffphaaGreatDoor.W
