import Derived.Test.YtgnnjebfoffphaaGreatDoorM26
set_option maxRecDepth 20000
set_option maxHeartbeats 16000000
set_option linter.unusedSectionVars false
set_option linter.unusedSimpArgs false
set_option linter.unusedVariables false
namespace Go.Proofs.YtgnnjebfoffphaaGreatDoor.W
open Fx
open Go.RowKit E M
open Q
theorem hd_e {d : List Tb} {b : Bd} {fx : Ex → ByteArray} {P : List ByteArray} (h : ¬ b.st.k ≠ 5) (hP : P = if b.st.its.length = 0 then b.tabs.flatMap (nmC d) else []) : P ++ (b.st.its.map fun x => ttB x (fx x.ex)) = hdB d b fx := by
  subst hP
  by_cases h2 : b.st.its.length = 0
  · rw [if_pos h2, ← hd_1 h h2, jH.1 h2, List.map_nil, List.append_nil]
  · rw [if_neg h2, ← hd_2 h h2, List.nil_append]
theorem hd_p {d : List Tb} {b : Bd} {i : Nat} (hi0 : i ≤ b.tabs.length) (hi2 : i = 0 ∨ b.st.its.length = 0) (h : ¬ (i < b.tabs.length ∧ b.st.its.length = 0)) : (b.tabs.take i).flatMap (nmC d) = if b.st.its.length = 0 then b.tabs.flatMap (nmC d) else [] := by
  by_cases h2 : b.st.its.length = 0
  · rw [if_pos h2, qU (by omega)]
  · rw [if_neg h2]
    rcases hi2 with rfl | h3
    · simp
    · exact absurd h3 h2
theorem rheader_any (d : List Tb) (z : Nz) (b : Bd) (fx : Ex → ByteArray) (hd : okDb d) (ht : ∀ n ∈ b.tabs, 0 ≤ n ∧ n.toNat < d.length) (htl : b.tabs.length ≤ 1000) (hil : b.st.its.length ≤ 1000000) (hag : ∀ x ∈ b.st.its, 0 ≤ x.ag ∧ x.ag ≤ 5) (hf : ∀ x ∈ b.st.its, x.ag ≠ 1 → (fx x.ex).size ≤ 10000000 ∧ ∃ e, Pu 27 [exC x.ex] (.tup [sC (fx x.ex), iC e])) : Pu 10 [scC z d, bdC b] (.c (hdC .un (hdB d b fx))) := by
 intro H
 refine Spec.enter Tryz.func10 rfl ?_
 refine AW.wk (wK 113 (l := [(0, .c (scC z d)), (1, .c (bdC b))]) (ll := []) (H := (H))) ?_
 refine eL225 ?_
 refine eL155 ?_
 refine cD ?_ ?_ <;> intro h15
 ·
  exact cL126
 refine eL232 ?_
 refine AW.block (AW.tip 5 9 1 rfl (fun k0 hk0 => ?_))
 refine AW.loop (fun (i : Nat) s => ∃ (kt : Nat) (zs : List (List E.T)), (i ≤ b.tabs.length ∧ (i = 0 ∨ b.st.its.length = 0) ∧ H kt = none ∧ zs = ((b.tabs.take i).flatMap (nmC d)).map txT ∧ zs.length ≤ i * 1000000) ∧ s = ⟨113, sp [(0, .c (scC z d)), (3, .lp 3 0), (4, .c (.a nA)), (5, .c (.a (.ts kt .ne 1 zs))), (6, nX i)], lv [(3, .box (zBd b))], upd H kt (some (.tip 9 1 zs.length))⟩) (fun i => b.tabs.length - i) 0 ⟨_, by exact wK 113, k0, [], ⟨qZ _, .inl rfl, hk0, rfl, qZ _⟩, rfl⟩ (fun i s hs => ?_)
 obtain ⟨kt, zs, ⟨hi0, hi2, hkt, hzs, hzl⟩, rfl⟩ := hs
 refine AW.seq (D5 ?_)
 refine Z22 ?_ ?_ <;> intro g21
 rotate_left
 ·
  iterate 5 refine oF ?_
  refine eL172 ?_
  refine eL147 ?_
  refine eL161 ?_
  refine AW.block ?_
  obtain ⟨P, hP, hPz⟩ : ∃ P, P = (if b.st.its.length = 0 then b.tabs.flatMap (nmC d) else []) ∧ (b.tabs.take i).flatMap (nmC d) = P := ⟨_, rfl, hd_p hi0 hi2 (by (try simp only [qA] at *); omega)⟩
  refine AW.loop (fun (i : Nat) s => ∃ (kt : Nat) (zs : List (List E.T)), (i ≤ b.st.its.length ∧ H kt = none ∧ zs = (P ++ (b.st.its.take i).map fun x => ttB x (fx x.ex)).map txT ∧ zs.length ≤ 2000000000 + i) ∧ s = ⟨113, sp [(3, .lp 3 0), (4, .c (.a nA)), (5, .c (.a (.ts kt .ne 1 zs))), (9, nX i)], lv [(3, .box (zBd b))], upd H kt (some (.tip 9 1 zs.length))⟩) (fun i => b.st.its.length - i) 0 ⟨_, by exact wK 113, kt, zs, ⟨qZ _, hkt, by rw [hzs, hPz]; simp, by omega⟩, rfl⟩ (fun i s hs => ?_)
  obtain ⟨kt, zs, ⟨hi0, hkt, hzs, hzl⟩, rfl⟩ := hs
  refine AW.seq (D6 ?_)
  refine Z3 ?_
  refine cD ?_ ?_ <;> intro h59
  rotate_left
  ·
   exact cL67
  have hi := oI h59
  have hax := hag _ (qC hi)
  refine eL283 ?_
  refine eL195 ?_
  refine G3 ?_
  refine Z3 (sR (sB ?_))
  refine AW.seqM (fun s => ∃ tx : ByteArray, (b.st.its[i].ag ≠ 1 → tx = fx b.st.its[i].ex) ∧ (tx.size ≤ 10000000) ∧ s = ⟨113, sp [(3, .lp 3 0), (4, .c (.a nA)), (5, .c (.a (.ts kt .ne 1 zs))), (9, nX i), (10, .lp 10 0), (11, .c (sC tx))], lv [(3, .box (zBd b)), (10, .box (zIt (b.st.its[i])))], (upd H kt (some (.tip 9 1 zs.length)))⟩) ?_ ?_
  ·
   refine eL229 ?_
   refine cD ?_ ?_ <;> intro h70
   ·
    refine eL288 ?_
    exact cL37
   refine eL257 ?_
   exact cL37
  rintro s ⟨tx, hse, hsz, rfl⟩
  refine AW.seqM (fun s => s = ⟨113, sp [(3, .lp 3 0), (4, .c (.a nA)), (5, .c (.a (.ts kt .ne 1 zs))), (9, nX i), (11, .c (sC (ttB b.st.its[i] (fx b.st.its[i].ex))))], lv [(3, .box (zBd b))], (upd H kt (some (.tip 9 1 zs.length)))⟩) ?_ ?_
  ·
   refine D2 ?_
   refine eL160 ?_
   refine cD ?_ ?_ <;> intro h82
   ·
    refine D4 ?_
    refine Z3 ?_
    refine cD ?_ ?_ <;> intro h87
    ·
     refine B4 ?_
     exact cL0
    refine eL257 ?_
    exact cL0
   refine D2 ?_
   refine cD ?_ ?_ <;> intro h91
   ·
    refine B1 ?_
    exact cL0
   refine D2 ?_
   refine cD ?_ ?_ <;> intro h93
   ·
    refine eL178 ?_
    exact cL0
   refine D2 ?_
   refine cD ?_ ?_ <;> intro h98
   ·
    refine eL180 ?_
    exact cL0
   refine D2 ?_
   refine cD ?_ ?_ <;> intro h103
   ·
    refine eL181 ?_
    exact cL0
   refine eL182 ?_
   exact cL0
  rintro s rfl
  exact cL68
 have hi : i < b.tabs.length := by (try rw [qA] at *); omega
 obtain ⟨hn0, hnt⟩ := ht _ (qC hi)
 have hga : (tbA d b.tabs[i]) = d[b.tabs[i].toNat] := getD_at hnt
 have hok := hd.tb _ (qC hnt)
 rw [← hga] at hok
 have hcl := hok.cl
 have hidx : (d.map tbT)[b.tabs[i].toNat]? = some (tbT (tbA d b.tabs[i])) := by rw [qR, qF hnt, ← hga]; rfl
 refine G6 ?_
 refine Z3 ?_
 refine cD ?_ ?_ <;> intro h27
 ·
  refine eL283 ?_
  refine Z10 sl43 (idx_map (f := i64T) hi) ?_
  refine G1 ?_
  refine Z10 sl23 (hidx) ?_
  refine G3 ?_
  refine Z3 (sR (sB ?_))
  refine AW.block (AW.loop (fun (j : Nat) s => ∃ (ku : Nat) (ys : List (List E.T)), (j ≤ (tbA d b.tabs[i]).cols.length ∧ H ku = none ∧ ys = zs ++ (((tbA d b.tabs[i]).cols.take j).map fun x => x.nm).map txT ∧ ys.length = zs.length + j) ∧ s = ⟨113, sp [(0, .c (scC z d)), (3, .lp 3 0), (4, .c (.a nA)), (5, .c (.a (.ts ku .ne 1 ys))), (6, nX i), (7, .lp 7 0), (8, nX j)], lv [(3, .box (zBd b)), (7, .box (zTb (tbA d b.tabs[i])))], upd H ku (some (.tip 9 1 ys.length))⟩) (fun j => (tbA d b.tabs[i]).cols.length - j) 0 ⟨_, Wk.keep 113 [(0, .c (scC z d)), (3, .lp 3 0), (4, .c (.a nA)), (5, .c (.a (.ts (kt) .ne 1 (zs)))), (6, nX i), (7, .lp 7 0), (8, iX .i64 ((((0 : Nat)) : Nat) : Int))] [(3, .box (zBd b)), (7, .box (zTb (tbA d b.tabs[i])))] (upd H (kt) (some (.tip 9 1 (zs).length))) rfl ⟨rfl, rfl, rfl, rfl, rfl, rfl, rfl, trivial⟩ ⟨rfl, rfl, trivial⟩ (fun _ _ h => h) rfl, kt, zs, ⟨qZ _, hkt, by simp, rfl⟩, rfl⟩ (fun j s hs => ?_))
  obtain ⟨ku, ys, ⟨hj0, hku, hys, hyl⟩, rfl⟩ := hs
  refine eL150 ?_
  refine cD ?_ ?_ <;> intro h42
  ·
   have hj := oI h42
   refine eL184 ?_
   refine Z10 sl24 (idx_map (f := coT) hj) ?_
   refine G3 ?_
   refine SeqK.app1 rfl (hku) rfl el51 rfl rfl (by simp [hyl]; omega) rfl rfl (fun k53 hk53 => ?_)
   refine eL166 ?_
   exact ⟨j + 1, _, by exact wK 113, by omega, k53, ys ++ [txT (tbA d b.tabs[i]).cols[j].nm], ⟨hj, hk53, by rw [hys, map_take2 hj, qK, qO]; rfl, by simp [hyl]; omega⟩, rfl⟩
  refine eL147 ?_
  refine B3 ?_
  obtain rfl : j = (tbA d b.tabs[i]).cols.length := by (try rw [qA] at h42); omega
  rw [qT] at hys
  exact ⟨i + 1, _, by exact wK 113, by omega, ku, ys, ⟨hi, .inr (by (try rw [qA] at *); omega), hku, by rw [hys, hzs, flat_take2 hi, qK], by rw [hyl]; omega⟩, rfl⟩
 refine eL147 ?_
 refine eL161 ?_
 refine AW.block ?_
 obtain ⟨P, hP, hPz⟩ : ∃ P, P = (if b.st.its.length = 0 then b.tabs.flatMap (nmC d) else []) ∧ (b.tabs.take i).flatMap (nmC d) = P := ⟨_, rfl, hd_p hi0 hi2 (by (try simp only [qA] at *); omega)⟩
 refine AW.loop (fun (i : Nat) s => ∃ (kt : Nat) (zs : List (List E.T)), (i ≤ b.st.its.length ∧ H kt = none ∧ zs = (P ++ (b.st.its.take i).map fun x => ttB x (fx x.ex)).map txT ∧ zs.length ≤ 2000000000 + i) ∧ s = ⟨113, sp [(3, .lp 3 0), (4, .c (.a nA)), (5, .c (.a (.ts kt .ne 1 zs))), (9, nX i)], lv [(3, .box (zBd b))], upd H kt (some (.tip 9 1 zs.length))⟩) (fun i => b.st.its.length - i) 0 ⟨_, by exact wK 113, kt, zs, ⟨qZ _, hkt, by rw [hzs, hPz]; simp, by omega⟩, rfl⟩ (fun i s hs => ?_)
 obtain ⟨kt, zs, ⟨hi0, hkt, hzs, hzl⟩, rfl⟩ := hs
 refine AW.seq (D6 ?_)
 refine Z3 ?_
 refine cD ?_ ?_ <;> intro h59
 rotate_left
 ·
  exact cL67
 have hi := oI h59
 have hax := hag _ (qC hi)
 refine eL283 ?_
 refine eL195 ?_
 refine G3 ?_
 refine Z3 (sR (sB ?_))
 refine AW.seqM (fun s => ∃ tx : ByteArray, (b.st.its[i].ag ≠ 1 → tx = fx b.st.its[i].ex) ∧ (tx.size ≤ 10000000) ∧ s = ⟨113, sp [(3, .lp 3 0), (4, .c (.a nA)), (5, .c (.a (.ts kt .ne 1 zs))), (9, nX i), (10, .lp 10 0), (11, .c (sC tx))], lv [(3, .box (zBd b)), (10, .box (zIt (b.st.its[i])))], (upd H kt (some (.tip 9 1 zs.length)))⟩) ?_ ?_
 ·
  refine eL229 ?_
  refine cD ?_ ?_ <;> intro h70
  ·
   refine eL288 ?_
   exact cL37
  refine eL257 ?_
  exact cL37
 rintro s ⟨tx, hse, hsz, rfl⟩
 refine AW.seqM (fun s => s = ⟨113, sp [(3, .lp 3 0), (4, .c (.a nA)), (5, .c (.a (.ts kt .ne 1 zs))), (9, nX i), (11, .c (sC (ttB b.st.its[i] (fx b.st.its[i].ex))))], lv [(3, .box (zBd b))], (upd H kt (some (.tip 9 1 zs.length)))⟩) ?_ ?_
 ·
  refine D2 ?_
  refine eL160 ?_
  refine cD ?_ ?_ <;> intro h82
  ·
   refine D4 ?_
   refine Z3 ?_
   refine cD ?_ ?_ <;> intro h87
   ·
    refine B4 ?_
    exact cL0
   refine eL257 ?_
   exact cL0
  refine D2 ?_
  refine cD ?_ ?_ <;> intro h91
  ·
   refine B1 ?_
   exact cL0
  refine D2 ?_
  refine cD ?_ ?_ <;> intro h93
  ·
   refine eL178 ?_
   exact cL0
  refine D2 ?_
  refine cD ?_ ?_ <;> intro h98
  ·
   refine eL180 ?_
   exact cL0
  refine D2 ?_
  refine cD ?_ ?_ <;> intro h103
  ·
   refine eL181 ?_
   exact cL0
  refine eL182 ?_
  exact cL0
 rintro s rfl
 exact cL68
open Q
theorem arithA (e : Ex) (ks : List Int) (hfa : ∀ a ∈ e.args, fmE a) (hkl : ks.length ≤ 1000000000) (hA : allI ks 1 = true → e.op = 6 ∧ e.args.length = 2 ∧ ∀ a ∈ e.args, cnB icB a = true) : Pu 124 [exC e, iL .un ks] (.c (iC (arI e ks))) := by
 intro H
 refine Spec.enter Tryz.func124 rfl ?_
 refine AW.wk (wK 64 (l := [(0, .c (exC e)), (1, .c (iL .un ks))]) (ll := []) (H := (H))) ?_
 refine D2 ?_
 refine eL161 ?_
 refine Z16 fn126 (all_any ks .un _ hkl) ?_
 refine eL185 ?_
 refine AW.cond _ rfl (fun h11 => ?_) (fun h11 => ?_)
 ·
  refine D1 ?_
  exact aR (fE (e := iCe2 (by rw [arI, if_pos (by simpa using h11)])))
 have hal : allI ks 1 = true := bnf h11
 obtain ⟨h6, hl2, hc⟩ := hA hal
 have h01 : 0 < e.args.length := by omega
 have h12 : 1 < e.args.length := by omega
 have hc0 := hc _ (qC h01)
 have hc1 := hc _ (qC h12)
 refine eL198 ?_
 refine eL160 ?_
 refine cD ?_ ?_ <;> intro h14
 rotate_left
 ·
  exact absurd h6 h14
 refine D2 ?_
 refine Z10 sl27 (idx_ex h01) ?_
 refine G1 ?_
 refine SeqK.r (g_call rfl fn156 rfl (Spec.arg (l := [exC e.args[0]]) (r := []) XW.fn0 (contains_any fn60 isColumn_any _ (hfa _ (qC h01)) _)) rfl rfl rfl) rfl ?_
 refine Z49 ?_ ?_ <;> intro g21
 ·
  refine G2 ?_
  refine Z47 sl27 (idx_ex h12) ?_
  refine G1 ?_
  refine SeqK.rOn (g_call rfl fn156 rfl (Spec.arg (l := [exC e.args[1]]) (r := []) XW.fn0 (contains_any fn60 isColumn_any _ (hfa _ (qC h12)) _)) rfl rfl rfl) rfl rfl rfl ?_
  refine Z8 ?_
  refine Z3 ?_
  refine AW.cond _ rfl (fun h27 => ?_) (fun h27 => ?_)
  ·
   refine D1 ?_
   exact aR (fE (e := iCe2 (by rw [arI, if_neg (okN1 (e := e) hal), if_pos ⟨h6, by rw [getD_at h01]; exact hc0, by rw [getD_at h12]; exact hc1⟩])))
  rw [hc1] at h27; cases h27
 rw [hc0] at g21; cases g21
theorem operA (sc : Sp) (e : Ex) (ks : List Int) (h46 : e.op = 4 ∨ e.op = 6) (ha : Pu 124 [exC e, iL .un ks] (.c (iC (arI e ks)))) : Pu 80 [spC sc, exC e, iL .un ks] (i2X (opI e ks)) := by
 intro H
 refine Spec.enter Tryz.func80 rfl ?_
 refine AW.wk (wK 103 (l := [(0, .c (spC sc)), (1, .c (exC e)), (2, .c (iL .un ks))]) (ll := []) (H := (H))) ?_
 refine D4 ?_
 refine eL205 ?_
 refine eL273 ?_
 refine cD ?_ ?_ <;> intro h12
 ·
  exfalso; omega
 refine D2 ?_
 refine cD ?_ ?_ <;> intro h12
 ·
  exact cL88
 refine D2 ?_
 refine cD ?_ ?_ <;> intro h12
 ·
  exfalso; omega
 refine D2 ?_
 refine cD ?_ ?_ <;> intro h12
 ·
  exact cL88
 exfalso; omega
theorem binderQ (d : List Tb) (z : Nz) (st : St) (hd : okDb d) (hk : st.k = 5) (hst : okQb d st) : Pu 11 [scC z d, stC st] (bdX (binP d st).1 (binP d st).2) := by
 intro H
 refine Spec.enter Tryz.func11 rfl ?_
 refine AW.wk (wK 37 (l := [(0, .c (scC z d)), (1, .c (stC st))]) (ll := []) (H := (H))) ?_
 refine D3 ?_
 refine D1 ?_
 refine Z3 (sR (sB ?_))
 refine eL205 ?_
 refine eL160 ?_
 refine cD ?_ ?_ <;> intro h12
 ·
  exfalso; omega
 refine eL205 ?_
 refine cD ?_ ?_ <;> intro h14
 ·
  exfalso; omega
 refine D2 ?_
 refine cD ?_ ?_ <;> intro h14
 ·
  exfalso; omega
 refine B2 ?_
 refine cD ?_ ?_ <;> intro h14
 ·
  exfalso; omega
 refine D2 ?_
 refine cD ?_ ?_ <;> intro h24
 rotate_left
 ·
  exfalso; omega
 refine B2 ?_
 refine SeqK.callE rfl rfl rfl rfl fn29 rfl (query_any d z st hd hst _) (fun _ _ h => by obtain ⟨_, h, _⟩ := h; rw [h]; rfl) (fun x29 H29 q29 => ?_)
 obtain ⟨b, rfl, hb, e29⟩ := q29
 replace e29 := e29.symm
 subst e29
 refine G5 ?_
 refine eL153 ?_
 refine cD ?_ ?_ <;> intro h33
 ·
  refine D1 ?_
  refine SeqK.xw 34 rfl (XW.g (xr2 (.cons (XW.nilU (sz := 6)) (.cons (XW.nilU (sz := 1)) (.cons (XW.nilU (sz := 3)) (.cons (XW.nilU (sz := 8)) (.cons (XW.nilU (sz := 1)) (.cons (XW.nilU (sz := 10)) (.cons (XW.nilU (sz := 9)) (.cons (XW.nilU (sz := 2)) (xr4 (xr2 (xr1 (.cons (XW.nilU (sz := 8)) (.cons (XW.nilU (sz := 8)) (.cons (XW.nilU (sz := 2)) (xr2 (xr1 (.cons (XW.nilU (sz := 1)) (.cons (XW.nilU (sz := 5)) (.cons (XW.nilU (sz := 1)) .nil))))))))))))))))))))) ?_
  refine G3 ?_
  exact aR (f2 (.cellL rfl rfl ty47 rfl rfl (.tmp rfl .nil)) (⟨bdXe (b := bd0) (e := (qryB d st).2) (by rw [bin_qe hk h33]) (by rw [bin_qe hk h33]), rfl⟩))
 refine eL219 ?_
 exact aR (f2 (.cellL rfl rfl ty47 rfl rfl (.tmp rfl .nil)) (⟨bdXe (b := b) (e := 0) (by rw [bin_q hk]; exact hb (qY.1 h33)) (by rw [bin_q hk]; exact (qY.1 h33).symm), rfl⟩))
theorem fm_lf {e : Ex} (h : e.op = 1 ∨ e.op = 2) (h0 : e.args.length = 0) : fmE e := (fmE_iff e).2 ⟨by omega, fun a ha => by rw [jH.1 h0] at ha; cases ha⟩
theorem bd_lf {sc : Sp} (e : Ex) (h : e.op = 1 ∨ e.op = 2) (h0 : e.args.length = 0) (ht : tsE e) : bdP sc e := fun hs =>
  bind_of sc e hs (fm_lf h h0) ht (fun a ha => by rw [jH.1 h0] at ha; cases ha) fun _ h1 h2 => absurd h (by rintro (k | k); exact h1 k; exact h2 k)
theorem ts_lf {e : Ex} (h : e.vs.size = 0) (h0 : e.args.length = 0) : tsE e := (tsE_iff e).2 ⟨by omega, fun a ha => by rw [jH.1 h0] at ha; cases ha⟩
theorem bd_op {sc : Sp} (n : Int) (a b : Ex) (hn : n = 4 ∨ n = 6) (ha : (a.op = 1 ∨ a.op = 2) ∧ a.args.length = 0 ∧ a.vs.size = 0) (hb : (b.op = 1 ∨ b.op = 2) ∧ b.args.length = 0 ∧ b.vs.size = 0)
    (hA : allI [(bndE sc a).2.1, (bndE sc b).2.1] 1 = true → n = 6 ∧ ∀ x ∈ [(bndE sc a).1, (bndE sc b).1], cnB icB x = true) : bdP sc (opE n [a, b]) := fun hs => by
  have fa := fm_lf ha.1 ha.2.1
  have fb := fm_lf hb.1 hb.2.1
  have ta := ts_lf ha.2.2 ha.2.1
  have tb := ts_lf hb.2.2 hb.2.1
  refine bind_of sc (opE n [a, b]) hs ((fmE_iff _).2 ⟨by show arN n 2; omega, fun x hx => ?_⟩) ((tsE_iff _).2 ⟨qZ _, fun x hx => ?_⟩) (fun x hx => ?_) fun h0 _ _ => operA sc _ _ hn (arithA _ _ (fun x hx => ?_) (Nat.le_of_ble_eq_true rfl) fun h => ⟨(hA h).1, rfl, (hA h).2⟩)
  · rcases jD.1 hx with rfl | hx
    · exact fa
    · rw [jF.1 hx]; exact fb
  · rcases jD.1 hx with rfl | hx
    · exact ta
    · rw [jF.1 hx]; exact tb
  · rcases jD.1 hx with rfl | hx
    · exact bd_lf _ ha.1 ha.2.1 ta hs
    · rw [jF.1 hx]; exact bd_lf _ hb.1 hb.2.1 tb hs
  · rcases jD.1 hx with rfl | hx
    · exact bnd_fm a fa (h0 a (by simp))
    · rw [jF.1 hx]; exact bnd_fm b fb (h0 b (by simp))
theorem bd_col {sc : Sp} (nm : ByteArray) : bdP sc (colE nm) := bd_lf _ (.inr rfl) rfl (ts_lf rfl rfl)
theorem okB {d : List Tb} {its : List It} {frm : List Fr} {grp : List Ex} (h1 : its.length ≤ 1000) (h2 : ∀ x ∈ its, x.ag ≠ 1 → bdP ⟨(frB d frm [] [] []).1, [], false⟩ x.ex) (h3 : grp.length ≤ 1000) (h4 : ∀ e ∈ grp, bdP ⟨(frB d frm [] [] []).1, [], false⟩ e) (h5 : frm.length ≤ 1000) : okQb d (stE its frm grp) :=
  ⟨by show its.length ≤ _; omega, by show grp.length ≤ _; omega, qZ _, by show frm.length ≤ _; omega, ⟨h2, fun h => absurd rfl h, h4⟩⟩
theorem it2 {P : Ex → Prop} {e : Ex} (h : P e) : ∀ x ∈ [(⟨0, e⟩ : It), ⟨1, ex0⟩], x.ag ≠ 1 → P x.ex := fun x hx k => by
  rcases jD.1 hx with rfl | hx
  · exact h
  · rw [jF.1 hx] at k; exact absurd rfl k
theorem it1 {P : Ex → Prop} {e : Ex} (h : P e) : ∀ x ∈ [(⟨0, e⟩ : It)], x.ag ≠ 1 → P x.ex := fun x hx _ => by rw [jF.1 hx]; exact h
theorem k4_t : allI [(bndE ⟨(frB exD [frT1] [] [] []).1, [], false⟩ cB).2.1, (bndE ⟨(frB exD [frT1] [] [] []).1, [], false⟩ one1).2.1] 1 = false := by decide +kernel
theorem k6_t : ∀ x ∈ [(bndE ⟨(frB exD [frT1] [] [] []).1, [], false⟩ cA).1, (bndE ⟨(frB exD [frT1] [] [] []).1, [], false⟩ cA).1], cnB icB x = true := by decide +kernel
theorem awake_h : Pu 6 [] (.c (bC true)) :=
  awake_of
    (binderQ _ _ _ okExD rfl (okB (by decide) (it2 (P := bdP _) (bd_col _)) (by decide) (fun e he => by rw [jF.1 he]; exact bd_col _) (by decide)))
    (binderQ _ _ _ okExD rfl (okB (by decide) (it1 (P := bdP _) (bd_op 4 cB one1 (.inl rfl) ⟨.inr rfl, rfl, rfl⟩ ⟨.inl rfl, rfl, rfl⟩ fun h => by rw [k4_t] at h; cases h)) (by decide) (fun e he => by cases he) (by decide)))
    (binderQ _ _ _ okExD rfl (okB (by decide) (it1 (P := bdP _) (bd_op 6 cA cA (.inr rfl) ⟨.inr rfl, rfl, rfl⟩ ⟨.inr rfl, rfl, rfl⟩ fun _ => ⟨rfl, k6_t⟩)) (by decide) (fun e he => by cases he) (by decide)))
    (binderQ _ _ _ okExD rfl (okB (by decide) (it1 (P := bdP _) (bd_col _)) (by decide) (fun e he => by cases he) (by decide)))
    (binderQ _ _ _ okExD rfl (okB (by decide) (it2 (P := bdP _) (bd_col _)) (by decide) (fun e he => by cases he) (by decide)))
    (check_any (tbA exD 0) cB (by decide) (bd_col _))
open Q
theorem fx_sz {e : Ex} (h : ghE e) : (fxT e).size ≤ 10000000 := by
  unfold fxT
  split
  · rename_i k
    have := prL_size (l := 1) (vd_0 k) h.2
    omega
  · exact qZ _
theorem itH_of {d : List Tb} {st : St} (ok : okLw d st) (hv : vaP st) : ∀ x ∈ st.its, itH x := fun x hx => by
  have k5 : st.k = 5 := Classical.byContradiction fun k => by
    have := hv.fm.a2 k
    have e0 : st.its.length = 0 := by omega
    rw [jH.1 e0] at hx; cases hx
  have hi : itQ x := by
    obtain ⟨j, hj, rfl⟩ := qN.1 hx
    exact (hv.fm.c5 k5).io j hj
  exact ⟨⟨ok.oi.fm.io x hx, jB (smL_mem (f := ndE) (ax_i hx)) hv.nd⟩, hi.lo, hi.hi⟩
theorem fm_len {α β : Type} {f : α → List β} {M : Nat} : ∀ l : List α, (∀ a ∈ l, (f a).length ≤ M) → (l.flatMap f).length ≤ l.length * M
  | [], _ => qZ _
  | a :: r, h => by
    have h1 := h a (by simp)
    have h2 := fm_len r fun b hb => h b (by simp [hb])
    rw [List.flatMap_cons, qG, qM, Nat.succ_mul]; omega
theorem hd_len {d : List Tb} {st : St} {b : Bd} {fx : Ex → ByteArray} (hd : okDb d) (h : hdG d st b) : (hdB d b fx).length ≤ 4000000 := by
  unfold hdB
  split
  · exact qZ _
  · split
    · have h1 := fm_len (f := nmC d) (M := 1000000) b.tabs fun n hn => by
        obtain ⟨_, k2⟩ := h.tg n hn
        rw [qA, show tbA d n = d[n.toNat] from getD_at k2]
        exact (hd.tb _ (qC k2)).cl
      have h2 := h.tl
      have h3 := Nat.mul_le_mul_right 1000000 h2
      omega
    · rw [qA]; have := h.il; omega
theorem header_law (d : List Tb) (z : Nz) (st : St) (ok : okLw d st) : Pu 3 [scC z d, stC st] (.c (bC true)) := by
 intro H
 refine Spec.enter Tryz.func3 rfl ?_
 refine AW.wk (wK 50 (l := [(0, .c (scC z d)), (1, .c (stC st))]) (ll := []) (H := (H))) ?_
 refine D2 ?_
 refine AW.seq (sR (Z16 fn6 (awake_h) ?_))
 refine Z32 ?_
 refine Z3 (AW.condF rfl ?_)
 refine eL198 ?_
 refine SeqK.callE rfl rfl rfl rfl fn7 rfl (small_q d z st ok.dl ok.dk ok.oi _) (fun _ _ h => by obtain ⟨_, h, _⟩ := h; rw [h]; rfl) (fun x14 H14 q14 => ?_)
 obtain ⟨b14, rfl, hb14, e14⟩ := q14
 replace e14 := e14.symm
 subst e14
 refine eL185 ?_
 refine AW.cond _ rfl (fun h15 => ?_) (fun h15 => ?_)
 ·
  refine D1 ?_
  exact cL47
 have hbt : b14 = true := bnf h15
 obtain ⟨w1, w2, w3, w4⟩ := hb14 hbt
 have hsq := smQ_of w3
 have hdb := okDb_of w1 w2
 have hst := okSt_of ok hsq w4
 have hix := itH_of ok w4
 refine eL201 ?_
 refine SeqK.callE rfl rfl rfl rfl fn8 rfl (rbind_any d z st hdb hst hix _) (fun _ _ h => by obtain ⟨_, _, h, _⟩ := h; rw [h]; rfl) (fun x19 H19 q19 => ?_)
 obtain ⟨bd, e0, rfl, hbd, e19⟩ := q19
 replace e19 := e19.symm
 subst e19
 refine G6 ?_
 refine eL153 ?_
 refine cD ?_ ?_ <;> intro h23
 ·
  refine D1 ?_
  exact cL47
 have hG := hbd (qY.1 h23)
 have hL := hd_len (fx := fxT) hdb hG
 refine eL252 ?_
 refine N2 ?_
 refine lQ (q_call _ rfl fn9 rfl (header_any d z bd fxT hdb hG.tg (by have := hG.tl; omega) hG.il (fun x hx => ⟨fx_sz (hG.ig x hx).ex, _, Q.formatExpr_any _ (hG.ig x hx).ex.1 (hG.ig x hx).ex.2⟩)) rfl) ?_
 refine N2 ?_
 refine lQ (q_call _ rfl fn10 rfl (rheader_any d z bd fxT hdb hG.tg (by have := hG.tl; omega) hG.il (fun x hx => ⟨(hG.ig x hx).lo, (hG.ig x hx).hi⟩) (fun x hx _ => ⟨fx_sz (hG.ig x hx).ex, _, Q.textExpr_any _ (hG.ig x hx).ex.1 (hG.ig x hx).ex.2⟩)) rfl) ?_
 refine eL284 ?_
 refine eL150 ?_
 refine cD ?_ ?_ <;> intro h34
 ·
  exact absurd rfl h34
 refine AW.skip (AW.seq (D3 ?_))
 refine Z3 (AW.block ?_)
 refine AW.loop (fun (i : Nat) s => (i ≤ (hdB d bd fxT).length) ∧ s = ⟨50, sp [(4, .c (bC false)), (7, .c (hdC .un (hdB d bd fxT))), (8, .c (hdC .un (hdB d bd fxT))), (36, iX .i64 ((((hdB d bd fxT).map txT).length : Nat) : Int)), (37, nX i)], lv [], H⟩) (fun i => (hdB d bd fxT).length - i) 0 ⟨_, by exact wK 50, qZ _, rfl⟩ (fun i s hs => ?_)
 obtain ⟨hi0, rfl⟩ := hs
 refine eL175 ?_
 refine cD ?_ ?_ <;> intro h38
 ·
  have hi := oI h38
  refine eL159 ?_
  refine eL251 ?_
  refine N2 ?_
  refine Z26 sl51 (idx_map (f := txT) hi) ?_
  refine N3 ?_
  refine Z26 sl51 (idx_map (f := txT) hi) ?_
  refine N1 ?_
  refine lQ (q_neqS rfl rfl rfl) ?_
  refine Z38 ?_
  refine cD ?_ ?_ <;> intro h48
  ·
   exact absurd rfl h48
  refine AW.skip (B2 ?_)
  refine Z3 ?_
  exact ⟨i + 1, _, by exact wK 50, by omega, hi, rfl⟩
 refine eL147 ?_
 refine D1 ?_
 exact cL47
theorem header_law2 (d : List Tb) (z : Nz) (st : St) (ok : okLw d st) : E.Spec Tryz.prog 3 [scC z d, stC st] (fun _ => none) fun x _ => x = tv (.bool true) := (header_law d z st ok (fun _ => none)).mono fun _ _ h => h.1
end Go.Proofs.YtgnnjebfoffphaaGreatDoor.W
