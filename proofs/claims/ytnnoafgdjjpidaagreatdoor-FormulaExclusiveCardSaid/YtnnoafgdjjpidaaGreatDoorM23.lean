import Derived.Test.YtnnoafgdjjpidaaGreatDoorM22
set_option maxRecDepth 20000
set_option maxHeartbeats 16000000
set_option linter.unusedSectionVars false
set_option linter.unusedSimpArgs false
set_option linter.unusedVariables false
namespace Go.Proofs.YtnnoafgdjjpidaaGreatDoor.W
open Go.RowKit E M
abbrev fmX (r : Fm × Int) : X := .tup [fmC r.1, iC r.2]
theorem fmXe {f g : Fm × Int} (h : f = g) : fmX f = fmX g := by rw [h]
theorem nulls_tip (H : Heap) (k : Int) (l : List Int) (z : Nz) (hl : l.length ≤ 1000000) : E.Spec Tryz.prog 42 [iC k, iL z l] H fun x H' => ∃ kt, H kt = none ∧ x = .c (.a (.ts kt .ne 11 ((nlsF k l).map fmT'))) ∧ H' = upd H kt (some (.tip 39 11 ((nlsF k l).map fmT').length)) := by
 refine Spec.enter Tryz.func42 rfl ?_
 refine AW.wk (Wk.keep 23 [(0, .c (iC k)), (1, .c (iL z l))] [] (H) rfl ⟨rfl, rfl, trivial⟩ trivial (fun _ _ h => h) rfl) ?_
 refine sR (sB ?_)
 refine sR (sB ?_)
 refine AW.seq (sR (sM ?_))
 refine Z22 Fx.un80 ?_
 refine sM ?_
 refine Z7 (AW.block ?_)
 refine AW.tip 5 39 11 rfl (fun k0 hk0 => ?_)
 refine AW.loop (fun (i : Nat) s => ∃ (kt : Nat) (zs : List (List E.T)), (i ≤ l.length ∧ H kt = none ∧ zs = (nlsF k (l.take i)).map fmT') ∧ s = ⟨23, sp [(0, .c (iC k)), (5, .c (.a (.ts kt .ne 11 zs))), (8, .c (iL z l)), (9, iX .i64 (((l.map i64T).length : Nat) : Int)), (10, iX .i64 ((i : Nat) : Int))], lv [], upd H kt (some (.tip 39 11 zs.length))⟩) (fun i => l.length - i) 0 ⟨_, by exact Wk.keep 23 _ _ _ rfl ⟨rfl, rfl, rfl, rfl, rfl, trivial⟩ trivial (fun _ _ h => h) rfl, k0, [], ⟨Nat.zero_le _, hk0, rfl⟩, rfl⟩ (fun i s hs => ?_)
 obtain ⟨kt, zs, ⟨hi0, hkt, hzs⟩, rfl⟩ := hs
 refine sR (Z30 ?_)
 refine Z7 (AW.seq ?_)
 refine cD ?_ ?_ <;> intro h11
 ·
  have hi : i < l.length := by rw [List.length_map] at h11; omega
  refine AW.skip (AW.seq (AW.block (sR (Z24 Fx.sl80 (idx_map (f := i64T) hi) ?_))))
  refine Z28 (.a _) Fx.ty3 ?_
  refine sB ?_
  refine AW.reg (sM ?_)
  refine sM ?_
  refine sM ?_
  refine Z11 (zs := [_, _, _, _, _, _, _, _, _]) (r := [_, _, _, _, _, _, _, _, _]) [(0, 1), (1, 1), (2, 1), (3, 2), (5, 4)] Fx.ze36 Fx.bp36 ?_
  refine Z47 17 XW.atN ?_
  refine Z12 Fx.fn65 (atomic_any ⟨k, l[i], 0, tm0, 0, 0, false, ⟨#[]⟩⟩) ?_
  refine Z27 Fx.el37 ?_
  refine SeqK.app1 rfl (hkt) rfl Fx.el37 rfl rfl (by simp [hzs]; omega) rfl rfl (fun k20 hk20 => ?_)
  refine sB ?_
  refine AW.reg (Z13 ?_)
  refine sM ?_
  refine Z7 ?_
  exact ⟨i + 1, _, by exact Wk.keep 23 _ _ _ rfl ⟨rfl, rfl, rfl, rfl, rfl, trivial⟩ trivial (fun _ _ h => h) rfl, by omega, k20, zs ++ [fmL (atF ⟨k, l[i], 0, tm0, 0, 0, false, ⟨#[]⟩⟩)], ⟨hi, hk20, by rw [hzs, nls_put hi, List.map_append, List.map_singleton, fmT_eq]⟩, rfl⟩
 refine AW.exit ?_
 refine eth_e ?_
 refine eth_e ?_
 refine exit_here ?_
 refine AW.seq ?_
 obtain rfl : i = l.length := by rw [List.length_map] at h11; omega
 rw [List.take_length] at hzs
 subst hzs
 refine AW.reg (sM ?_)
 refine sB ?_
 exact aR (fin_x (x := .c _) (_) (.tmp rfl .nil) rfl (fun _ _ h => h) (⟨kt, hkt, rfl, rfl⟩))
theorem fm_put {fs : List Fm} {a : At} : (fs.map fmT') ++ [fmL (atF a)] = (fs ++ [atF a]).map fmT' := by rw [List.map_append, List.map_singleton, fmT_eq]
theorem ne_of_upd {H : Heap} {i j : Nat} {x : AO} (h : upd H i (some x) j = none) : i ≠ j ∧ H j = none := by
  refine ⟨fun e => ?_, ?_⟩
  · subst e; rw [upd_same] at h; cases h
  · by_cases e : j = i
    · subst e; rw [upd_same] at h; cases h
    · rwa [upd_ne _ _ e] at h
theorem fz_os (k : Nat) (l : List Int) : fzX k 1 (l.map i64T) (.c (.a (.os k 0 l.length 1))) = .c (iL .un l) := by simp [fzX, fzC, fzA]
theorem hp3 (H : Heap) (i j : Nat) (x y z : Option AO) (h : i ≠ j) : upd (upd (upd H i x) j y) j z = upd (upd H j z) i x := by
  funext n
  by_cases e1 : n = i
  · subst e1; rw [upd_ne _ _ h, upd_ne _ _ h, upd_same, upd_same]
  · by_cases e2 : n = j
    · subst e2; rw [upd_same, upd_ne _ _ e1, upd_same]
    · rw [upd_ne _ _ e2, upd_ne _ _ e2, upd_ne _ _ e1, upd_ne _ _ e1, upd_ne _ _ e2]
theorem cmp_nul {lt lk : ByteArray → ByteArray → Bool} {l : List Vr} {e : Ex} {m : Int} (h : nulB e = true) : cmpF lt lk l e m = (cst (wkM m), 0) := by rw [cmpF, if_pos h]
theorem cmp_err {lt lk : ByteArray → ByteArray → Bool} {l : List Vr} {e : Ex} {m : Int} (h : nulB e = false) {r : PR × Int} (hr : prtP lt lk l e.op (e.args.getD 0 ex0) (e.args.getD 1 ex0) m = r) (h2 : r.2 ≠ 0) : cmpF lt lk l e m = (fm0, r.2) := by subst hr; rw [cmpF, if_neg (by rw [h]; simp)]; exact if_pos h2
theorem cmp_fin {lt lk : ByteArray → ByteArray → Bool} {l : List Vr} {e : Ex} {m : Int} (h : nulB e = false) {r : PR × Int} (hr : prtP lt lk l e.op (e.args.getD 0 ex0) (e.args.getD 1 ex0) m = r) (h2 : r.2 = 0) : cmpF lt lk l e m = (cmbP r.1 (colsL e.args) m, 0) := by subst hr; rw [cmpF, if_neg (by rw [h]; simp)]; exact if_neg fun k => k h2
theorem cmb_w1 {p : PR} {vs : List Int} {m : Int} (hm : wkM m = true) (h1 : p.kn = true) (h2 : p.vl = true) : cmbP p vs m = cst true := by rw [cmbP, if_pos hm, if_pos (by rw [h1, h2]; rfl)]
theorem cmb_w2 {p : PR} {vs : List Int} {m : Int} (hm : wkM m = true) (h1 : p.kn = true) (h2 : p.vl = false) : cmbP p vs m = lsF 1 (nlsF 0 vs) := by rw [cmbP, if_pos hm, if_neg (by rw [h1, h2]; decide), if_pos h1, List.append_nil]
theorem cmb_w3 {p : PR} {vs : List Int} {m : Int} (hm : wkM m = true) (h1 : p.kn = false) : cmbP p vs m = lsF 1 (nlsF 0 vs ++ [atF p.a]) := by rw [cmbP, if_pos hm, if_neg (by rw [h1]; simp), if_neg (by rw [h1]; simp)]
theorem cmb_s1 {p : PR} {vs : List Int} {m : Int} (hm : wkM m = false) (h1 : p.kn = true) (h2 : p.vl = false) : cmbP p vs m = cst false := by rw [cmbP, if_neg (by rw [hm]; simp), if_pos (by rw [h1, h2]; rfl)]
theorem cmb_s2 {p : PR} {vs : List Int} {m : Int} (hm : wkM m = false) (h1 : p.kn = true) (h2 : p.vl = true) : cmbP p vs m = lsF 0 (nlsF 1 vs) := by rw [cmbP, if_neg (by rw [hm]; simp), if_neg (by rw [h1, h2]; decide), if_pos h1]
theorem cmb_s3 {p : PR} {vs : List Int} {m : Int} (hm : wkM m = false) (h1 : p.kn = false) : cmbP p vs m = lsF 0 (nlsF 1 (vs.filter fun v => !decide (v ∈ vaA p.a)) ++ [atF p.a]) := by rw [cmbP, if_neg (by rw [hm]; simp), if_neg (by rw [h1]; simp), if_neg (by rw [h1]; simp)]
theorem comp_of (H : Heap) (kp : Nat) (l : List Vr) (z : Nz) (hp : H kp = some (.box [.t (.sl z 5 (l.map vrT))])) (hL : l.length ≤ 17592186044000) (e : Ex) (m : Int) (R : PR × Int) (h01 : 0 < e.args.length) (h12 : 1 < e.args.length) (hR : prtP strLt lkS l e.op e.args[0] e.args[1] m = R) (hr : rgQ e) (hcl : (colRs e.args).length ≤ 100000) (hx : okE e.args[0]) (hy : okE e.args[1]) (gx : gd (ofE e.args[0])) (gy : gd (ofE e.args[1])) (sx : e.args[0].vs.size ≤ 1000000000000000) (sy : e.op = 16 → e.args[1].vs.size ≤ 1000000) : E.Spec Tryz.prog 45 [.a (.bp kp 0), exC e, iC m] H fun x H' => x = fmX (cmpF strLt lkS l e m) ∧ H' = H := by
 have hrs := ((rgQ_eq e).1 hr).2
 have hlen := ((rgQ_eq e).1 hr).1.2.2.2
 have hpk : pOK R.1 := hR ▸ prt_pok gx gy
 have hva : (vaA R.1.a).length ≤ 100000 := va_len hpk.2
 have hcc : (colsL e.args).length ≤ 100000 := Nat.le_trans (dd_len _) hcl
 have hfl : ((colsL e.args).filter fun v => !decide (v ∈ vaA R.1.a)).length ≤ 100000 := Nat.le_trans (List.length_filter_le _ _) hcc
 have hg0 : e.args.getD 0 ex0 = e.args[0] := by rw [List.getD_eq_getElem?_getD, List.getElem?_eq_getElem h01]; rfl
 have hg1 : e.args.getD 1 ex0 = e.args[1] := by rw [List.getD_eq_getElem?_getD, List.getElem?_eq_getElem h12]; rfl
 have hR2 : prtP strLt lkS l e.op (e.args.getD 0 ex0) (e.args.getD 1 ex0) m = R := by rw [hg0, hg1]; exact hR
 refine Spec.enter Tryz.func45 rfl ?_
 refine AW.wk (Wk.keep 83 [(0, .c (.a (.bp kp 0))), (1, .c (exC e)), (2, .c (iC m))] [] (H) rfl ⟨rfl, rfl, rfl, trivial⟩ trivial (fun _ _ h => h) rfl) ?_
 refine sR (Z20 (r := [_, _, _, _, _, _, _, _]) ?_)
 refine Z16 (r := [_, _, _, _, _, _, _, _, _, _, _]) Fx.ze39 ?_
 refine sB ?_
 refine AW.seq (sR (Z10 (r := .g [_, _, _, _, _, _, _, _]) Fx.ty26 ?_))
 refine Z12 Fx.fn39 (lit_any e (rgQ_E e hr)) ?_
 refine Z7 ?_
 refine AW.cond _ rfl (fun h15 => ?_) (fun h15 => ?_)
 ·
  refine sR (sM ?_)
  refine Z12 Fx.fn44 (weak_any m) ?_
  refine Z12 Fx.fn40 (constant_any _) ?_
  refine Z2 (r := [_, _, _, _, _, _, _, _, _, _, _]) Fx.ty39 ?_
  refine sB ?_
  exact aR (f2 (.cellL rfl rfl Fx.ty39 rfl rfl (.tmp rfl .nil)) (⟨fmXe (cmp_nul h15).symm, rfl⟩))
 refine AW.skip (sR (sM ?_))
 refine Z10 (r := .g [_, _, _, _, _, _, _, _]) Fx.ty26 ?_
 refine sM ?_
 refine SeqK.r (g_call rfl Fx.fn68 rfl (part_any H kp l z hp hL e m h01 h12 hx hy gx gy sx sy) rfl rfl rfl) rfl ?_
 rw [hR]
 refine Z39 ?_
 refine Z6 ?_
 refine Z6 ?_
 refine Z16 (r := [_, _, _, _, _, _, _, _, _, _, _]) Fx.ze114 ?_
 refine Z2 (r := [_, _, _, _, _, _, _, _, _, _, _]) Fx.ty114 ?_
 refine sB ?_
 refine AW.seq (sR (sM ?_))
 refine Z26 ?_
 refine Z7 ?_
 refine cD ?_ ?_ <;> intro h27
 ·
  refine sR (Z11 (zs := [_, _, _, _, _, _, _, _, _, _, _]) (r := [_, _, _, _, _, _, _, _, _, _, _]) [(0, 1), (1, 9), (10, 1)] Fx.ze39 Fx.bp39 ?_)
  refine Z47 28 XW.fmN ?_
  refine Z47 28 XW.fmA ?_
  refine sM ?_
  refine Z2 (r := [_, _, _, _, _, _, _, _, _, _, _]) Fx.ty39 ?_
  refine sB ?_
  exact aR (f2 (.cellL rfl rfl Fx.ty39 rfl rfl (.tmp rfl .nil)) (⟨fmXe (f := (fm0, R.2)) (cmp_err h15 hR2 h27).symm, rfl⟩))
 have e0 : R.2 = 0 := Classical.not_not.1 h27
 refine AW.skip (sR (Z1 Fx.fl26_5 ?_))
 refine Z0 Fx.ty24 ?_
 refine SeqK.callE rfl rfl rfl rfl Fx.fn43 rfl (cols_of H e.args .un hlen hcl fun a ha => cols_arg a (rgQ_E a (hrs a ha)) (by have := cr_mem ha; omega)) (fun _ _ ⟨_, _, h, _⟩ => by rw [h]; rfl) (fun x32 H32 q32 => ?_)
 obtain ⟨k32, hk32, rfl, rfl⟩ := q32
 refine sB ?_
 refine AW.seq (sR (sM ?_))
 refine Z12 Fx.fn44 (weak_any m) ?_
 refine Z7 ?_
 refine AW.cond _ rfl (fun h34 => ?_) (fun h34 => ?_)
 ·
  refine AW.freeze k32 1 3 ((colsL e.args).map i64T) (by rw [flatI]; exact upd_same _ _ _) (fun e he => by obtain ⟨p, _, rfl⟩ := List.mem_map.1 he; rfl) (by decide) ?_
  refine AW.wk (Wk.keep 83 [(6, .lp 6 0), (7, .c (iC 0)), (8, .lp 8 0), (10, .c (iL .un (colsL e.args)))] [(6, .box [.t (.v (.int .i64 0)), .t (.v (.int .i64 0)), .t (.v (.int .i64 0)), .t (.v (.int .i64 0)), .t (.v (.int .i64 0)), .t (.v (.slice none 0 0)), .t (.v (.int .i64 0)), .t (.v (.int .i64 0)), .t (.v (.bool false)), .t (.v (.string ⟨#[]⟩)), .t (.v (.slice none 0 0))]), (8, .box [.t (.v (.bool R.1.kn)), .t (.v (.bool R.1.vl)), .t (.v (.int .i64 R.1.a.k)), .t (.v (.int .i64 R.1.a.v)), .t (.v (.int .i64 R.1.a.o)), .t (.v (.int .i64 R.1.a.t.c)), .t (.sl .un 5 (R.1.a.t.ps.map ptT)), .t (.v (.int .i64 R.1.a.tv)), .t (.v (.int .i64 R.1.a.tk)), .t (.v (.bool R.1.a.tn)), .t (.v (.string R.1.a.ts))])] H rfl ⟨rfl, rfl, rfl, fz_os k32 (colsL e.args), trivial⟩ ⟨rfl, rfl, trivial⟩ (fun j o h => by show upd (upd H k32 _) k32 none j = _; rw [upd_back hk32]; exact h) rfl) ?_
  refine AW.seq (sR (Z1 Fx.fl114_0 ?_))
  refine Z0 Fx.ty4 ?_
  refine Z36 ?_ ?_ <;> intro g37
  ·
   refine Z5 Fx.fl114_1 ?_
   refine Z3 Fx.ty4 ?_
   refine Z8 ?_
   refine Z7 ?_
   refine AW.cond _ rfl (fun h40 => ?_) (fun h40 => ?_)
   ·
    refine sR (Z12 Fx.fn40 (constant_any _) ?_)
    refine Z2 (r := [_, _, _, _, _, _, _, _, _, _, _]) Fx.ty39 ?_
    refine sB ?_
    exact aR (f2 (.cellL rfl rfl Fx.ty39 rfl rfl (.tmp rfl .nil)) (⟨fmXe (f := (cst true, 0)) (by rw [cmp_fin h15 hR2 e0, cmb_w1 h34 g37 h40]), rfl⟩))
   refine AW.skip (sR (sM ?_))
   refine SeqK.callE rfl rfl rfl rfl Fx.fn42 rfl (nulls_tip _ 0 (colsL e.args) .un (by omega)) (fun _ _ ⟨_, _, h, _⟩ => by rw [h]; rfl) (fun x43 H43 q43 => ?_)
   obtain ⟨k43, hk43, rfl, rfl⟩ := q43
   refine sB ?_
   refine AW.seq (sR (Z1 Fx.fl114_0 ?_))
   refine Z0 Fx.ty4 ?_
   refine Z49 ?_
   refine Z7 ?_
   refine AW.cond _ rfl (fun h46 => ?_) (fun h46 => ?_)
   ·
    exfalso; simp_all
   refine AW.skip (AW.seq ?_)
   refine AW.xw 11 rfl (XW.ts.trans (XW.es (es' := (nlsF 0 (colsL e.args)).map fmT') (by first | rfl | exact fm_put))) ?_
   refine AW.reg (sM ?_)
   refine SeqK.q (q_call _ rfl Fx.fn41 rfl (list_any 1 (nlsF 0 (colsL e.args)) .un (by simp; omega)) rfl) rfl rfl rfl ?_
   refine Z2 (r := [_, _, _, _, _, _, _, _, _, _, _]) Fx.ty39 ?_
   refine sB ?_
   exact aR (fin_x (x := .tup [_, _]) (H) (.cellL rfl rfl Fx.ty39 rfl rfl (.tmp rfl .nil)) rfl ((fun j o h => upd_sub hk43 j o h)) (⟨fmXe (f := (lsF 1 (nlsF 0 (colsL e.args)), 0)) (by rw [cmp_fin h15 hR2 e0, cmb_w2 h34 g37 h40]), rfl⟩))
  iterate 2 refine oF ?_
  refine Z4 ?_
  refine Z7 (AW.condF rfl ?_)
  refine AW.skip (sR (sM ?_))
  refine SeqK.callE rfl rfl rfl rfl Fx.fn42 rfl (nulls_tip _ 0 (colsL e.args) .un (by omega)) (fun _ _ ⟨_, _, h, _⟩ => by rw [h]; rfl) (fun x43 H43 q43 => ?_)
  obtain ⟨k43, hk43, rfl, rfl⟩ := q43
  refine sB ?_
  refine AW.seq (sR (Z1 Fx.fl114_0 ?_))
  refine Z0 Fx.ty4 ?_
  refine Z49 ?_
  refine Z7 ?_
  refine AW.cond _ rfl (fun h46 => ?_) (fun h46 => ?_)
  ·
   refine AW.reg (sM ?_)
   refine Z1 Fx.fl114_2 ?_
   refine Z10 (r := .g [_, _, _, _, _, _, _, _, _]) Fx.ty36 ?_
   refine Z12 Fx.fn65 (atomic_any R.1.a) ?_
   refine Z27 Fx.el37 ?_
   refine SeqK.app1 rfl (hk43) rfl Fx.el37 rfl rfl (by simp; omega) rfl rfl (fun k52 hk52 => ?_)
   refine sB ?_
   refine AW.seq ?_
   refine AW.xw 11 rfl (XW.ts.trans (XW.es (es' := (nlsF 0 (colsL e.args) ++ [atF R.1.a]).map fmT') (by first | rfl | exact fm_put))) ?_
   refine AW.reg (sM ?_)
   refine SeqK.q (q_call _ rfl Fx.fn41 rfl (list_any 1 (nlsF 0 (colsL e.args) ++ [atF R.1.a]) .un (by simp; omega)) rfl) rfl rfl rfl ?_
   refine Z2 (r := [_, _, _, _, _, _, _, _, _, _, _]) Fx.ty39 ?_
   refine sB ?_
   exact aR (fin_x (x := .tup [_, _]) (H) (.cellL rfl rfl Fx.ty39 rfl rfl (.tmp rfl .nil)) rfl ((fun j o h => upd_sub hk52 j o h)) (⟨fmXe (f := (lsF 1 (nlsF 0 (colsL e.args) ++ [atF R.1.a]), 0)) (by rw [cmp_fin h15 hR2 e0, cmb_w3 h34 g37]), rfl⟩))
  exfalso; simp_all
 refine AW.skip (AW.seq (sR (Z1 Fx.fl114_0 ?_)))
 refine Z0 Fx.ty4 ?_
 refine Z36 ?_ ?_ <;> intro g57
 ·
  refine Z5 Fx.fl114_1 ?_
  refine Z3 Fx.ty4 ?_
  refine Z41 ?_
  refine Z8 ?_
  refine Z7 ?_
  refine AW.cond _ rfl (fun h61 => ?_) (fun h61 => ?_)
  ·
   refine sR (Z12 Fx.fn40 (constant_any _) ?_)
   refine Z2 (r := [_, _, _, _, _, _, _, _, _, _, _]) Fx.ty39 ?_
   refine sB ?_
   exact aR (fin_x (x := .tup [_, _]) (H) (.cellL rfl rfl Fx.ty39 rfl rfl (.tmp rfl .nil)) rfl ((fun j o h => upd_sub hk32 j o h)) (⟨fmXe (f := (cst false, 0)) (by rw [cmp_fin h15 hR2 e0, cmb_s1 h34 g57 (bnt h61)]), rfl⟩))
  refine AW.skip (sR (sB ?_))
  refine AW.seq (sR (Z1 Fx.fl114_0 ?_))
  refine Z0 Fx.ty4 ?_
  refine Z7 ?_
  refine AW.cond _ rfl (fun h64 => ?_) (fun h64 => ?_)
  ·
   refine AW.freeze k32 1 3 ((colsL e.args).map i64T) (by rw [flatI]; exact upd_same _ _ _) (fun e he => by obtain ⟨p, _, rfl⟩ := List.mem_map.1 he; rfl) (by decide) ?_
   refine AW.wk (Wk.keep 83 [(6, .lp 6 0), (7, .c (iC 0)), (8, .lp 8 0), (10, .c (iL .un (colsL e.args)))] [(6, .box [.t (.v (.int .i64 0)), .t (.v (.int .i64 0)), .t (.v (.int .i64 0)), .t (.v (.int .i64 0)), .t (.v (.int .i64 0)), .t (.v (.slice none 0 0)), .t (.v (.int .i64 0)), .t (.v (.int .i64 0)), .t (.v (.bool false)), .t (.v (.string ⟨#[]⟩)), .t (.v (.slice none 0 0))]), (8, .box [.t (.v (.bool R.1.kn)), .t (.v (.bool R.1.vl)), .t (.v (.int .i64 R.1.a.k)), .t (.v (.int .i64 R.1.a.v)), .t (.v (.int .i64 R.1.a.o)), .t (.v (.int .i64 R.1.a.t.c)), .t (.sl .un 5 (R.1.a.t.ps.map ptT)), .t (.v (.int .i64 R.1.a.tv)), .t (.v (.int .i64 R.1.a.tk)), .t (.v (.bool R.1.a.tn)), .t (.v (.string R.1.a.ts))])] H rfl ⟨rfl, rfl, rfl, fz_os k32 (colsL e.args), trivial⟩ ⟨rfl, rfl, trivial⟩ (fun j o h => by show upd (upd H k32 _) k32 none j = _; rw [upd_back hk32]; exact h) rfl) ?_
   refine AW.reg (sM ?_)
   refine SeqK.callE rfl rfl rfl rfl Fx.fn42 rfl (nulls_tip _ 1 (colsL e.args) .un (by omega)) (fun _ _ ⟨_, _, h, _⟩ => by rw [h]; rfl) (fun x66 H66 q66 => ?_)
   obtain ⟨k66, hk66, rfl, rfl⟩ := q66
   refine sB ?_
   refine AW.seq ?_
   refine AW.xw 12 rfl (XW.ts.trans (XW.es (es' := (nlsF 1 (colsL e.args)).map fmT') (by first | rfl | exact fm_put))) ?_
   refine AW.reg (sM ?_)
   refine SeqK.q (q_call _ rfl Fx.fn41 rfl (list_any 0 (nlsF 1 (colsL e.args)) .un (by simp; omega)) rfl) rfl rfl rfl ?_
   refine Z2 (r := [_, _, _, _, _, _, _, _, _, _, _]) Fx.ty39 ?_
   refine sB ?_
   exact aR (fin_x (x := .tup [_, _]) (H) (.cellL rfl rfl Fx.ty39 rfl rfl (.tmp rfl .nil)) rfl ((fun j o h => upd_sub hk66 j o h)) (⟨fmXe (f := (lsF 0 (nlsF 1 (colsL e.args)), 0)) (by rw [cmp_fin h15 hR2 e0, cmb_s2 h34 g57 (bnf h61)]), rfl⟩))
  exfalso; simp_all
 iterate 3 refine oF ?_
 refine Z4 ?_
 refine Z7 (AW.condF rfl ?_)
 refine AW.skip (sR (sB ?_))
 refine AW.seq (sR (Z1 Fx.fl114_0 ?_))
 refine Z0 Fx.ty4 ?_
 refine Z7 ?_
 refine AW.cond _ rfl (fun h64 => ?_) (fun h64 => ?_)
 ·
  exfalso; simp_all
 refine sR (Z1 Fx.fl114_2 ?_)
 refine Z10 (r := .g [_, _, _, _, _, _, _, _, _]) Fx.ty36 ?_
 refine Z12 Fx.fn65 (atomic_any R.1.a) ?_
 refine Z12 Fx.fn69 (avars_any R.1.a hpk.1 hpk.2) ?_
 refine SeqK.newAlloc (r := [_]) rfl rfl rfl Fx.ze80 rfl rfl rfl (fun k13 hk13 => ?_)
 refine SeqK.r (g_store rfl rfl Fx.ty80 rfl rfl (by (repeat rw [upd_ne _ _ (by first | assumption | exact Ne.symm (by assumption))]); first | assumption | exact upd_same _ _ _) rfl rfl rfl) rfl ?_
 refine Z7 (AW.seq ?_)
 obtain ⟨hne, hk13b⟩ := ne_of_upd hk13
 have hk32b : upd H k13 (some (AO.box [.t (.sl .un 1 ((vaA R.1.a).map i64T))])) k32 = none := by rw [upd_ne _ _ hne]; exact hk32
 refine AW.wk (Wk.keep 83 [(6, .lp 6 0), (7, .c (iC 0)), (8, .lp 8 0), (10, .c (.a (.os k32 0 (colsL e.args).length 1))), (12, .c (.a (.t (.v (.slice none 0 0))))), (13, .c (.a (.bp k13 0)))] [(6, .box [.t (.v (.int .i64 0)), .t (.v (.int .i64 0)), .t (.v (.int .i64 0)), .t (.v (.int .i64 0)), .t (.v (.int .i64 0)), .t (.v (.slice none 0 0)), .t (.v (.int .i64 0)), .t (.v (.int .i64 0)), .t (.v (.bool false)), .t (.v (.string ⟨#[]⟩)), .t (.v (.slice none 0 0))]), (8, .box [.t (.v (.bool R.1.kn)), .t (.v (.bool R.1.vl)), .t (.v (.int .i64 R.1.a.k)), .t (.v (.int .i64 R.1.a.v)), .t (.v (.int .i64 R.1.a.o)), .t (.v (.int .i64 R.1.a.t.c)), .t (.sl .un 5 (R.1.a.t.ps.map ptT)), .t (.v (.int .i64 R.1.a.tv)), .t (.v (.int .i64 R.1.a.tk)), .t (.v (.bool R.1.a.tn)), .t (.v (.string R.1.a.ts))])] (rwI (upd H k13 (some (AO.box [.t (.sl .un 1 ((vaA R.1.a).map i64T))]))) k32 (colsL e.args)) rfl ⟨rfl, rfl, rfl, rfl, rfl, rfl, trivial⟩ ⟨rfl, rfl, trivial⟩ (fun j o h => (congrFun (hp3 H k32 k13 (some (.row 3 1 ((colsL e.args).map iA))) _ (some (AO.box [.t (.sl .un 1 ((vaA R.1.a).map i64T))])) hne) j).trans (by rw [← flatI]; exact h)) rfl) ?_
 refine AW.reg (sM ?_)
 refine SeqK.q (q_mkFn rfl rfl rfl) rfl rfl rfl ?_
 refine SeqK.callE rfl rfl rfl rfl Fx.fn70 rfl (del_any (upd H k13 (some (.box [.t (.sl .un 1 ((vaA R.1.a).map i64T))]))) k32 71 [.bp k13 0] (fun v => decide (v ∈ vaA R.1.a)) (colsL e.args) hk32b Fx.fn71 (by omega) (fun v hv H1 h1 => ownOf_any H1 k13 (vaA R.1.a) .un (h1 _ _ (upd_same _ _ _)) (by omega) v)) (fun _ _ h => by rw [h.1]; rfl) (fun x73 H73 q73 => ?_)
 obtain ⟨rfl, rfl⟩ := q73
 refine SeqK.callE rfl rfl rfl rfl Fx.fn42 rfl (nulls_tip _ 1 ((colsL e.args).filter fun v => !decide (v ∈ vaA R.1.a)) .un (by omega)) (fun _ _ ⟨_, _, h, _⟩ => by rw [h]; rfl) (fun x74 H74 q74 => ?_)
 obtain ⟨k74, hk74, rfl, rfl⟩ := q74
 refine sB ?_
 refine AW.reg (sM ?_)
 refine Z1 Fx.fl114_2 ?_
 refine Z10 (r := .g [_, _, _, _, _, _, _, _, _]) Fx.ty36 ?_
 refine Z12 Fx.fn65 (atomic_any R.1.a) ?_
 refine Z27 Fx.el37 ?_
 refine SeqK.app1 rfl (hk74) rfl Fx.el37 rfl rfl (by simp; omega) rfl rfl (fun k80 hk80 => ?_)
 refine sB ?_
 refine AW.seq ?_
 refine AW.xw 12 rfl (XW.ts.trans (XW.es (es' := (nlsF 1 ((colsL e.args).filter fun v => !decide (v ∈ vaA R.1.a)) ++ [atF R.1.a]).map fmT') (by first | rfl | exact fm_put))) ?_
 refine AW.reg (sM ?_)
 refine SeqK.q (q_call _ rfl Fx.fn41 rfl (list_any 0 (nlsF 1 ((colsL e.args).filter fun v => !decide (v ∈ vaA R.1.a)) ++ [atF R.1.a]) .un (by simp; omega)) rfl) rfl rfl rfl ?_
 refine Z2 (r := [_, _, _, _, _, _, _, _, _, _, _]) Fx.ty39 ?_
 refine sB ?_
 exact aR (fin_x (x := .tup [_, _]) (H) (.cellL rfl rfl Fx.ty39 rfl rfl (.tmp rfl .nil)) rfl ((fun j o h => upd_sub hk80 j o (upd_sub hk13b j o h))) (⟨fmXe (f := (lsF 0 (nlsF 1 ((colsL e.args).filter fun v => !decide (v ∈ vaA R.1.a)) ++ [atF R.1.a]), 0)) (by rw [cmp_fin h15 hR2 e0, cmb_s3 h34 g57]), rfl⟩))
theorem ng_rng {m : Int} (h : 0 ≤ m ∧ m < 4) : 0 ≤ ngM m ∧ ngM m < 4 := by unfold ngM; split <;> (try split) <;> (try split) <;> decide
structure cdF (l : List Vr) (e : Ex) : Prop where
  two : e.op = 18 ∨ e.op = 19 → ∀ a ∈ e.args, Cd l a
  one : e.op = 20 ∨ e.op = 17 → 0 < e.args.length
  sub : e.op = 20 → ∀ a ∈ e.args, Cd l a
  cmp : ¬ (e.op = 18 ∨ e.op = 19) → ¬ e.op = 20 → ¬ e.op = 17 → 1 < e.args.length
  lk : e.op = 16 → ∀ h : 1 < e.args.length, e.args[1].vs.size ≤ 1000000
theorem cd_facts {l : List Vr} {e : Ex} (h : Cd l e) : cdF l e := by
  cases h with
  | and _ a b h h2 ha hb => exact ⟨fun _ x hx => by rw [h2] at hx; simp at hx; rcases hx with rfl | rfl; exact ha; exact hb, fun k => by omega, fun k => by omega, fun k => absurd h k, fun k => by omega⟩
  | not _ a h h2 ha => exact ⟨fun k => by omega, fun _ => by rw [h2]; simp, fun _ x hx => by rw [h2] at hx; simp at hx; subst hx; exact ha, fun _ k => absurd h k, fun k => by omega⟩
  | isn _ a h h2 ha => exact ⟨fun k => by omega, fun _ => by rw [h2]; simp, fun k => by omega, fun _ _ k => absurd h k, fun k => by omega⟩
  | like _ a b h h2 ha h3 h4 h5 => exact ⟨fun k => by omega, fun k => by omega, fun k => by omega, fun _ _ _ => by rw [h2]; simp, fun _ k => by
      have e1 : e.args[1] = b := by simp [h2]
      rw [e1]; have := h5.2.2.2.2; omega⟩
  | cmp _ a b h h2 ha hb h3 => exact ⟨fun k => by omega, fun k => by omega, fun k => by omega, fun _ _ _ => by rw [h2]; simp, fun k => by omega⟩
abbrev trF (l : List Vr) (m : Int) (a : Ex) : Fm × Int := trE strLt lkS l a m
theorem rs_map (l : List Vr) (m : Int) (es : List Ex) : ((es.map fun a m => trE strLt lkS l a m).map fun r => r m) = es.map (trF l m) := by rw [List.map_map]; rfl
theorem an_err {k : Int} {F : Ex → Fm × Int} {l : List Ex} {i : Nat} {outs : List Fm} {r : Fm × Int} (hi : i < l.length) (hI : andR k ((l.drop i).map F) outs = r) (h : (F l[i]).2 ≠ 0) : r = (fm0, (F l[i]).2) := by
  rw [List.drop_eq_getElem_cons hi, List.map_cons, andR, if_pos h] at hI; exact hI.symm
theorem an_ok {k : Int} {F : Ex → Fm × Int} {l : List Ex} {i : Nat} {outs : List Fm} {r : Fm × Int} (hi : i < l.length) (hI : andR k ((l.drop i).map F) outs = r) (h : (F l[i]).2 = 0) : andR k ((l.drop (i + 1)).map F) (outs ++ [(F l[i]).1]) = r := by
  rw [List.drop_eq_getElem_cons hi, List.map_cons, andR, if_neg (by omega)] at hI; exact hI
theorem an_end {k : Int} {F : Ex → Fm × Int} {l : List Ex} {outs : List Fm} {r : Fm × Int} (hI : andR k ((l.drop l.length).map F) outs = r) : r = (.mk k at0 outs, 0) := by
  rw [List.drop_length, List.map_nil, andR] at hI; exact hI.symm
theorem tr_and {l : List Vr} {e : Ex} {m : Int} (h : e.op = 18 ∨ e.op = 19) : andR (if decide (e.op = 18) = poM m then 0 else 1) (e.args.map (trF l m)) [] = trE strLt lkS l e m := by rw [trE_eq, stepT, if_pos h, rs_map]
theorem tr_not {l : List Vr} {e : Ex} {m : Int} (h : e.op = 20) (h0 : 0 < e.args.length) : trE strLt lkS l e.args[0] (ngM m) = trE strLt lkS l e m := by
  rw [trE_eq strLt lkS l e m, stepT, if_neg (by omega), if_pos h, List.getD_eq_getElem?_getD, List.getElem?_map, List.getElem?_eq_getElem h0]; rfl
theorem tr_isn {l : List Vr} {e : Ex} {m : Int} (h : e.op = 17) (h0 : 0 < e.args.length) : (isN e.args[0] m, (0 : Int)) = trE strLt lkS l e m := by
  rw [trE_eq strLt lkS l e m, stepT, if_neg (by omega), if_neg (by omega), if_pos h, List.getD_eq_getElem?_getD, List.getElem?_eq_getElem h0]; rfl
theorem tr_lit {l : List Vr} {e : Ex} {m : Int} (h : e.op = 1) : (cst (wkM m), (0 : Int)) = trE strLt lkS l e m := by
  rw [trE_eq strLt lkS l e m, stepT, if_neg (by omega), if_neg (by omega), if_neg (by omega), if_pos h]
theorem tr_cmp {l : List Vr} {e : Ex} {m : Int} (h : ¬ (e.op = 18 ∨ e.op = 19)) (h1 : ¬ e.op = 20) (h2 : ¬ e.op = 17) (h3 : ¬ e.op = 1) : cmpF strLt lkS l e m = trE strLt lkS l e m := by
  rw [trE_eq strLt lkS l e m, stepT, if_neg h, if_neg h1, if_neg h2, if_neg h3]
theorem isn_1 {a : Ex} {m : Int} (h : nulB a = true) : isN a m = cst (poM m) := by rw [isN, if_pos h]
theorem isn_2 {a : Ex} {m : Int} (h : nulB a = false) (h2 : poM m = true) : isN a m = lsF 1 (nlsF 0 (colsL [a])) := by rw [isN, if_neg (by rw [h]; simp), if_pos h2]
theorem isn_3 {a : Ex} {m : Int} (h : nulB a = false) (h2 : poM m = false) : isN a m = lsF 0 (nlsF 1 (colsL [a])) := by rw [isN, if_neg (by rw [h]; simp), if_neg (by rw [h2]; simp)]
theorem fm_put1 {fs : List Fm} {f : Fm} {zs : List (List E.T)} (h : zs = fs.map fmT') : zs ++ [fmL f] = (fs ++ [f]).map fmT' := by rw [h, List.map_append, List.map_singleton, fmT_eq]
theorem shK {e : Ex} (h : shP 13 e) {a : Ex} (ha : a ∈ e.args) : shP 12 a := (sh_args h).2 a ha
theorem sh_one {a : Ex} (h : shP 12 a) : (colRs [a]).length ≤ 100000 := by
  have h1 := sh_cols 12 a h
  have : (2 : Nat) ^ 12 = 4096 := by decide
  rw [colRs, colRs, List.append_nil]; omega
theorem trans_of (H : Heap) (kp : Nat) (l : List Vr) (z : Nz) (hp : H kp = some (.box [.t (.sl z 5 (l.map vrT))])) (hL : l.length ≤ 17592186044000) (e : Ex) (m : Int) (hm : 0 ≤ m ∧ m < 4) (K : Int) (hK : K = (if decide (e.op = 18) = poM m then 0 else 1)) (hr : rgQ e) (hsh : shP 13 e) (hcd : cdF l e) (ih : e.op = 18 ∨ e.op = 19 ∨ e.op = 20 → ∀ a ∈ e.args, ∀ m, 0 ≤ m ∧ m < 4 → ∀ H : Heap, H kp = some (.box [.t (.sl z 5 (l.map vrT))]) → E.Spec Tryz.prog 19 [.a (.bp kp 0), exC a, iC m] H fun x H' => x = fmX (trE strLt lkS l a m) ∧ H' = H) : E.Spec Tryz.prog 19 [.a (.bp kp 0), exC e, iC m] H fun x H' => x = fmX (trE strLt lkS l e m) ∧ H' = H := by
 have hrs := ((rgQ_eq e).1 hr).2
 have hlen := (sh_args hsh).1
 refine Spec.enter Tryz.func19 rfl ?_
 refine AW.wk (Wk.keep 103 [(0, .c (.a (.bp kp 0))), (1, .c (exC e)), (2, .c (iC m))] [] (H) rfl ⟨rfl, rfl, rfl, trivial⟩ trivial (fun _ _ h => h) rfl) ?_
 refine sR (Z20 (r := [_, _, _, _, _, _, _, _]) ?_)
 refine Z16 (r := [_, _, _, _, _, _, _, _, _, _, _]) Fx.ze39 ?_
 refine sB ?_
 refine AW.seq (sR (Z1 Fx.fl26_0 ?_))
 refine Z0 Fx.ty3 ?_
 refine Z7 (AW.block (AW.seqM (fun s => s = ⟨103, sp [(0, .c (.a (.bp kp 0))), (2, .c (iC m)), (4, .lp 4 0), (6, .lp 6 0), (7, .c (iC 0)), (14, .c (iC e.op)), (15, .c (bC (decide (e.op = 18 ∨ e.op = 19))))], lv [(4, .box (zEx e)), (6, .box [.t (.v (.int .i64 0)), .t (.v (.int .i64 0)), .t (.v (.int .i64 0)), .t (.v (.int .i64 0)), .t (.v (.int .i64 0)), .t (.v (.slice none 0 0)), .t (.v (.int .i64 0)), .t (.v (.int .i64 0)), .t (.v (.bool false)), .t (.v (.string ⟨#[]⟩)), .t (.v (.slice none 0 0))])], H⟩) ?_ ?_))
 ·
  refine sR (Z9 ?_)
  refine sB ?_
  refine cD ?_ ?_ <;> intro h15
  ·
   refine AW.skip ?_
   exact ⟨_, by exact Wk.keep 103 _ _ _ rfl ⟨rfl, rfl, rfl, rfl, rfl, rfl, bCe (by first | exact (decide_eq_true (by omega)).symm | exact (decide_eq_false (by omega)).symm | exact dcE (by omega)), trivial⟩ ⟨rfl, rfl, trivial⟩ (fun _ _ h => h) rfl, rfl⟩
  refine AW.reg (Z9 ?_)
  refine sB ?_
  exact ⟨_, by exact Wk.keep 103 _ _ _ rfl ⟨rfl, rfl, rfl, rfl, rfl, rfl, bCe (by first | exact (decide_eq_true (by omega)).symm | exact (decide_eq_false (by omega)).symm | exact dcE (by omega)), trivial⟩ ⟨rfl, rfl, trivial⟩ (fun _ _ h => h) rfl, rfl⟩
 rintro s rfl
 refine cD ?_ ?_ <;> intro h15
 ·
  refine sR (Z11 (zs := [_, _, _, _, _, _, _, _, _, _, _]) (r := [_, _, _, _, _, _, _, _, _, _, _]) [(0, 1), (1, 9), (10, 1)] Fx.ze39 Fx.bp39 ?_)
  refine Z47 18 XW.fmN ?_
  refine Z16 (r := [_, _, _, _, _, _, _, _, _, _, _]) Fx.ze39 ?_
  refine Z2 (r := [_, _, _, _, _, _, _, _, _, _, _]) Fx.ty39 ?_
  refine Z7 (AW.seqM (fun s => s = ⟨103, sp [(0, .c (.a (.bp kp 0))), (2, .c (iC m)), (4, .lp 4 0), (6, .lp 6 0), (7, .c (iC 0)), (8, .lp 8 0)], lv [(4, .box (zEx e)), (6, .box [.t (.v (.int .i64 0)), .t (.v (.int .i64 0)), .t (.v (.int .i64 0)), .t (.v (.int .i64 0)), .t (.v (.int .i64 0)), .t (.v (.slice none 0 0)), .t (.v (.int .i64 0)), .t (.v (.int .i64 0)), .t (.v (.bool false)), .t (.v (.string ⟨#[]⟩)), .t (.v (.slice none 0 0))]), (8, .box [.t (.v (.int .i64 K)), .t (.v (.int .i64 0)), .t (.v (.int .i64 0)), .t (.v (.int .i64 0)), .t (.v (.int .i64 0)), .t (.sl .un 5 []), .t (.v (.int .i64 0)), .t (.v (.int .i64 0)), .t (.v (.bool false)), .t (.v (.string ⟨#[]⟩)), .t (.v (.slice none 0 0))])], H⟩) ?_ ?_)
  ·
   refine AW.seq (AW.draw Fx.mo ?_)
   refine Z23 Fx.fl26_0 ?_
   refine Z18 Fx.ty3 ?_
   refine LexK.q (q_eql rfl rfl rfl) rfl rfl rfl ?_
   refine Z44 ?_
   refine Z45 Fx.fn37 (positive_any m) ?_
   refine LexK.q (q_neqB rfl Fx.un4 rfl rfl) rfl rfl rfl ?_
   refine Z48 ?_
   refine cD ?_ ?_ <;> intro h24
   ·
    have hKv : K = 1 := by rw [hK]; exact if_neg h24
    refine AW.reg (Z1 Fx.fl39_0 ?_)
    refine Z2 (r := [_, _, _, _, _, _, _, _, _, _, _]) Fx.ty3 ?_
    refine Z7 ?_
    exact ⟨_, by exact Wk.keep 103 _ _ _ rfl ⟨rfl, rfl, rfl, rfl, rfl, rfl, trivial⟩ ⟨rfl, rfl, (by rw [hKv]; rfl), trivial⟩ (fun _ _ h => h) rfl, rfl⟩
   have hKv : K = 0 := by rw [hK]; exact if_pos (Classical.not_not.1 h24)
   refine AW.skip ?_
   exact ⟨_, by exact Wk.keep 103 _ _ _ rfl ⟨rfl, rfl, rfl, rfl, rfl, rfl, trivial⟩ ⟨rfl, rfl, (by rw [hKv]; rfl), trivial⟩ (fun _ _ h => h) rfl, rfl⟩
  rintro s rfl
  refine AW.seq (sR (Z1 Fx.fl26_5 ?_))
  refine Z0 Fx.ty24 ?_
  refine Z22 Fx.un24 ?_
  refine sM ?_
  refine Z7 (AW.block ?_)
  refine AW.tipL 8 10 39 11 rfl rfl (fun k0 hk0 => ?_)
  refine AW.loop (fun (i : Nat) s => ∃ (kt : Nat) (zs : List (List E.T)) (outs : List Fm), (i ≤ e.args.length ∧ H kt = none ∧ outs.length = i ∧ zs = outs.map fmT' ∧ andR K ((e.args.drop i).map (trF l m)) outs = trE strLt lkS l e m) ∧ s = ⟨103, sp [(0, .c (.a (.bp kp 0))), (2, .c (iC m)), (4, .lp 4 0), (6, .lp 6 0), (7, .c (iC 0)), (8, .lp 8 0), (27, .c (.a (.t (.sl .un 8 (e.args.map exT'))))), (28, iX .i64 (((e.args.map exT').length : Nat) : Int)), (29, iX .i64 ((i : Nat) : Int))], lv [(4, .box (zEx e)), (6, .box [.t (.v (.int .i64 0)), .t (.v (.int .i64 0)), .t (.v (.int .i64 0)), .t (.v (.int .i64 0)), .t (.v (.int .i64 0)), .t (.v (.slice none 0 0)), .t (.v (.int .i64 0)), .t (.v (.int .i64 0)), .t (.v (.bool false)), .t (.v (.string ⟨#[]⟩)), .t (.v (.slice none 0 0))]), (8, .box [.t (.v (.int .i64 K)), .t (.v (.int .i64 0)), .t (.v (.int .i64 0)), .t (.v (.int .i64 0)), .t (.v (.int .i64 0)), .t (.sl .un 5 []), .t (.v (.int .i64 0)), .t (.v (.int .i64 0)), .t (.v (.bool false)), .t (.v (.string ⟨#[]⟩)), .ts kt .ne 11 zs])], upd H kt (some (.tip 39 11 zs.length))⟩) (fun i => e.args.length - i) 0 ⟨_, by exact Wk.keep 103 _ _ _ rfl ⟨rfl, rfl, rfl, rfl, rfl, rfl, rfl, rfl, rfl, trivial⟩ ⟨rfl, rfl, rfl, trivial⟩ (fun _ _ h => h) rfl, k0, [], [], ⟨Nat.zero_le _, hk0, rfl, rfl, by rw [hK]; exact tr_and (by omega)⟩, rfl⟩ (fun i s hs => ?_)
  obtain ⟨kt, zs, outs, ⟨hi0, hkt, hol, hzs, hI⟩, rfl⟩ := hs
  refine sR (Z30 ?_)
  refine Z7 (AW.seq ?_)
  refine cD ?_ ?_ <;> intro h30
  rotate_left
  ·
   refine AW.exit ?_
   refine eth_e ?_
   refine eth_e ?_
   refine exit_here ?_
   refine AW.seq ?_
   obtain rfl : i = e.args.length := by rw [List.length_map] at h30; omega
   refine AW.xwL 8 rfl (.cons XW.reA (.cons XW.reA (.cons XW.reA (.cons XW.reA (.cons XW.reA (.cons XW.reA (.cons XW.reA (.cons XW.reA (.cons XW.reA (.cons XW.reA (.cons (XW.ts.trans (XW.es hzs)) .nil))))))))))) ?_
   refine AW.reg (Z10 (r := .g [_, _, _, _, _, _, _, _, _, _, _]) Fx.ty39 ?_)
   refine Z2 (r := [_, _, _, _, _, _, _, _, _, _, _]) Fx.ty39 ?_
   refine sB ?_
   exact aR (fin_x (x := .tup [_, _]) (H) (.cellL rfl rfl Fx.ty39 rfl rfl (.tmp rfl .nil)) rfl ((fun j o h => upd_sub hkt j o h)) (⟨fmXe (f := (.mk K at0 outs, 0)) (an_end hI).symm, rfl⟩))
  have hi : i < e.args.length := by rw [List.length_map] at h30; omega
  refine AW.skip (AW.seq (AW.block (sR (Z24 Fx.sl24 (idx_ex hi) ?_))))
  refine Z28 (.g [_, _, _, _, _, _, _, _]) Fx.ty26 ?_
  refine Z16 (r := [_, _, _, _, _, _, _, _]) Fx.ze26 ?_
  refine Z2 (r := [_, _, _, _, _, _, _, _]) Fx.ty26 ?_
  refine Z7 (sR (sM ?_))
  refine Z10 (r := .g [_, _, _, _, _, _, _, _]) Fx.ty26 ?_
  refine sM ?_
  refine SeqK.r (g_call rfl Fx.fn19 rfl (ih (by omega) _ (List.getElem_mem hi) m hm _ (upd_sub hkt _ _ hp)) rfl rfl rfl) rfl ?_
  refine Z39 ?_
  refine Z6 ?_
  refine Z6 ?_
  refine Z16 (r := [_, _, _, _, _, _, _, _, _, _, _]) Fx.ze39 ?_
  refine Z2 (r := [_, _, _, _, _, _, _, _, _, _, _]) Fx.ty39 ?_
  refine sB ?_
  refine AW.seq (sR (sM ?_))
  refine Z26 ?_
  refine Z7 ?_
  refine cD ?_ ?_ <;> intro h41
  ·
   refine sR (Z11 (zs := [_, _, _, _, _, _, _, _, _, _, _]) (r := [_, _, _, _, _, _, _, _, _, _, _]) [(0, 1), (1, 9), (10, 1)] Fx.ze39 Fx.bp39 ?_)
   refine Z47 42 XW.fmN ?_
   refine Z47 42 XW.fmA ?_
   refine sM ?_
   refine Z2 (r := [_, _, _, _, _, _, _, _, _, _, _]) Fx.ty39 ?_
   refine sB ?_
   exact aR (fin_x (x := .tup [_, _]) (H) (.cellL rfl rfl Fx.ty39 rfl rfl (.tmp rfl .nil)) rfl ((fun j o h => upd_sub hkt j o h)) (⟨fmXe (f := (fm0, ((trF l m) e.args[i]).2)) (an_err hi hI h41).symm, rfl⟩))
  have hz0 : ((trF l m) e.args[i]).2 = 0 := Classical.not_not.1 h41
  refine AW.skip (AW.reg (Z1 Fx.fl39_2 ?_))
  refine Z0 Fx.ty37 ?_
  refine Z10 (r := .g [_, _, _, _, _, _, _, _, _, _, _]) Fx.ty39 ?_
  refine Z27 Fx.el37 ?_
  refine SeqK.app1 rfl (hkt) rfl Fx.el37 rfl rfl (by simp [hzs]; omega) rfl rfl (fun k48 hk48 => ?_)
  refine Z1 Fx.fl39_2 ?_
  refine Z2 (r := [_, _, _, _, _, _, _, _, _, _, _]) Fx.ty37 ?_
  refine Z7 (AW.reg (Z13 ?_))
  refine sM ?_
  refine Z7 ?_
  exact ⟨i + 1, _, by exact Wk.keep 103 _ _ _ rfl ⟨rfl, rfl, rfl, rfl, rfl, rfl, rfl, rfl, rfl, trivial⟩ ⟨rfl, rfl, rfl, trivial⟩ (fun _ _ h => h) rfl, by omega, k48, zs ++ [fmL ((trF l m) e.args[i]).1], outs ++ [((trF l m) e.args[i]).1], ⟨hi, hk48, by simp [hol], fm_put1 hzs, an_ok hi hI hz0⟩, rfl⟩
 refine sR (Z9 ?_)
 refine sB ?_
 refine cD ?_ ?_ <;> intro h52
 ·
  refine AW.seq ?_
  have h01 : 0 < e.args.length := hcd.one (.inl h52)
  refine AW.draw Fx.mo ?_
  refine Z44 ?_
  refine Z23 Fx.fl26_5 ?_
  refine Z18 Fx.ty24 ?_
  refine Z29 Fx.sl24 (idx_ex h01) ?_
  refine Z32 (.g [_, _, _, _, _, _, _, _]) Fx.ty26 ?_
  refine Z44 ?_
  refine Z45 Fx.fn38 (negated_any m hm) ?_
  refine LexK.r (g_call rfl Fx.fn19 rfl (ih (.inr (.inr h52)) _ (List.getElem_mem h01) (ngM m) (ng_rng hm) H hp) rfl rfl rfl) rfl ?_
  refine LexK.q (q_extract _ rfl rfl rfl) rfl rfl rfl ?_
  refine LexK.q (q_extract _ rfl rfl rfl) rfl rfl rfl ?_
  refine Z40 (r := [_, _, _, _, _, _, _, _, _, _, _]) Fx.ty39 ?_
  refine Z52 ?_
  refine Z48 ?_
  exact aR (f2 (.cellL rfl rfl Fx.ty39 rfl rfl (.tmp rfl .nil)) (⟨fmXe (tr_not h52 h01), rfl⟩))
 refine sR (Z9 ?_)
 refine sB ?_
 refine cD ?_ ?_ <;> intro h64
 rotate_left
 ·
  refine sR (Z9 ?_)
  refine sB ?_
  refine cD ?_ ?_ <;> intro h92
  ·
   refine sR (sM ?_)
   refine Z12 Fx.fn44 (weak_any m) ?_
   refine Z12 Fx.fn40 (constant_any _) ?_
   refine Z2 (r := [_, _, _, _, _, _, _, _, _, _, _]) Fx.ty39 ?_
   refine sB ?_
   exact aR (f2 (.cellL rfl rfl Fx.ty39 rfl rfl (.tmp rfl .nil)) (⟨fmXe (f := (cst (wkM m), 0)) (tr_lit h92), rfl⟩))
  refine AW.skip (AW.seq ?_)
  have h12 : 1 < e.args.length := hcd.cmp (by omega) h52 h64
  have h01 : 0 < e.args.length := by omega
  refine AW.reg (sM ?_)
  refine Z10 (r := .g [_, _, _, _, _, _, _, _]) Fx.ty26 ?_
  refine sM ?_
  refine SeqK.r (g_call rfl Fx.fn45 rfl (comp_of H kp l z hp hL e m _ h01 h12 rfl hr (sh_crs hsh) (okE_sh _ 12 (rgQ_E _ (hrs _ (List.getElem_mem h01))) (shK hsh (List.getElem_mem h01)) (by decide)) (okE_sh _ 12 (rgQ_E _ (hrs _ (List.getElem_mem h12))) (shK hsh (List.getElem_mem h12)) (by decide)) (gd_sh (shK hsh (List.getElem_mem h01)) (by decide)) (gd_sh (shK hsh (List.getElem_mem h12)) (by decide)) (by have := ((rgQ_eq _).1 (hrs _ (List.getElem_mem h01))).1.2.2.1; omega) fun h16 => hcd.lk h16 h12) rfl rfl rfl) rfl ?_
  refine Z6 ?_
  refine Z6 ?_
  refine Z2 (r := [_, _, _, _, _, _, _, _, _, _, _]) Fx.ty39 ?_
  refine sB ?_
  exact aR (f2 (.cellL rfl rfl Fx.ty39 rfl rfl (.tmp rfl .nil)) (⟨fmXe (tr_cmp (by omega) h52 h64 h92), rfl⟩))
 refine AW.seq (AW.seq ?_)
 have h01 : 0 < e.args.length := hcd.one (by omega)
 have hc1 : (colRs [e.args[0]]).length ≤ 100000 := sh_one (shK hsh (List.getElem_mem h01))
 have hcc : (colsL [e.args[0]]).length ≤ 100000 := Nat.le_trans (dd_len _) hc1
 refine AW.reg (Z1 Fx.fl26_5 ?_)
 refine Z0 Fx.ty24 ?_
 refine Z24 Fx.sl24 (idx_ex h01) ?_
 refine Z28 (.g [_, _, _, _, _, _, _, _]) Fx.ty26 ?_
 refine Z12 Fx.fn39 (lit_any e.args[0] (rgQ_E _ (hrs _ (List.getElem_mem h01)))) ?_
 refine Z7 ?_
 refine AW.cond _ rfl (fun h70 => ?_) (fun h70 => ?_)
 ·
  refine sR (sM ?_)
  refine Z12 Fx.fn37 (positive_any m) ?_
  refine Z12 Fx.fn40 (constant_any _) ?_
  refine Z2 (r := [_, _, _, _, _, _, _, _, _, _, _]) Fx.ty39 ?_
  refine sB ?_
  exact aR (f2 (.cellL rfl rfl Fx.ty39 rfl rfl (.tmp rfl .nil)) (⟨fmXe (f := (cst (poM m), 0)) (by rw [← tr_isn h64 h01, isn_1 h70]), rfl⟩))
 refine AW.skip (AW.seq (sR (sM ?_)))
 refine Z12 Fx.fn37 (positive_any m) ?_
 refine Z7 ?_
 refine AW.cond _ rfl (fun h75 => ?_) (fun h75 => ?_)
 ·
  refine sR (Z1 Fx.fl26_5 ?_)
  refine Z0 Fx.ty24 ?_
  refine Z24 Fx.sl24 (idx_ex h01) ?_
  refine Z28 (.g [_, _, _, _, _, _, _, _]) Fx.ty26 ?_
  refine Z27 Fx.el24 ?_
  refine SeqK.xw 80 rfl (XW.es (show _ = [e.args[0]].map exT' by rw [List.map_singleton, exT_eq])) ?_
  refine SeqK.q (q_call _ rfl Fx.fn43 rfl (cols_any [e.args[0]] .un (by simp) (fun a ha => by rw [List.mem_singleton.1 ha]; exact rgQ_E _ (hrs _ (List.getElem_mem h01))) hc1) rfl) rfl rfl rfl ?_
  refine SeqK.q (q_call _ rfl Fx.fn42 rfl (nulls_any _ (colsL [e.args[0]]) .un (by omega)) rfl) rfl rfl rfl ?_
  refine SeqK.q (q_call _ rfl Fx.fn41 rfl (list_any _ _ .un (by simp; omega)) rfl) rfl rfl rfl ?_
  refine Z2 (r := [_, _, _, _, _, _, _, _, _, _, _]) Fx.ty39 ?_
  refine sB ?_
  exact aR (f2 (.cellL rfl rfl Fx.ty39 rfl rfl (.tmp rfl .nil)) (⟨fmXe (f := (lsF 1 (nlsF 0 (colsL [e.args[0]])), 0)) (by rw [← tr_isn h64 h01, isn_2 h70 h75]), rfl⟩))
 refine AW.skip (sR (Z1 Fx.fl26_5 ?_))
 refine Z0 Fx.ty24 ?_
 refine Z24 Fx.sl24 (idx_ex h01) ?_
 refine Z28 (.g [_, _, _, _, _, _, _, _]) Fx.ty26 ?_
 refine Z27 Fx.el24 ?_
 refine SeqK.xw 88 rfl (XW.es (show _ = [e.args[0]].map exT' by rw [List.map_singleton, exT_eq])) ?_
 refine SeqK.q (q_call _ rfl Fx.fn43 rfl (cols_any [e.args[0]] .un (by simp) (fun a ha => by rw [List.mem_singleton.1 ha]; exact rgQ_E _ (hrs _ (List.getElem_mem h01))) hc1) rfl) rfl rfl rfl ?_
 refine SeqK.q (q_call _ rfl Fx.fn42 rfl (nulls_any _ (colsL [e.args[0]]) .un (by omega)) rfl) rfl rfl rfl ?_
 refine SeqK.q (q_call _ rfl Fx.fn41 rfl (list_any _ _ .un (by simp; omega)) rfl) rfl rfl rfl ?_
 refine Z2 (r := [_, _, _, _, _, _, _, _, _, _, _]) Fx.ty39 ?_
 refine sB ?_
 exact aR (f2 (.cellL rfl rfl Fx.ty39 rfl rfl (.tmp rfl .nil)) (⟨fmXe (f := (lsF 0 (nlsF 1 (colsL [e.args[0]])), 0)) (by rw [← tr_isn h64 h01, isn_3 h70 h75]), rfl⟩))
theorem trans_any (kp : Nat) (l : List Vr) (z : Nz) (hL : l.length ≤ 17592186044000) (e : Ex) : rgQ e → shP 13 e → Cd l e → ∀ m : Int, 0 ≤ m ∧ m < 4 → ∀ H : Heap, H kp = some (.box [.t (.sl z 5 (l.map vrT))]) → E.Spec Tryz.prog 19 [.a (.bp kp 0), exC e, iC m] H fun x H' => x = fmX (trE strLt lkS l e m) ∧ H' = H := by
  induction e using Ex.ind with
  | h e ih =>
    intro hr hsh hc m hm H hp
    have hcd := cd_facts hc
    refine trans_of H kp l z hp hL e m hm _ rfl hr hsh hcd fun hop a ha m hm H hp => ih a ha (((rgQ_eq e).1 hr).2 a ha) (sh_up (shK hsh ha)) ?_ m hm H hp
    by_cases h : e.op = 18 ∨ e.op = 19
    · exact hcd.two h a ha
    · exact hcd.sub (by omega) a ha
theorem when_true (e : Ex) (l : List Vr) (z : Nz) (hL : l.length ≤ 17592186044000) (hr : rgQ e) (hsh : shP 13 e) (hc : Cd l e) : Pure Tryz.prog 7 [exC e, vsC z l] (fmX (trE strLt lkS l e 0)) := by
 intro H
 refine Spec.enter Tryz.func7 rfl ?_
 refine AW.wk (Wk.keep 13 [(0, .c (exC e)), (1, .c (vsC z l))] [] (H) rfl ⟨rfl, rfl, trivial⟩ trivial (fun _ _ h => h) rfl) ?_
 refine sR (Z20 (r := [_, _, _, _, _, _, _, _]) ?_)
 refine Z16 (r := [_, _, _, _, _, _, _, _, _, _, _]) Fx.ze39 ?_
 refine sB ?_
 refine sR (sM ?_)
 refine Z11 (zs := [_]) (r := [_]) [(0, 1)] Fx.ze57 Fx.bp57 ?_
 refine SeqK.newBox (r := [_]) rfl rfl rfl rfl rfl rfl (fun k8 hk8 => ?_)
 refine Z10 (r := .g [_, _, _, _, _, _, _, _]) Fx.ty26 ?_
 refine SeqK.r (g_call rfl Fx.fn19 rfl (trans_any k8 l z hL e hr hsh hc 0 (by decide) _ (upd_same _ _ _)) rfl rfl rfl) rfl ?_
 refine Z6 ?_
 refine Z6 ?_
 refine Z2 (r := [_, _, _, _, _, _, _, _, _, _, _]) Fx.ty39 ?_
 refine sB ?_
 exact aR (fin_x (x := .tup [_, _]) (H) (.cellL rfl rfl Fx.ty39 rfl rfl (.tmp rfl .nil)) rfl ((fun j o h => upd_sub hk8 j o h)) (⟨rfl, rfl⟩))
theorem when_false (e : Ex) (l : List Vr) (z : Nz) (hL : l.length ≤ 17592186044000) (hr : rgQ e) (hsh : shP 13 e) (hc : Cd l e) : Pure Tryz.prog 8 [exC e, vsC z l] (fmX (trE strLt lkS l e 1)) := by
 intro H
 refine Spec.enter Tryz.func8 rfl ?_
 refine AW.wk (Wk.keep 13 [(0, .c (exC e)), (1, .c (vsC z l))] [] (H) rfl ⟨rfl, rfl, trivial⟩ trivial (fun _ _ h => h) rfl) ?_
 refine sR (Z20 (r := [_, _, _, _, _, _, _, _]) ?_)
 refine Z16 (r := [_, _, _, _, _, _, _, _, _, _, _]) Fx.ze39 ?_
 refine sB ?_
 refine sR (sM ?_)
 refine Z11 (zs := [_]) (r := [_]) [(0, 1)] Fx.ze57 Fx.bp57 ?_
 refine SeqK.newBox (r := [_]) rfl rfl rfl rfl rfl rfl (fun k8 hk8 => ?_)
 refine Z10 (r := .g [_, _, _, _, _, _, _, _]) Fx.ty26 ?_
 refine SeqK.r (g_call rfl Fx.fn19 rfl (trans_any k8 l z hL e hr hsh hc 1 (by decide) _ (upd_same _ _ _)) rfl rfl rfl) rfl ?_
 refine Z6 ?_
 refine Z6 ?_
 refine Z2 (r := [_, _, _, _, _, _, _, _, _, _, _]) Fx.ty39 ?_
 refine sB ?_
 exact aR (fin_x (x := .tup [_, _]) (H) (.cellL rfl rfl Fx.ty39 rfl rfl (.tmp rfl .nil)) rfl ((fun j o h => upd_sub hk8 j o h)) (⟨rfl, rfl⟩))
theorem when_notFalse (e : Ex) (l : List Vr) (z : Nz) (hL : l.length ≤ 17592186044000) (hr : rgQ e) (hsh : shP 13 e) (hc : Cd l e) : Pure Tryz.prog 9 [exC e, vsC z l] (fmX (trE strLt lkS l e 2)) := by
 intro H
 refine Spec.enter Tryz.func9 rfl ?_
 refine AW.wk (Wk.keep 13 [(0, .c (exC e)), (1, .c (vsC z l))] [] (H) rfl ⟨rfl, rfl, trivial⟩ trivial (fun _ _ h => h) rfl) ?_
 refine sR (Z20 (r := [_, _, _, _, _, _, _, _]) ?_)
 refine Z16 (r := [_, _, _, _, _, _, _, _, _, _, _]) Fx.ze39 ?_
 refine sB ?_
 refine sR (sM ?_)
 refine Z11 (zs := [_]) (r := [_]) [(0, 1)] Fx.ze57 Fx.bp57 ?_
 refine SeqK.newBox (r := [_]) rfl rfl rfl rfl rfl rfl (fun k8 hk8 => ?_)
 refine Z10 (r := .g [_, _, _, _, _, _, _, _]) Fx.ty26 ?_
 refine SeqK.r (g_call rfl Fx.fn19 rfl (trans_any k8 l z hL e hr hsh hc 2 (by decide) _ (upd_same _ _ _)) rfl rfl rfl) rfl ?_
 refine Z6 ?_
 refine Z6 ?_
 refine Z2 (r := [_, _, _, _, _, _, _, _, _, _, _]) Fx.ty39 ?_
 refine sB ?_
 exact aR (fin_x (x := .tup [_, _]) (H) (.cellL rfl rfl Fx.ty39 rfl rfl (.tmp rfl .nil)) rfl ((fun j o h => upd_sub hk8 j o h)) (⟨rfl, rfl⟩))
theorem part34_0 (x0 : Int) (x1 : Int) (x2 : Bool) (x3 : ByteArray) (w : World) : (part 3 #[.int .i64 x0, .int .i64 x1, .bool x2, .string x3] 0).run Tryz.prog w = .ok (.int .i64 x0) w := by kernel_rfl
theorem part34_1 (x0 : Int) (x1 : Int) (x2 : Bool) (x3 : ByteArray) (w : World) : (part 3 #[.int .i64 x0, .int .i64 x1, .bool x2, .string x3] 1).run Tryz.prog w = .ok (.int .i64 x1) w := by kernel_rfl
theorem part34_2 (x0 : Int) (x1 : Int) (x2 : Bool) (x3 : ByteArray) (w : World) : (part 4 #[.int .i64 x0, .int .i64 x1, .bool x2, .string x3] 2).run Tryz.prog w = .ok (.bool x2) w := by kernel_rfl
theorem part34_3 (x0 : Int) (x1 : Int) (x2 : Bool) (x3 : ByteArray) (w : World) : (part 9 #[.int .i64 x0, .int .i64 x1, .bool x2, .string x3] 3).run Tryz.prog w = .ok (.string x3) w := by kernel_rfl
theorem eq34 (x0 : Int) (x1 : Int) (x2 : Bool) (x3 : ByteArray) (y0 : Int) (y1 : Int) (y2 : Bool) (y3 : ByteArray) (w : World) : (Op.equalIn 10000 34 (.agg #[.int .i64 x0, .int .i64 x1, .bool x2, .string x3]) (.agg #[.int .i64 y0, .int .i64 y1, .bool y2, .string y3])).run Tryz.prog w = .ok (decide (x0 = y0) && decide (x1 = y1) && decide (x2 = y2) && decide (x3 = y3)) w := by
  have e3 : ∀ (a b : Int), (Op.equalIn 9999 3 (.int .i64 a) (.int .i64 b)).run Tryz.prog w = .ok (a == b) w := fun a b => run_equalIn_int w 9998 3 .i64 .i64 _ _ Tryz.underlying3
  have e4 : ∀ (a b : Bool), (Op.equalIn 9999 4 (.bool a) (.bool b)).run Tryz.prog w = .ok (a == b) w := fun a b => run_equalIn_bool' w 9998 4 _ _ Tryz.underlying4
  have e9 : ∀ (a b : ByteArray), (Op.equalIn 9999 9 (.string a) (.string b)).run Tryz.prog w = .ok (a.toList == b.toList) w := fun a b => run_equalIn_string w 9998 9 _ _ Tryz.underlying9
  rw [show (10000 : Nat) = 9999 + 1 from rfl, run_equalIn_agg w 9999 34 _ _ (by kernel_rfl) (by kernel_rfl)]
  simp only [Program.fieldsOf, Tryz.underlying34, Op.eqFields, Sem.run_bind, part34_0, part34_1, part34_2, part34_3, e3, e4, e9, Result.andThen_ok, eqI, eqBt, eqBo]
  by_cases h0 : x0 = y0 <;> by_cases h1 : x1 = y1 <;> by_cases h2 : x2 = y2 <;> by_cases h3 : x3 = y3 <;> simp [Sem.run_bind, part34_0, part34_1, part34_2, part34_3, e3, e4, e9, Result.andThen_ok, Result.andThen, eqI, eqBt, eqBo, h0, h1, h2, h3]
theorem bt {b : Bool} (h : b = true) : X.c (bC b) = .c (bC true) := by rw [h]
theorem av01 {l : List Vr} {a : At} (hk : a.k = 0 ∨ a.k = 1) (h : avP l a) : (0 ≤ a.v ∧ a.v < l.length) ∧ a.o = 0 ∧ zrT a.t ∧ zrS a := by rw [avP, if_pos hk] at h; exact h
theorem av234 {l : List Vr} {a : At} (hk : a.k = 2 ∨ a.k = 3 ∨ a.k = 4) (h : avP l a) : a.v = 0 ∧ a.o = 0 ∧ zrS a ∧ vldT a.t = true ∧ tyT l a.t = true := by rw [avP, if_neg (by omega), if_pos hk] at h; exact h
theorem av5 {l : List Vr} {a : At} (hk : a.k = 5) (h : avP l a) : htB l a.v 2 = true ∧ a.o = 0 ∧ zrT a.t ∧ (0 ≤ a.tk ∧ a.tk ≤ 3) ∧ a.tv = 0 ∧ vtX a.ts := by rw [avP, if_neg (by omega), if_neg (by omega), if_pos hk] at h; exact h
theorem av67 {l : List Vr} {a : At} (hk : a.k = 6 ∨ a.k = 7) (h : avP l a) : htB l a.v 2 = true ∧ htB l a.o 2 = true ∧ a.v < a.o ∧ zrT a.t ∧ zrS a := by rw [avP, if_neg (by omega), if_neg (by omega), if_neg (by omega), if_pos hk] at h; exact h
theorem av_no {l : List Vr} {a : At} (h0 : ¬ (a.k = 0 ∨ a.k = 1)) (h1 : ¬ (a.k = 2 ∨ a.k = 3 ∨ a.k = 4)) (h2 : ¬ a.k = 5) (h3 : ¬ (a.k = 6 ∨ a.k = 7)) (h : avP l a) : False := by rw [avP, if_neg h0, if_neg h1, if_neg h2, if_neg h3] at h; exact h
theorem Fm.ind {M : Fm → Prop} (h : ∀ f, (∀ g ∈ f.args, M g) → M f) : ∀ f, M f
  | .mk k a args => h _ fun g hg => Fm.ind h g
termination_by f => SizeOf.sizeOf f
decreasing_by
  have h1 := List.sizeOf_lt_of_mem (show g ∈ args from hg)
  simp; omega
mutual
def fcB : Fm → Bool
  | .mk _ a args => (decide (a.t.cnt ≤ 100000) && decide (args.length ≤ 1000000)) && fcS args
def fcS : List Fm → Bool
  | [] => true
  | f :: r => fcB f && fcS r
end
theorem fcS_all : ∀ fs, fcS fs = fs.all fcB
  | [] => by rw [fcS]; rfl
  | f :: r => by rw [fcS, fcS_all r, List.all_cons]
theorem fcB_iff (f : Fm) : fcB f = true ↔ (f.fa.t.cnt ≤ 100000 ∧ f.args.length ≤ 1000000) ∧ ∀ g ∈ f.args, fcB g = true := by
  cases f; rw [fcB, fcS_all, Bool.and_eq_true, Bool.and_eq_true, decide_eq_true_eq, decide_eq_true_eq, List.all_eq_true]
theorem at0_cnt : at0.t.cnt ≤ 100000 := by decide
theorem fc_mk {k : Int} {fs : List Fm} (hl : fs.length ≤ 1000000) (h : ∀ g ∈ fs, fcB g = true) : fcB (.mk k at0 fs) = true := (fcB_iff _).2 ⟨⟨at0_cnt, hl⟩, h⟩
theorem fc_cst (b : Bool) : fcB (cst b) = true := fc_mk (by simp) (by simp)
theorem fc_at {a : At} (h : a.t.cnt ≤ 100000) : fcB (atF a) = true := (fcB_iff _).2 ⟨⟨h, by simp⟩, by simp⟩
theorem fc_ls {k : Int} {fs : List Fm} (hl : fs.length ≤ 1000000) (h : ∀ g ∈ fs, fcB g = true) : fcB (lsF k fs) = true := by
  by_cases h1 : fs.length = 1
  · rw [lsF_one h1 (by omega)]; exact h _ (List.getElem_mem _)
  · rw [lsF_ne h1]; exact fc_mk hl h
theorem fc_nls {k : Int} {vs : List Int} : ∀ f ∈ nlsF k vs, fcB f = true := fun f hf => by
  obtain ⟨v, _, rfl⟩ := List.mem_map.1 hf; exact fc_at (show tm0.cnt ≤ 100000 by decide)
theorem fc_app {xs : List Fm} {a : At} (h : ∀ f ∈ xs, fcB f = true) (ha : a.t.cnt ≤ 100000) : ∀ f ∈ xs ++ [atF a], fcB f = true := fun f hf => by
  rcases List.mem_append.1 hf with hf | hf
  · exact h f hf
  · rw [List.mem_singleton.1 hf]; exact fc_at ha
theorem fc_cmb {p : PR} {vs : List Int} {m : Int} (hv : vs.length ≤ 100000) (hp : p.a.t.cnt ≤ 100000) : fcB (cmbP p vs m) = true := by
  have hf : (vs.filter fun v => !decide (v ∈ vaA p.a)).length ≤ 100000 := Nat.le_trans (List.length_filter_le _ _) hv
  cases hm : wkM m with
  | true =>
    cases h1 : p.kn with
    | true => cases h2 : p.vl with
      | true => rw [cmb_w1 hm h1 h2]; exact fc_cst _
      | false => rw [cmb_w2 hm h1 h2]; exact fc_ls (by simp; omega) fc_nls
    | false => rw [cmb_w3 hm h1]; exact fc_ls (by simp; omega) (fc_app fc_nls hp)
  | false =>
    cases h1 : p.kn with
    | true => cases h2 : p.vl with
      | true => rw [cmb_s2 hm h1 h2]; exact fc_ls (by simp; omega) fc_nls
      | false => rw [cmb_s1 hm h1 h2]; exact fc_cst _
    | false => rw [cmb_s3 hm h1]; exact fc_ls (by simp; omega) (fc_app fc_nls hp)
theorem fc_0 : fcB fm0 = true := fc_mk (by simp) (by simp)
theorem fc_and {k : Int} : ∀ (rs : List (Fm × Int)) (out : List Fm), rs.length + out.length ≤ 1000000 → (∀ r ∈ rs, fcB r.1 = true) → (∀ f ∈ out, fcB f = true) → fcB (andR k rs out).1 = true
  | [], out, hl, _, ho => by rw [andR]; exact fc_mk (by simp at hl; omega) ho
  | r :: rs, out, hl, hr, ho => by
    rw [andR]
    split
    · exact fc_0
    · exact fc_and rs (out ++ [r.1]) (by simp at hl ⊢; omega) (fun x hx => hr x (List.mem_cons_of_mem _ hx)) fun f hf => by
        rcases List.mem_append.1 hf with hf | hf
        · exact ho f hf
        · rw [List.mem_singleton.1 hf]; exact hr r (by simp)
theorem sh_ex0 : shP 12 ex0 := ⟨by simp, by simp⟩
theorem sh_gd {e : Ex} (h : shP 12 e) (i : Nat) : shP 12 (e.args.getD i ex0) := by
  rw [List.getD_eq_getElem?_getD]
  cases hi : e.args[i]? with
  | none => exact sh_ex0
  | some a => exact shK (sh_up h) (List.mem_of_getElem? hi)
theorem tr_cnt (l : List Vr) (e : Ex) : shP 12 e → ∀ m, fcB (trE strLt lkS l e m).1 = true := by
  induction e using Ex.ind with
  | h e ih =>
    intro hsh m
    have hlen := (sh_args hsh).1
    have hcl := sh_crs (sh_up hsh)
    rw [trE_eq, stepT]
    split
    · refine fc_and _ _ (by simp; omega) (fun r hr => ?_) (by simp)
      rw [rs_map] at hr
      obtain ⟨a, ha, rfl⟩ := List.mem_map.1 hr
      exact ih a ha (shK (sh_up hsh) ha) m
    · split
      · rw [List.getD_eq_getElem?_getD, List.getElem?_map]
        cases h0 : e.args[0]? with
        | none => exact fc_0
        | some a => exact ih a (List.mem_of_getElem? h0) (shK (sh_up hsh) (List.mem_of_getElem? h0)) _
      · split
        · have h1 := sh_one (sh_gd hsh 0)
          have h2 : (colsL [e.args.getD 0 ex0]).length ≤ 100000 := Nat.le_trans (dd_len _) h1
          show fcB (isN (e.args.getD 0 ex0) m) = true
          unfold isN
          split
          · exact fc_cst _
          · split
            · exact fc_ls (by simp only [nlsF, List.length_map]; omega) fc_nls
            · exact fc_ls (by simp only [nlsF, List.length_map]; omega) fc_nls
        · split
          · exact fc_cst _
          · unfold cmpF
            split
            · exact fc_cst _
            · have hp := prt_pok (l := l) (op := e.op) (m := m) (gd_sh (sh_gd hsh 0) (by decide)) (gd_sh (sh_gd hsh 1) (by decide))
              dsimp only
              split
              · exact fc_0
              · exact fc_cmb (Nat.le_trans (dd_len _) hcl) hp.2
theorem fv_2 {l : List Vr} {f : Fm} (h : fvB l f = true) (hk : f.kind = 2) : f.args.length = 0 ∧ avP l f.fa := by rw [fvB_eq, if_pos hk] at h; exact of_decide_eq_true h
theorem fv_01 {l : List Vr} {f : Fm} (h : fvB l f = true) (hk : f.kind = 0 ∨ f.kind = 1) : emA f.fa ∧ ∀ g ∈ f.args, fvB l g = true := by
  rw [fvB_eq, if_neg (by omega), if_pos hk, Bool.and_eq_true, List.all_eq_true] at h; exact ⟨of_decide_eq_true h.1, h.2⟩
theorem fv_no {l : List Vr} {f : Fm} (h : fvB l f = true) (h2 : ¬ f.kind = 2) (hk : ¬ (f.kind = 0 ∨ f.kind = 1)) : False := by
  rw [fvB_eq, if_neg h2, if_neg hk] at h; cases h
abbrev two : List Vr := [⟨1, 0, 9, 0, true⟩, ⟨1, 0, 9, 0, true⟩]
abbrev T1 : Tm := ⟨1, [⟨1, 0, 0, 0, []⟩, ⟨-1, 0, 1, 0, []⟩]⟩
abbrev T2 : Tm := ⟨0, [⟨-1, 0, 0, 0, []⟩, ⟨1, 0, 1, 0, []⟩]⟩
abbrev e1 : Ex := eB 12 [eV 0, eV 1]
abbrev e2 : Ex := eB 12 [eB 5 [eV 0, eV 0], eN 1]
abbrev nA (k v : Int) : At := ⟨k, v, 0, tm0, 0, 0, false, ⟨#[]⟩⟩
theorem s01 : sI [0, 1] := by simp [sI]
theorem col1 : colsL e1.args = [0, 1] := dd_self s01
theorem va1 : vaA (atI 2 T1) = [0, 1] := dd_self s01
theorem va2 : vaA (atI 2 T2) = [0, 1] := dd_self s01
theorem col2 : colsL e2.args = [0] := (dd_eq (l := [0, 0]) (m := [0]) (by simp [sI]) (by simp)).symm
theorem prt0 : prtP strLt lkS two 12 (eV 0) (eV 1) 0 = (atP (atI 2 T1), 0) := by kernel_rfl
theorem prt1 : prtP strLt lkS two 12 (eV 0) (eV 1) 1 = (atP (atI 2 T2), 0) := by kernel_rfl
theorem prt2 : prtP strLt lkS two 12 (eV 0) (eV 1) 2 = (atP (atI 2 T1), 0) := by kernel_rfl
theorem prt3 : prtP strLt lkS two 12 (eB 5 [eV 0, eV 0]) (eN 1) 0 = (dcd true, 0) := by kernel_rfl
theorem nul1 : nulB e1 = false := by decide +kernel
theorem nul2' : nulB e2 = false := by decide +kernel
theorem tr0 : trE strLt lkS two e1 0 = (atF (atI 2 T1), 0) := by
  rw [← tr_cmp (by decide) (by decide) (by decide) (by decide), cmp_fin nul1 prt0 rfl, cmb_s3 (by decide) rfl, col1, va1]; rfl
theorem tr1 : trE strLt lkS two e1 1 = (atF (atI 2 T2), 0) := by
  rw [← tr_cmp (by decide) (by decide) (by decide) (by decide), cmp_fin nul1 prt1 rfl, cmb_s3 (by decide) rfl, col1, va2]; rfl
theorem tr2 : trE strLt lkS two e1 2 = (.mk 1 at0 [atF (nA 0 0), atF (nA 0 1), atF (atI 2 T1)], 0) := by
  rw [← tr_cmp (by decide) (by decide) (by decide) (by decide), cmp_fin nul1 prt2 rfl, cmb_w3 (by decide) rfl, col1]; rfl
theorem tr3 : trE strLt lkS two e2 0 = (atF (nA 1 0), 0) := by
  rw [← tr_cmp (by decide) (by decide) (by decide) (by decide), cmp_fin nul2' prt3 rfl, cmb_s2 (by decide) rfl rfl, col2]; rfl
theorem sh_lf {d : Nat} {e : Ex} (h : e.args = []) : shP (d + 1) e := ⟨by rw [h]; simp, by rw [h]; simp⟩
theorem sh_e1 : shP 12 e1 := ⟨by simp, fun a ha => by simp at ha; rcases ha with rfl | rfl <;> exact sh_lf rfl⟩
theorem sh_e2 : shP 12 e2 := ⟨by simp, fun a ha => by
  simp at ha; rcases ha with rfl | rfl
  · exact ⟨by simp, fun a ha => by simp at ha; subst ha; exact sh_lf rfl⟩
  · exact sh_lf rfl⟩
theorem rq_e1 : rgQ e1 := by
  simp only [e1, eB, eV, rgQ, rgQs]
  decide +kernel
theorem rq_e2 : rgQ e2 := by
  simp only [e2, eB, eV, eN, rgQ, rgQs]
  decide +kernel
theorem od_v {i : Int} (h : i = 0 ∨ i = 1) : OpdP two (eV i) := by
  rcases h with rfl | rfl
  · exact .int (by decide +kernel) (fun _ => by kernel_rfl)
  · exact .int (by decide +kernel) (fun _ => by kernel_rfl)
theorem cd_e1 : Cd two e1 := .cmp e1 (eV 0) (eV 1) (by decide) rfl (od_v (.inl rfl)) (od_v (.inr rfl)) (.inl ⟨by decide, by decide⟩)
theorem cd_e2 : Cd two e2 := .cmp e2 (eB 5 [eV 0, eV 0]) (eN 1) (by decide) rfl (.int (by decide +kernel) (fun _ => by kernel_rfl)) (.int (by decide +kernel) (fun _ => by kernel_rfl)) (.inl ⟨by decide, by decide⟩)
theorem w0 (z : Nz) : Pure Tryz.prog 7 [exC e1, vsC z two] (fmX (atF (atI 2 T1), 0)) := by rw [← tr0]; exact when_true e1 two z (by decide) rq_e1 (sh_up sh_e1) cd_e1
theorem w1 (z : Nz) : Pure Tryz.prog 8 [exC e1, vsC z two] (fmX (atF (atI 2 T2), 0)) := by rw [← tr1]; exact when_false e1 two z (by decide) rq_e1 (sh_up sh_e1) cd_e1
theorem w2 (z : Nz) : Pure Tryz.prog 9 [exC e1, vsC z two] (fmX (.mk 1 at0 [atF (nA 0 0), atF (nA 0 1), atF (atI 2 T1)], 0)) := by rw [← tr2]; exact when_notFalse e1 two z (by decide) rq_e1 (sh_up sh_e1) cd_e1
theorem w3 (z : Nz) : Pure Tryz.prog 7 [exC e2, vsC z two] (fmX (atF (nA 1 0), 0)) := by rw [← tr3]; exact when_true e2 two z (by decide) rq_e2 (sh_up sh_e2) cd_e2
theorem nT1 : numT (· < 100) T1 := by
  refine (numT_eq _).2 ⟨⟨by decide, by decide⟩, fun p hp => ?_⟩
  have hp : p = ⟨1, 0, 0, 0, []⟩ ∨ p = ⟨-1, 0, 1, 0, []⟩ := by simpa using hp
  rcases hp with rfl | rfl
  · exact ⟨num_v (by decide) (by decide) (by decide), by simp⟩
  · exact ⟨num_v (by decide) (by decide) (by decide), by simp⟩
theorem nT2 : numT (· < 100) T2 := by
  refine (numT_eq _).2 ⟨⟨by decide, by decide⟩, fun p hp => ?_⟩
  have hp : p = ⟨-1, 0, 0, 0, []⟩ ∨ p = ⟨1, 0, 1, 0, []⟩ := by simpa using hp
  rcases hp with rfl | rfl
  · exact ⟨num_v (by decide) (by decide) (by decide), by simp⟩
  · exact ⟨num_v (by decide) (by decide) (by decide), by simp⟩
theorem fT1 : fmtT T1 = ⟨#[120, 48, 32, 45, 32, 120, 49, 32, 43, 32, 49]⟩ := by kernel_rfl
theorem fT2 : fmtT T2 = ⟨#[45, 120, 48, 32, 43, 32, 120, 49]⟩ := by kernel_rfl
theorem gT1 : Pure Tryz.prog 56 [tmC T1] (.c (sC ⟨#[120, 48, 32, 45, 32, 120, 49, 32, 43, 32, 49]⟩)) := by rw [← fT1]; exact format_any numOk100 T1 nT1 (by decide)
theorem gT2 : Pure Tryz.prog 56 [tmC T2] (.c (sC ⟨#[45, 120, 48, 32, 43, 32, 120, 49]⟩)) := by rw [← fT2]; exact format_any numOk100 T2 nT2 (by decide)
theorem name_0  : Pure Tryz.prog 55 [iC 0] (.c (sC ⟨#[120, 48]⟩)) := by
 intro H
 refine Spec.enter Tryz.func55 rfl ?_
 refine AW.wk (Wk.keep 6 [(0, .c (iC 0))] [] (H) rfl ⟨rfl, trivial⟩ trivial (fun _ _ h => h) rfl) ?_
 refine sR (sB ?_)
 refine sR (sM ?_)
 refine SeqK.q (q_call _ rfl Fx.fn82 rfl (itoa_s 0 (by decide)) rfl) rfl rfl rfl ?_
 refine SeqK.q (q_addS rfl rfl rfl (by decide +kernel)) rfl rfl rfl ?_
 refine sB ?_
 exact aR (f1 (q := ⟨by kernel_rfl, rfl⟩))
theorem name_1  : Pure Tryz.prog 55 [iC 1] (.c (sC ⟨#[120, 49]⟩)) := by
 intro H
 refine Spec.enter Tryz.func55 rfl ?_
 refine AW.wk (Wk.keep 6 [(0, .c (iC 1))] [] (H) rfl ⟨rfl, trivial⟩ trivial (fun _ _ h => h) rfl) ?_
 refine sR (sB ?_)
 refine sR (sM ?_)
 refine SeqK.q (q_call _ rfl Fx.fn82 rfl (itoa_s 1 (by decide)) rfl) rfl rfl rfl ?_
 refine SeqK.q (q_addS rfl rfl rfl (by decide +kernel)) rfl rfl rfl ?_
 refine sB ?_
 exact aR (f1 (q := ⟨by kernel_rfl, rfl⟩))
theorem fa_a00  : Pure Tryz.prog 29 [atC (nA 0 0)] (.c (sC ⟨#[120, 48, 32, 73, 83, 32, 78, 85, 76, 76]⟩)) := by
 intro H
 refine Spec.enter Tryz.func29 rfl ?_
 refine AW.wk (Wk.keep 60 [(0, .c (atC (nA 0 0)))] [] (H) rfl ⟨rfl, trivial⟩ trivial (fun _ _ h => h) rfl) ?_
 refine sR (Z20 (r := [_, _, _, _, _, _, _, _, _]) ?_)
 refine sB ?_
 refine AW.seq (sR (Z1 Fx.fl36_0 ?_))
 refine Z0 Fx.ty3 ?_
 refine Z7 (AW.block (sR (Z9 ?_)))
 refine sB ?_
 refine cD ?_ ?_ <;> intro h5
 ·
  refine sR (Z1 Fx.fl36_1 ?_)
  refine Z0 Fx.ty3 ?_
  refine Z12 Fx.fn55 (name_0) ?_
  refine SeqK.q (q_addS rfl rfl rfl (by decide +kernel)) rfl rfl rfl ?_
  refine sB ?_
  exact aR (f1 (q := ⟨rfl, rfl⟩))
 exact absurd rfl h5
theorem fa_a01  : Pure Tryz.prog 29 [atC (nA 0 1)] (.c (sC ⟨#[120, 49, 32, 73, 83, 32, 78, 85, 76, 76]⟩)) := by
 intro H
 refine Spec.enter Tryz.func29 rfl ?_
 refine AW.wk (Wk.keep 60 [(0, .c (atC (nA 0 1)))] [] (H) rfl ⟨rfl, trivial⟩ trivial (fun _ _ h => h) rfl) ?_
 refine sR (Z20 (r := [_, _, _, _, _, _, _, _, _]) ?_)
 refine sB ?_
 refine AW.seq (sR (Z1 Fx.fl36_0 ?_))
 refine Z0 Fx.ty3 ?_
 refine Z7 (AW.block (sR (Z9 ?_)))
 refine sB ?_
 refine cD ?_ ?_ <;> intro h5
 ·
  refine sR (Z1 Fx.fl36_1 ?_)
  refine Z0 Fx.ty3 ?_
  refine Z12 Fx.fn55 (name_1) ?_
  refine SeqK.q (q_addS rfl rfl rfl (by decide +kernel)) rfl rfl rfl ?_
  refine sB ?_
  exact aR (f1 (q := ⟨rfl, rfl⟩))
 exact absurd rfl h5
theorem fa_a10  : Pure Tryz.prog 29 [atC (nA 1 0)] (.c (sC ⟨#[120, 48, 32, 73, 83, 32, 78, 79, 84, 32, 78, 85, 76, 76]⟩)) := by
 intro H
 refine Spec.enter Tryz.func29 rfl ?_
 refine AW.wk (Wk.keep 60 [(0, .c (atC (nA 1 0)))] [] (H) rfl ⟨rfl, trivial⟩ trivial (fun _ _ h => h) rfl) ?_
 refine sR (Z20 (r := [_, _, _, _, _, _, _, _, _]) ?_)
 refine sB ?_
 refine AW.seq (sR (Z1 Fx.fl36_0 ?_))
 refine Z0 Fx.ty3 ?_
 refine Z7 (AW.block (sR (Z9 ?_)))
 refine sB ?_
 refine cD ?_ ?_ <;> intro h5
 ·
  exact absurd (show (1 : Int) = 0 from h5) (by decide)
 refine sR (Z9 ?_)
 refine sB ?_
 refine cD ?_ ?_ <;> intro h11
 ·
  refine sR (Z1 Fx.fl36_1 ?_)
  refine Z0 Fx.ty3 ?_
  refine Z12 Fx.fn55 (name_0) ?_
  refine SeqK.q (q_addS rfl rfl rfl (by decide +kernel)) rfl rfl rfl ?_
  refine sB ?_
  exact aR (f1 (q := ⟨rfl, rfl⟩))
 exact absurd rfl h11
theorem fa_at1  : Pure Tryz.prog 29 [atC (atI 2 T1)] (.c (sC ⟨#[120, 48, 32, 45, 32, 120, 49, 32, 43, 32, 49, 32, 60, 61, 32, 48]⟩)) := by
 intro H
 refine Spec.enter Tryz.func29 rfl ?_
 refine AW.wk (Wk.keep 60 [(0, .c (atC (atI 2 T1)))] [] (H) rfl ⟨rfl, trivial⟩ trivial (fun _ _ h => h) rfl) ?_
 refine sR (Z20 (r := [_, _, _, _, _, _, _, _, _]) ?_)
 refine sB ?_
 refine AW.seq (sR (Z1 Fx.fl36_0 ?_))
 refine Z0 Fx.ty3 ?_
 refine Z7 (AW.block (sR (Z9 ?_)))
 refine sB ?_
 refine cD ?_ ?_ <;> intro h5
 ·
  exact absurd (show (2 : Int) = 0 from h5) (by decide)
 refine sR (Z9 ?_)
 refine sB ?_
 refine cD ?_ ?_ <;> intro h11
 ·
  exact absurd (show (2 : Int) = 1 from h11) (by decide)
 refine sR (Z9 ?_)
 refine sB ?_
 refine cD ?_ ?_ <;> intro h17
 ·
  refine sR (Z1 Fx.fl36_3 ?_)
  refine Z10 (r := .g [_, _]) Fx.ty32 ?_
  refine Z12 Fx.fn56 (gT1) ?_
  refine SeqK.q (q_addS rfl rfl rfl (by decide +kernel)) rfl rfl rfl ?_
  refine sB ?_
  exact aR (f1 (q := ⟨rfl, rfl⟩))
 exact absurd rfl h17
theorem fa_at2  : Pure Tryz.prog 29 [atC (atI 2 T2)] (.c (sC ⟨#[45, 120, 48, 32, 43, 32, 120, 49, 32, 60, 61, 32, 48]⟩)) := by
 intro H
 refine Spec.enter Tryz.func29 rfl ?_
 refine AW.wk (Wk.keep 60 [(0, .c (atC (atI 2 T2)))] [] (H) rfl ⟨rfl, trivial⟩ trivial (fun _ _ h => h) rfl) ?_
 refine sR (Z20 (r := [_, _, _, _, _, _, _, _, _]) ?_)
 refine sB ?_
 refine AW.seq (sR (Z1 Fx.fl36_0 ?_))
 refine Z0 Fx.ty3 ?_
 refine Z7 (AW.block (sR (Z9 ?_)))
 refine sB ?_
 refine cD ?_ ?_ <;> intro h5
 ·
  exact absurd (show (2 : Int) = 0 from h5) (by decide)
 refine sR (Z9 ?_)
 refine sB ?_
 refine cD ?_ ?_ <;> intro h11
 ·
  exact absurd (show (2 : Int) = 1 from h11) (by decide)
 refine sR (Z9 ?_)
 refine sB ?_
 refine cD ?_ ?_ <;> intro h17
 ·
  refine sR (Z1 Fx.fl36_3 ?_)
  refine Z10 (r := .g [_, _]) Fx.ty32 ?_
  refine Z12 Fx.fn56 (gT2) ?_
  refine SeqK.q (q_addS rfl rfl rfl (by decide +kernel)) rfl rfl rfl ?_
  refine sB ?_
  exact aR (f1 (q := ⟨rfl, rfl⟩))
 exact absurd rfl h17
abbrev orB : ByteArray := ⟨#[32, 79, 82, 32]⟩
theorem join_or (l : List ByteArray) (z : Nz) (hN : l.length ≤ 1000) (hl : (joinB l orB).size ≤ 10000000) : Pure Tryz.prog 30 [.a (.t (.sl z 1 (l.map txT))), sC orB] (.c (sC (joinB l orB))) :=
  Pure.join (fun a c sep w => Tryz.strings_Join_none a c sep w) (fun bk o c xs sep w h1 h2 h3 h4 h5 => Tryz.strings_Join bk o c xs sep w h1 h2 h3 h4 h5) z l orB (by omega) (by omega)
theorem take_putB {l : List ByteArray} {i : Nat} (hi : i < l.length) : (l.take (i + 1)).map txT = (l.take i).map txT ++ [txT l[i]] := by rw [List.take_succ_eq_append_getElem hi, List.map_append]; rfl
theorem sz_par {s1 : ByteArray} (h : s1.size ≤ 10000000) : ((⟨#[40]⟩ : ByteArray) ++ s1).size ≤ 10000001 := by rw [ByteArray.size_append]; show 1 + s1.size ≤ _; omega
abbrev zFm (x : Fm) : List A := [.t (.v (.int .i64 x.kind)), .t (.v (.int .i64 x.fa.k)), .t (.v (.int .i64 x.fa.v)), .t (.v (.int .i64 x.fa.o)), .t (.v (.int .i64 x.fa.t.c)), .t (.sl .un 5 (x.fa.t.ps.map ptT)), .t (.v (.int .i64 x.fa.tv)), .t (.v (.int .i64 x.fa.tk)), .t (.v (.bool x.fa.tn)), .t (.v (.string x.fa.ts)), .t (.sl .un 11 (x.args.map fmT'))]
theorem fmt_of (f : Fm) (ss : List ByteArray) (s1 : ByteArray) (hl : ss.length = f.args.length) (h1000 : ss.length ≤ 1000) (hss : ∀ i (h : i < f.args.length) (h2 : i < ss.length), Pure Tryz.prog 16 [fmC f.args[i]] (.c (sC ss[i]))) (hfa : Pure Tryz.prog 29 [atC f.fa] (.c (sC s1))) (hjl : (joinB ss orB).size ≤ 10000000) (hk : f.kind = 2 ∨ (f.kind = 1 ∧ 0 < ss.length)) : Pure Tryz.prog 16 [fmC f] (.c (sC (if f.kind = 2 then s1 else ⟨#[40]⟩ ++ joinB ss orB ++ ⟨#[41]⟩))) := by
 intro H
 have hp := sz_par hjl
 refine Spec.enter Tryz.func16 rfl ?_
 refine AW.wk (Wk.keep 51 [(0, .c (fmC f))] [] (H) rfl ⟨rfl, trivial⟩ trivial (fun _ _ h => h) rfl) ?_
 refine sR (Z20 (r := [_, _, _, _, _, _, _, _, _, _, _]) ?_)
 refine sB ?_
 refine sR (sB ?_)
 refine AW.seq (sR (Z1 Fx.fl39_2 ?_))
 refine Z0 Fx.ty37 ?_
 refine Z22 Fx.un37 ?_
 refine sM ?_
 refine Z7 (AW.block ?_)
 refine AW.tip 3 9 1 rfl (fun k0 hk0 => ?_)
 refine AW.loop (fun (i : Nat) s => ∃ (kt : Nat) (zs : List (List E.T)), (i ≤ f.args.length ∧ H kt = none ∧ zs = (ss.take i).map txT) ∧ s = ⟨51, sp [(1, .lp 1 0), (2, .c (sC ⟨#[]⟩)), (3, .c (.a (.ts kt .ne 1 zs))), (7, .c (.a (.t (.sl .un 11 (f.args.map fmT'))))), (8, iX .i64 (((f.args.map fmT').length : Nat) : Int)), (9, iX .i64 ((i : Nat) : Int))], lv [(1, .box (zFm f))], upd H kt (some (.tip 9 1 zs.length))⟩) (fun i => f.args.length - i) 0 ⟨_, by exact Wk.keep 51 _ _ _ rfl ⟨rfl, rfl, rfl, rfl, rfl, rfl, trivial⟩ ⟨rfl, trivial⟩ (fun _ _ h => h) rfl, k0, [], ⟨Nat.zero_le _, hk0, rfl⟩, rfl⟩ (fun i s hs => ?_)
 obtain ⟨kt, zs, ⟨hi0, hkt, hzs⟩, rfl⟩ := hs
 refine sR (Z30 ?_)
 refine Z7 (AW.seq ?_)
 refine cD ?_ ?_ <;> intro h10
 ·
  have hi : i < f.args.length := by rw [List.length_map] at h10; omega
  refine AW.skip (AW.seq (AW.block (sR (Z24 Fx.sl37 (idx_fm hi) ?_))))
  refine Z28 (.g [_, _, _, _, _, _, _, _, _, _, _]) Fx.ty39 ?_
  refine Z16 (r := [_, _, _, _, _, _, _, _, _, _, _]) Fx.ze39 ?_
  refine Z2 (r := [_, _, _, _, _, _, _, _, _, _, _]) Fx.ty39 ?_
  refine Z7 (AW.reg (sM ?_))
  refine Z10 (r := .g [_, _, _, _, _, _, _, _, _, _, _]) Fx.ty39 ?_
  refine SeqK.q (q_call _ rfl Fx.fn16 rfl (hss i hi (by omega)) rfl) rfl rfl rfl ?_
  refine Z27 Fx.el69 ?_
  refine SeqK.app1 rfl (hkt) rfl Fx.el69 rfl rfl (by simp [hzs]; omega) rfl rfl (fun k17 hk17 => ?_)
  refine sB ?_
  refine AW.reg (Z13 ?_)
  refine sM ?_
  refine Z7 ?_
  exact ⟨i + 1, _, by exact Wk.keep 51 _ _ _ rfl ⟨rfl, rfl, rfl, rfl, rfl, rfl, trivial⟩ ⟨rfl, trivial⟩ (fun _ _ h => h) rfl, by omega, k17, zs ++ [txT ss[i]], ⟨hi, hk17, by rw [hzs, take_putB (by omega)]⟩, rfl⟩
 refine AW.exit ?_
 refine eth_e ?_
 refine eth_e ?_
 refine exit_here ?_
 refine AW.seq (AW.block (AW.seq ?_))
 obtain rfl : i = f.args.length := by rw [List.length_map] at h10; omega
 rw [← hl, List.take_length] at hzs
 refine AW.xw 3 rfl (XW.ts.trans (XW.es hzs)) ?_
 refine AW.reg (Z1 Fx.fl39_0 ?_)
 refine Z0 Fx.ty3 ?_
 refine Z9 ?_
 refine sB ?_
 refine cD ?_ ?_ <;> intro h19
 ·
  refine sR (Z1 Fx.fl39_1 ?_)
  refine Z10 (r := .g [_, _, _, _, _, _, _, _, _]) Fx.ty36 ?_
  refine Z12 Fx.fn29 (hfa) ?_
  refine sB ?_
  exact aR (fin_x (x := .c _) (H) (.tmp rfl .nil) rfl ((fun j o h => upd_sub hkt j o h)) (⟨by rw [if_pos h19], rfl⟩))
 refine sR (Z1 Fx.fl39_0 ?_)
 refine Z0 Fx.ty3 ?_
 refine Z9 ?_
 refine Z17 ?_ ?_ <;> intro g30
 ·
  exfalso; omega
 iterate 3 refine oF ?_
 refine Z4 ?_
 refine sB ?_
 refine AW.condF rfl ?_
 refine sR (Z1 Fx.fl39_0 ?_)
 refine Z0 Fx.ty3 ?_
 refine Z9 ?_
 refine sB ?_
 refine cD ?_ ?_ <;> intro h35
 ·
  exfalso; omega
 refine sR (sM ?_)
 refine Z22 Fx.un69 ?_
 refine Z9 ?_
 refine sB ?_
 refine cD ?_ ?_ <;> intro h43
 ·
  exfalso; rw [List.length_map] at h43; omega
 refine AW.skip (sR (sM ?_))
 refine SeqK.q (q_call _ rfl Fx.fn30 rfl (join_or ss _ (by omega) hjl) rfl) rfl rfl rfl ?_
 refine SeqK.q (q_addS rfl rfl rfl (by have h8 : (⟨#[40]⟩ : ByteArray).size = 1 := rfl; omega)) rfl rfl rfl ?_
 refine SeqK.q (q_addS rfl rfl rfl (by have h9 : (⟨#[41]⟩ : ByteArray).size = 1 := rfl; have := hp; omega)) rfl rfl rfl ?_
 refine sB ?_
 exact aR (fin_x (x := .c _) (H) (.tmp rfl .nil) rfl ((fun j o h => upd_sub hkt j o h)) (⟨by rw [if_neg h19], rfl⟩))
theorem fmt_at {a : At} {s1 : ByteArray} (h : Pure Tryz.prog 29 [atC a] (.c (sC s1))) : Pure Tryz.prog 16 [fmC (atF a)] (.c (sC s1)) :=
  fmt_of (atF a) [] s1 rfl (by simp) (fun i h => absurd h (Nat.not_lt_zero _)) h (by decide +kernel) (.inl rfl)
theorem g_0 : Pure Tryz.prog 16 [fmC (atF (atI 2 T1))] (.c (sC ⟨#[120, 48, 32, 45, 32, 120, 49, 32, 43, 32, 49, 32, 60, 61, 32, 48]⟩)) := fmt_at fa_at1
theorem g_1 : Pure Tryz.prog 16 [fmC (atF (atI 2 T2))] (.c (sC ⟨#[45, 120, 48, 32, 43, 32, 120, 49, 32, 60, 61, 32, 48]⟩)) := fmt_at fa_at2
theorem g_3 : Pure Tryz.prog 16 [fmC (atF (nA 1 0))] (.c (sC ⟨#[120, 48, 32, 73, 83, 32, 78, 79, 84, 32, 78, 85, 76, 76]⟩)) := fmt_at fa_a10
abbrev ss3 : List ByteArray := [⟨#[120, 48, 32, 73, 83, 32, 78, 85, 76, 76]⟩, ⟨#[120, 49, 32, 73, 83, 32, 78, 85, 76, 76]⟩, ⟨#[120, 48, 32, 45, 32, 120, 49, 32, 43, 32, 49, 32, 60, 61, 32, 48]⟩]
theorem g_2 : Pure Tryz.prog 16 [fmC (.mk 1 at0 [atF (nA 0 0), atF (nA 0 1), atF (atI 2 T1)])] (.c (sC ⟨#[40, 120, 48, 32, 73, 83, 32, 78, 85, 76, 76, 32, 79, 82, 32, 120, 49, 32, 73, 83, 32, 78, 85, 76, 76, 32, 79, 82, 32, 120, 48, 32, 45, 32, 120, 49, 32, 43, 32, 49, 32, 60, 61, 32, 48, 41]⟩)) :=
  fmt_of (.mk 1 at0 [atF (nA 0 0), atF (nA 0 1), atF (atI 2 T1)]) ss3 ⟨#[120, 48, 32, 73, 83, 32, 78, 85, 76, 76]⟩ rfl (by decide) (fun i h h2 => by
    match i, h, h2 with
    | 0, _, _ => exact fmt_at fa_a00
    | 1, _, _ => exact fmt_at fa_a01
    | 2, _, _ => exact g_0
    | i + 3, h, _ => exact absurd h (by simp)) fa_a00 (by decide +kernel) (.inr ⟨rfl, by decide⟩)
theorem less_any (a b : Ex) : Pure Tryz.prog 14 [exC a, exC b] (.c (exC (eB 12 [a, b]))) := by
 intro H
 refine Spec.enter Tryz.func14 rfl ?_
 refine AW.wk (Wk.keep 9 [(0, .c (exC a)), (1, .c (exC b))] [] (H) rfl ⟨rfl, rfl, trivial⟩ trivial (fun _ _ h => h) rfl) ?_
 refine sR (Z20 (r := [_, _, _, _, _, _, _, _]) ?_)
 refine Z20 (r := [_, _, _, _, _, _, _, _]) ?_
 refine Z16 (r := [_, _, _, _, _, _, _, _]) Fx.ze26 ?_
 refine Z7 (sR (Z10 (r := .g [_, _, _, _, _, _, _, _]) Fx.ty26 ?_))
 refine Z10 (r := .g [_, _, _, _, _, _, _, _]) Fx.ty26 ?_
 refine Z27 Fx.el24 ?_
 refine Z47 7 (xwE2 (a := a) (b := b)) ?_
 refine Z11 (zs := [_, _, _, _, _, _, _, _]) (r := [_, _, _, _, _, _, _, _]) [(0, 1), (1, 1), (2, 1), (3, 1), (4, 3), (7, 1)] Fx.ze26 Fx.bp26 ?_
 refine Z2 (r := [_, _, _, _, _, _, _, _]) Fx.ty26 ?_
 refine Z7 (AW.ret ?_)
 exact f1 (.cellL rfl rfl Fx.ty26 rfl rfl .nil) (⟨rfl, rfl⟩)
theorem two_any  : Pure Tryz.prog 15 [] (.c (vsC .nn two)) := by
 intro H
 refine Spec.enter Tryz.func15 rfl ?_
 refine AW.wk (Wk.keep 6 [] [] (H) rfl trivial trivial (fun _ _ h => h) rfl) ?_
 refine sR (sB ?_)
 refine sR (Z11 (zs := [_, _, _, _, _]) (r := [_, _, _, _, _]) [(0, 1), (1, 1), (2, 1), (3, 1), (4, 1)] Fx.ze66 Fx.bp66 ?_)
 refine Z16 (r := [_, _, _, _, _]) Fx.ze66 ?_
 refine Z2 (r := [_, _, _, _, _]) Fx.ty66 ?_
 refine Z7 (sR (Z10 (r := .g [_, _, _, _, _]) Fx.ty66 ?_))
 refine Z10 (r := .g [_, _, _, _, _]) Fx.ty66 ?_
 refine Z27 Fx.el27 ?_
 refine sB ?_
 exact aR (f1 (q := ⟨rfl, rfl⟩))
theorem awake_t  : Pure Tryz.prog 5 [] (.c (bC true)) := by
 intro H
 refine Spec.enter Tryz.func5 rfl ?_
 refine AW.wk (Wk.keep 85 [] [] (H) rfl trivial trivial (fun _ _ h => h) rfl) ?_
 refine sR (sB ?_)
 refine sR (Z11 (zs := [_, _, _, _, _, _, _, _]) (r := [_, _, _, _, _, _, _, _]) [(0, 1), (1, 1), (2, 1), (3, 1), (4, 3), (7, 1)] Fx.ze26 Fx.bp26 ?_)
 refine Z47 12 XW.ex0 ?_
 refine Z11 (zs := [_, _, _, _, _, _, _, _]) (r := [_, _, _, _, _, _, _, _]) [(0, 1), (1, 1), (2, 1), (3, 1), (4, 3), (7, 1)] Fx.ze26 Fx.bp26 ?_
 refine Z47 13 XW.ex0 ?_
 refine Z16 (r := [_, _, _, _, _, _, _, _]) Fx.ze26 ?_
 refine Z16 (r := [_, _, _, _, _, _, _, _]) Fx.ze26 ?_
 refine Z2 (r := [_, _, _, _, _, _, _, _]) Fx.ty26 ?_
 refine Z2 (r := [_, _, _, _, _, _, _, _]) Fx.ty26 ?_
 refine Z7 (sR (Z11 (zs := [_, _, _]) (r := [_, _, _]) [(0, 1), (1, 1), (2, 1)] Fx.ze23 Fx.bp23 ?_))
 refine Z11 (zs := [_, _, _, _, _, _, _, _]) (r := [_, _, _, _, _, _, _, _]) [(0, 1), (1, 1), (2, 1), (3, 1), (4, 3), (7, 1)] Fx.ze26 Fx.bp26 ?_
 refine Z47 15 XW.ex0 ?_
 refine Z16 (r := [_, _, _, _, _, _, _, _]) Fx.ze26 ?_
 refine Z2 (r := [_, _, _, _, _, _, _, _]) Fx.ty26 ?_
 refine Z7 (sR (Z10 (r := .g [_, _, _, _, _, _, _, _]) Fx.ty26 ?_))
 refine Z10 (r := .g [_, _, _, _, _, _, _, _]) Fx.ty26 ?_
 refine Z12 Fx.fn14 (less_any (eV 0) (eV 1)) ?_
 refine Z12 Fx.fn15 (two_any) ?_
 refine Z12 Fx.fn7 (w0 .nn) ?_
 refine Z39 ?_
 refine Z6 ?_
 refine Z6 ?_
 refine Z16 (r := [_, _, _, _, _, _, _, _, _, _, _]) Fx.ze39 ?_
 refine Z2 (r := [_, _, _, _, _, _, _, _, _, _, _]) Fx.ty39 ?_
 refine sB ?_
 refine sR (Z10 (r := .g [_, _, _, _, _, _, _, _]) Fx.ty26 ?_)
 refine Z10 (r := .g [_, _, _, _, _, _, _, _]) Fx.ty26 ?_
 refine Z12 Fx.fn14 (less_any (eV 0) (eV 1)) ?_
 refine Z12 Fx.fn15 (two_any) ?_
 refine Z12 Fx.fn8 (w1 .nn) ?_
 refine Z39 ?_
 refine Z6 ?_
 refine Z6 ?_
 refine Z16 (r := [_, _, _, _, _, _, _, _, _, _, _]) Fx.ze39 ?_
 refine Z2 (r := [_, _, _, _, _, _, _, _, _, _, _]) Fx.ty39 ?_
 refine sB ?_
 refine sR (Z10 (r := .g [_, _, _, _, _, _, _, _]) Fx.ty26 ?_)
 refine Z10 (r := .g [_, _, _, _, _, _, _, _]) Fx.ty26 ?_
 refine Z12 Fx.fn14 (less_any (eV 0) (eV 1)) ?_
 refine Z12 Fx.fn15 (two_any) ?_
 refine Z12 Fx.fn9 (w2 .nn) ?_
 refine Z39 ?_
 refine Z6 ?_
 refine Z6 ?_
 refine Z16 (r := [_, _, _, _, _, _, _, _, _, _, _]) Fx.ze39 ?_
 refine Z2 (r := [_, _, _, _, _, _, _, _, _, _, _]) Fx.ty39 ?_
 refine sB ?_
 refine sR (Z10 (r := .g [_, _, _, _, _, _, _, _]) Fx.ty26 ?_)
 refine Z10 (r := .g [_, _, _, _, _, _, _, _]) Fx.ty26 ?_
 refine Z27 Fx.el24 ?_
 refine Z47 43 (xwE2 (a := eV 0) (b := eV 0)) ?_
 refine Z11 (zs := [_, _, _, _, _, _, _, _]) (r := [_, _, _, _, _, _, _, _]) [(0, 1), (1, 1), (2, 1), (3, 1), (4, 3), (7, 1)] Fx.ze26 Fx.bp26 ?_
 refine Z10 (r := .g [_, _, _, _, _, _, _, _]) Fx.ty26 ?_
 refine Z12 Fx.fn14 (less_any (eB 5 [eV 0, eV 0]) (eN 1)) ?_
 refine Z12 Fx.fn15 (two_any) ?_
 refine Z12 Fx.fn7 (w3 .nn) ?_
 refine Z39 ?_
 refine Z6 ?_
 refine Z6 ?_
 refine Z16 (r := [_, _, _, _, _, _, _, _, _, _, _]) Fx.ze39 ?_
 refine Z2 (r := [_, _, _, _, _, _, _, _, _, _, _]) Fx.ty39 ?_
 refine sB ?_
 refine sR (sM ?_)
 refine Z9 ?_
 refine Z17 ?_ ?_ <;> intro g53
 rotate_left
 ·
  exact absurd rfl g53
 refine Z14 ?_
 refine Z21 ?_
 refine Z8 ?_
 refine Z17 ?_ ?_ <;> intro g57
 rotate_left
 ·
  exact absurd rfl g57
 refine Z14 ?_
 refine Z21 ?_
 refine Z8 ?_
 refine Z17 ?_ ?_ <;> intro g61
 rotate_left
 ·
  exact absurd rfl g61
 refine Z14 ?_
 refine Z21 ?_
 refine Z8 ?_
 refine Z17 ?_ ?_ <;> intro g65
 rotate_left
 ·
  exact absurd rfl g65
 refine Z25 (r := .g [_, _, _, _, _, _, _, _, _, _, _]) Fx.ty39 ?_
 refine Z35 Fx.fn16 (g_0) ?_
 refine SeqK.on (q_eqlS rfl rfl rfl) rfl rfl rfl rfl rfl ?_
 refine Z8 ?_
 refine Z17 ?_ ?_ <;> intro g70
 ·
  refine Z25 (r := .g [_, _, _, _, _, _, _, _, _, _, _]) Fx.ty39 ?_
  refine Z35 Fx.fn16 (g_1) ?_
  refine SeqK.on (q_eqlS rfl rfl rfl) rfl rfl rfl rfl rfl ?_
  refine Z8 ?_
  refine Z17 ?_ ?_ <;> intro g75
  ·
   refine Z25 (r := .g [_, _, _, _, _, _, _, _, _, _, _]) Fx.ty39 ?_
   refine Z35 Fx.fn16 (g_2) ?_
   refine SeqK.on (q_eqlS rfl rfl rfl) rfl rfl rfl rfl rfl ?_
   refine Z8 ?_
   refine Z17 ?_ ?_ <;> intro g80
   ·
    refine Z25 (r := .g [_, _, _, _, _, _, _, _, _, _, _]) Fx.ty39 ?_
    refine Z35 Fx.fn16 (g_3) ?_
    refine SeqK.on (q_eqlS rfl rfl rfl) rfl rfl rfl rfl rfl ?_
    refine Z8 ?_
    refine sB ?_
    exact aR (f1 (q := ⟨bt (decide_eq_true rfl), rfl⟩))
   exact absurd rfl g80
  exact absurd rfl g75
 exact absurd rfl g70
theorem same_of (t : Tm) (hN : t.cnt ≤ 100000) (ih : ∀ p ∈ t.ps, ∀ o ∈ p.of, Pure Tryz.prog 25 [tmC o, tmC o] (.c (bC true))) : Pure Tryz.prog 25 [tmC t, tmC t] (.c (bC true)) := by
 have hlt := len_ps t
 intro H
 refine Spec.enter Tryz.func25 rfl ?_
 refine AW.wk (Wk.keep 92 [(0, .c (tmC t)), (1, .c (tmC t))] [] (H) rfl ⟨rfl, rfl, trivial⟩ trivial (fun _ _ h => h) rfl) ?_
 refine sR (Z20 (r := [_, _]) ?_)
 refine Z20 (r := [_, _]) ?_
 refine sB ?_
 refine AW.seq (sR (Z1 Fx.fl32_0 ?_))
 refine Z0 Fx.ty2 ?_
 refine Z1 Fx.fl32_0 ?_
 refine Z0 Fx.ty2 ?_
 refine Z26 ?_
 refine Z17 ?_ ?_ <;> intro g13
 ·
  exact absurd rfl g13
 refine Z5 Fx.fl32_1 ?_
 refine Z3 Fx.ty30 ?_
 refine Z50 Fx.un30 ?_
 refine Z5 Fx.fl32_1 ?_
 refine Z3 Fx.ty30 ?_
 refine Z50 Fx.un30 ?_
 refine Z42 ?_
 refine Z4 ?_
 refine Z7 ?_
 refine cD ?_ ?_ <;> intro h21
 ·
  exact absurd rfl h21
 refine AW.skip (AW.seq (sR (sB ?_)))
 refine AW.block ?_
 refine AW.loop (fun (i : Nat) s => (i ≤ t.ps.length) ∧ s = ⟨92, sp [(2, .lp 2 0), (3, .lp 3 0), (4, .c (bC false)), (5, iX .i64 ((i : Nat) : Int))], lv [(2, .box (zTm t)), (3, .box (zTm t))], H⟩) (fun i => t.ps.length - i) 0 ⟨_, by exact Wk.keep 92 _ _ _ rfl ⟨rfl, rfl, rfl, rfl, trivial⟩ ⟨rfl, rfl, trivial⟩ (fun _ _ h => h) rfl, Nat.zero_le _, rfl⟩ (fun i s hs => ?_)
 obtain ⟨hi0, rfl⟩ := hs
 refine AW.seq (sR (sM ?_))
 refine Z1 Fx.fl32_1 ?_
 refine Z0 Fx.ty30 ?_
 refine Z22 Fx.un30 ?_
 refine Z30 ?_
 refine Z7 ?_
 refine cD ?_ ?_ <;> intro h26
 rotate_left
 ·
  refine AW.exit ?_
  refine eth_e ?_
  refine eth_e ?_
  refine exit_here ?_
  refine sR (sB ?_)
  exact aR (f1 (q := ⟨rfl, rfl⟩))
 have hi : i < t.ps.length := by rw [List.length_map] at h26; omega
 refine AW.skip (AW.seq (AW.block (AW.seq (AW.draw Fx.mo ?_))))
 refine Z23 Fx.fl32_1 ?_
 refine Z18 Fx.ty30 ?_
 refine Z44 ?_
 refine Z29 Fx.sl30 (idx_map (f := ptT) hi) ?_
 refine Z32 (.g [_, _, _, _, _]) Fx.ty89 ?_
 refine Z23 Fx.fl32_1 ?_
 refine Z18 Fx.ty30 ?_
 refine Z44 ?_
 refine Z29 Fx.sl30 (idx_map (f := ptT) hi) ?_
 refine Z32 (.g [_, _, _, _, _]) Fx.ty89 ?_
 refine LexK.r (b_alloc (r := [_, _, _, _, _]) rfl rfl Fx.ze89 rfl rfl rfl rfl) rfl ?_
 refine LexK.r (b_alloc (r := [_, _, _, _, _]) rfl rfl Fx.ze89 rfl rfl rfl rfl) rfl ?_
 refine Z40 (r := [_, _, _, _, _]) Fx.ty89 ?_
 refine Z40 (r := [_, _, _, _, _]) Fx.ty89 ?_
 refine Z48 ?_
 refine AW.seq (AW.draw Fx.mo ?_)
 refine Z23 Fx.fl89_0 ?_
 refine Z18 Fx.ty2 ?_
 refine Z23 Fx.fl89_0 ?_
 refine Z18 Fx.ty2 ?_
 refine LexK.q (q_neq rfl rfl rfl) rfl rfl rfl ?_
 refine LexK.qD (q_mvC rfl rfl) rfl rfl rfl (fun g44 => ?_) (fun g44 => ?_)
 ·
  exact absurd rfl g44
 refine LexK.on (q_fieldL _ rfl Fx.fl89_1 rfl rfl) rfl rfl rfl rfl rfl ?_
 refine Z51 Fx.ty3 ?_
 refine LexK.on (q_fieldL _ rfl Fx.fl89_1 rfl rfl) rfl rfl rfl rfl rfl ?_
 refine Z51 Fx.ty3 ?_
 refine LexK.on (q_neq rfl rfl rfl) rfl rfl rfl rfl rfl ?_
 refine LexK.q (q_pkF rfl rfl rfl) rfl rfl rfl ?_
 refine LexK.qD (q_mvC rfl rfl) rfl rfl rfl (fun g51 => ?_) (fun g51 => ?_)
 ·
  exact absurd rfl g51
 refine LexK.on (q_fieldL _ rfl Fx.fl89_2 rfl rfl) rfl rfl rfl rfl rfl ?_
 refine Z51 Fx.ty3 ?_
 refine LexK.on (q_fieldL _ rfl Fx.fl89_2 rfl rfl) rfl rfl rfl rfl rfl ?_
 refine Z51 Fx.ty3 ?_
 refine LexK.on (q_neq rfl rfl rfl) rfl rfl rfl rfl rfl ?_
 refine LexK.q (q_pkF rfl rfl rfl) rfl rfl rfl ?_
 refine LexK.qD (q_mvC rfl rfl) rfl rfl rfl (fun g58 => ?_) (fun g58 => ?_)
 ·
  exact absurd rfl g58
 refine LexK.on (q_fieldL _ rfl Fx.fl89_3 rfl rfl) rfl rfl rfl rfl rfl ?_
 refine Z51 Fx.ty2 ?_
 refine LexK.on (q_fieldL _ rfl Fx.fl89_3 rfl rfl) rfl rfl rfl rfl rfl ?_
 refine Z51 Fx.ty2 ?_
 refine LexK.on (q_neq rfl rfl rfl) rfl rfl rfl rfl rfl ?_
 refine LexK.q (q_pkF rfl rfl rfl) rfl rfl rfl ?_
 refine LexK.qD (q_mvC rfl rfl) rfl rfl rfl (fun g65 => ?_) (fun g65 => ?_)
 ·
  exact absurd rfl g65
 refine LexK.on (q_fieldL _ rfl Fx.fl89_4 rfl rfl) rfl rfl rfl rfl rfl ?_
 refine Z51 Fx.ty87 ?_
 refine LexK.on (q_len rfl Fx.un87 rfl) rfl rfl rfl rfl rfl ?_
 refine LexK.on (q_fieldL _ rfl Fx.fl89_4 rfl rfl) rfl rfl rfl rfl rfl ?_
 refine Z51 Fx.ty87 ?_
 refine LexK.on (q_len rfl Fx.un87 rfl) rfl rfl rfl rfl rfl ?_
 refine LexK.on (q_neq rfl rfl rfl) rfl rfl rfl rfl rfl ?_
 refine LexK.q (q_pkF rfl rfl rfl) rfl rfl rfl ?_
 refine LexK.qD (q_mvC rfl rfl) rfl rfl rfl (fun g74 => ?_) (fun g74 => ?_)
 ·
  exact absurd rfl g74
 refine LexK.on (q_fieldL _ rfl Fx.fl89_4 rfl rfl) rfl rfl rfl rfl rfl ?_
 refine Z51 Fx.ty87 ?_
 refine LexK.on (q_len rfl Fx.un87 rfl) rfl rfl rfl rfl rfl ?_
 refine LexK.on (q_gtr rfl rfl rfl) rfl rfl rfl rfl rfl ?_
 refine LexK.onD (q_mvC rfl rfl) rfl rfl rfl rfl rfl (fun g79 => ?_) (fun g79 => ?_)
 ·
  have h0 : 0 < t.ps[i].of.length := by rw [List.length_map] at g79; omega
  refine LexK.on (q_fieldL _ rfl Fx.fl89_4 rfl rfl) rfl rfl rfl rfl rfl ?_
  refine Z51 Fx.ty87 ?_
  refine LexK.on (q_index _ rfl Fx.sl87 rfl rfl (by omega) (idx_tm h0)) rfl rfl rfl rfl rfl ?_
  refine LexK.on (q_load (.g [_, _]) rfl Fx.ty32 rfl rfl rfl) rfl rfl rfl rfl rfl ?_
  refine LexK.on (q_fieldL _ rfl Fx.fl89_4 rfl rfl) rfl rfl rfl rfl rfl ?_
  refine Z51 Fx.ty87 ?_
  refine LexK.on (q_index _ rfl Fx.sl87 rfl rfl (by omega) (idx_tm h0)) rfl rfl rfl rfl rfl ?_
  refine LexK.on (q_load (.g [_, _]) rfl Fx.ty32 rfl rfl rfl) rfl rfl rfl rfl rfl ?_
  refine LexK.on (q_call _ rfl Fx.fn25 rfl (ih _ (List.getElem_mem hi) _ (List.getElem_mem h0)) rfl) rfl rfl rfl rfl rfl ?_
  refine LexK.on (q_not rfl rfl) rfl rfl rfl rfl rfl ?_
  refine LexK.on (q_pkT rfl rfl rfl) rfl rfl rfl rfl rfl ?_
  refine LexK.q (q_pkF rfl rfl rfl) rfl rfl rfl ?_
  refine Z48 ?_
  refine AW.cond _ rfl (fun h91 => ?_) (fun h91 => ?_)
  ·
   first | exact absurd rfl h91 | cases h91 | (simp at h91; done)
  refine AW.skip (AW.reg (sM ?_))
  refine Z13 ?_
  refine sB ?_
  exact ⟨i + 1, _, by exact Wk.keep 92 _ _ _ rfl ⟨rfl, rfl, rfl, rfl, trivial⟩ ⟨rfl, rfl, trivial⟩ (fun _ _ h => h) rfl, by omega, hi, rfl⟩
 iterate 10 refine LexK.off rfl rfl rfl rfl rfl rfl ?_
 refine LexK.on (q_pkF rfl rfl rfl) rfl rfl rfl rfl rfl ?_
 refine LexK.q (q_pkF rfl rfl rfl) rfl rfl rfl ?_
 refine Z48 ?_
 refine AW.condF rfl ?_
 refine AW.skip (AW.reg (sM ?_))
 refine Z13 ?_
 refine sB ?_
 exact ⟨i + 1, _, by exact Wk.keep 92 _ _ _ rfl ⟨rfl, rfl, rfl, rfl, trivial⟩ ⟨rfl, rfl, trivial⟩ (fun _ _ h => h) rfl, by omega, hi, rfl⟩
theorem same_any (t : Tm) : t.cnt ≤ 100000 → Pure Tryz.prog 25 [tmC t, tmC t] (.c (bC true)) := by
  induction t using Tm.ind with
  | h t ih =>
    intro hN
    exact same_of t hN fun p hp o ho => ih p hp o ho (by have := cnt_of hp ho; omega)
theorem sameF_of (f : Fm) (hc : f.fa.t.cnt ≤ 100000 ∧ f.args.length ≤ 1000000) (ih : ∀ g ∈ f.args, Pure Tryz.prog 12 [fmC g, fmC g] (.c (bC true))) : Pure Tryz.prog 12 [fmC f, fmC f] (.c (bC true)) := by
 intro H
 refine Spec.enter Tryz.func12 rfl ?_
 refine AW.wk (Wk.keep 81 [(0, .c (fmC f)), (1, .c (fmC f))] [] (H) rfl ⟨rfl, rfl, trivial⟩ trivial (fun _ _ h => h) rfl) ?_
 refine sR (Z20 (r := [_, _, _, _, _, _, _, _, _, _, _]) ?_)
 refine Z20 (r := [_, _, _, _, _, _, _, _, _, _, _]) ?_
 refine sB ?_
 refine AW.seq (AW.draw Fx.mo ?_)
 refine Z23 Fx.fl39_1 ?_
 refine LexK.r (b_load (r := .g [_, _, _, _, _, _, _, _, _]) rfl Fx.ty36 rfl rfl rfl rfl rfl rfl) rfl ?_
 refine Z23 Fx.fl39_1 ?_
 refine LexK.r (b_load (r := .g [_, _, _, _, _, _, _, _, _]) rfl Fx.ty36 rfl rfl rfl rfl rfl rfl) rfl ?_
 refine LexK.r (b_alloc (r := [_, _, _, _, _, _, _, _, _]) rfl rfl Fx.ze36 rfl rfl rfl rfl) rfl ?_
 refine LexK.r (b_alloc (r := [_, _, _, _, _, _, _, _, _]) rfl rfl Fx.ze36 rfl rfl rfl rfl) rfl ?_
 refine Z40 (r := [_, _, _, _, _, _, _, _, _]) Fx.ty36 ?_
 refine Z40 (r := [_, _, _, _, _, _, _, _, _]) Fx.ty36 ?_
 refine Z48 ?_
 refine AW.seq (sR (Z1 Fx.fl39_0 ?_))
 refine Z0 Fx.ty3 ?_
 refine Z1 Fx.fl39_0 ?_
 refine Z0 Fx.ty3 ?_
 refine Z26 ?_
 refine Z17 ?_ ?_ <;> intro g17
 ·
  exact absurd rfl g17
 refine Z5 Fx.fl39_2 ?_
 refine Z3 Fx.ty37 ?_
 refine Z50 Fx.un37 ?_
 refine Z5 Fx.fl39_2 ?_
 refine Z3 Fx.ty37 ?_
 refine Z50 Fx.un37 ?_
 refine Z42 ?_
 refine Z4 ?_
 refine Z17 ?_ ?_ <;> intro g26
 ·
  exact absurd rfl g26
 refine Z5 Fx.fl36_0 ?_
 refine Z3 Fx.ty3 ?_
 refine Z5 Fx.fl36_0 ?_
 refine Z3 Fx.ty3 ?_
 refine Z42 ?_
 refine Z4 ?_
 refine Z17 ?_ ?_ <;> intro g33
 ·
  exact absurd rfl g33
 refine Z5 Fx.fl36_1 ?_
 refine Z3 Fx.ty3 ?_
 refine Z5 Fx.fl36_1 ?_
 refine Z3 Fx.ty3 ?_
 refine Z42 ?_
 refine Z4 ?_
 refine Z17 ?_ ?_ <;> intro g40
 ·
  exact absurd rfl g40
 refine Z5 Fx.fl36_2 ?_
 refine Z3 Fx.ty3 ?_
 refine Z5 Fx.fl36_2 ?_
 refine Z3 Fx.ty3 ?_
 refine Z42 ?_
 refine Z4 ?_
 refine Z17 ?_ ?_ <;> intro g47
 ·
  exact absurd rfl g47
 refine Z5 Fx.fl36_4 ?_
 refine Z25 (r := .g [_, _, _, _]) Fx.ty34 ?_
 refine Z5 Fx.fl36_4 ?_
 refine Z25 (r := .g [_, _, _, _]) Fx.ty34 ?_
 refine SeqK.on (q_neqG [.int .i64 f.fa.tv, .int .i64 f.fa.tk, .bool f.fa.tn, .string f.fa.ts] [.int .i64 f.fa.tv, .int .i64 f.fa.tk, .bool f.fa.tn, .string f.fa.ts] rfl rfl rfl rfl rfl (by kernel_rfl) (fun w => eq34 _ _ _ _ _ _ _ _ w)) rfl rfl rfl rfl rfl ?_
 refine Z4 ?_
 refine Z36 ?_ ?_ <;> intro g54
 ·
  first | exact absurd rfl g54 | (simp at g54; done)
 refine Z5 Fx.fl36_3 ?_
 refine Z25 (r := .g [_, _]) Fx.ty32 ?_
 refine Z5 Fx.fl36_3 ?_
 refine Z25 (r := .g [_, _]) Fx.ty32 ?_
 refine Z35 Fx.fn25 (same_any _ hc.1) ?_
 refine Z41 ?_
 refine Z4 ?_
 refine Z7 ?_
 refine AW.cond _ rfl (fun h61 => ?_) (fun h61 => ?_)
 ·
  first | exact absurd rfl h61 | cases h61 | (simp at h61; done)
 refine AW.skip (AW.seq (sR (sB ?_)))
 refine AW.block ?_
 refine AW.loop (fun (i : Nat) s => (i ≤ f.args.length) ∧ s = ⟨81, sp [(2, .lp 2 0), (3, .lp 3 0), (4, .c (bC false)), (7, iX .i64 ((i : Nat) : Int))], lv [(2, .box (zFm f)), (3, .box (zFm f))], H⟩) (fun i => f.args.length - i) 0 ⟨_, by exact Wk.keep 81 _ _ _ rfl ⟨rfl, rfl, rfl, rfl, trivial⟩ ⟨rfl, rfl, trivial⟩ (fun _ _ h => h) rfl, Nat.zero_le _, rfl⟩ (fun i s hs => ?_)
 obtain ⟨hi0, rfl⟩ := hs
 refine AW.seq (sR (sM ?_))
 refine Z1 Fx.fl39_2 ?_
 refine Z0 Fx.ty37 ?_
 refine Z22 Fx.un37 ?_
 refine Z30 ?_
 refine Z7 ?_
 refine cD ?_ ?_ <;> intro h66
 rotate_left
 ·
  refine AW.exit ?_
  refine eth_e ?_
  refine eth_e ?_
  refine exit_here ?_
  refine sR (sB ?_)
  exact aR (f1 (q := ⟨rfl, rfl⟩))
 have hi : i < f.args.length := by rw [List.length_map] at h66; omega
 refine AW.skip (AW.seq (AW.block (AW.seq (AW.draw Fx.mo ?_))))
 refine Z23 Fx.fl39_2 ?_
 refine Z18 Fx.ty37 ?_
 refine Z44 ?_
 refine Z29 Fx.sl37 (idx_fm hi) ?_
 refine Z32 (.g [_, _, _, _, _, _, _, _, _, _, _]) Fx.ty39 ?_
 refine Z23 Fx.fl39_2 ?_
 refine Z18 Fx.ty37 ?_
 refine Z44 ?_
 refine Z29 Fx.sl37 (idx_fm hi) ?_
 refine Z32 (.g [_, _, _, _, _, _, _, _, _, _, _]) Fx.ty39 ?_
 refine Z45 Fx.fn12 (ih _ (List.getElem_mem hi)) ?_
 refine LexK.q (q_not rfl rfl) rfl rfl rfl ?_
 refine Z48 ?_
 refine AW.cond _ rfl (fun h80 => ?_) (fun h80 => ?_)
 ·
  first | exact absurd rfl h80 | cases h80 | (simp at h80; done)
 refine AW.skip (AW.reg (sM ?_))
 refine Z13 ?_
 refine sB ?_
 exact ⟨i + 1, _, by exact Wk.keep 81 _ _ _ rfl ⟨rfl, rfl, rfl, rfl, trivial⟩ ⟨rfl, rfl, trivial⟩ (fun _ _ h => h) rfl, by omega, hi, rfl⟩
theorem sameF_any (f : Fm) : fcB f = true → Pure Tryz.prog 12 [fmC f, fmC f] (.c (bC true)) := by
  induction f using Fm.ind with
  | h f ih =>
    intro hc
    have hc' := (fcB_iff f).1 hc
    exact sameF_of f hc'.1 fun g hg => ih g hg (hc'.2 g hg)
end Go.Proofs.YtnnoafgdjjpidaaGreatDoor.W
