import Derived.Test.YtnnoafgdjjpidaaGreatDoorM17
set_option maxRecDepth 20000
set_option maxHeartbeats 8000000
set_option linter.unusedSectionVars false
set_option linter.unusedSimpArgs false
set_option linter.unusedVariables false
namespace Go.Proofs.YtnnoafgdjjpidaaGreatDoor.W
open Go.RowKit E M
theorem insG_eq {l : List Pt} {i : Nat} {p : Pt} (hi : i < l.length) (h : cmpP l[i] p = 0) : insG false (l.drop i) p = nzc (addQ l[i] p) (insG true (l.drop (i + 1)) p) := by
  rw [List.drop_eq_getElem_cons hi, insG, if_pos h]
theorem insG_gt {l : List Pt} {i : Nat} {p : Pt} (hi : i < l.length) (h : 0 < cmpP l[i] p) : insG false (l.drop i) p = [p, l[i]] ++ insG true (l.drop (i + 1)) p := by
  rw [List.drop_eq_getElem_cons hi, insG, if_neg (by omega), if_pos h]; rfl
theorem insG_lt {l : List Pt} {i : Nat} {p : Pt} (hi : i < l.length) (h0 : ¬ cmpP l[i] p = 0) (h : ¬ 0 < cmpP l[i] p) : insG false (l.drop i) p = [l[i]] ++ insG false (l.drop (i + 1)) p := by
  rw [List.drop_eq_getElem_cons hi, insG, if_neg h0, if_neg h]; rfl
theorem insG_on {l : List Pt} {i : Nat} {p : Pt} (hi : i < l.length) : insG true (l.drop i) p = [l[i]] ++ insG true (l.drop (i + 1)) p := by
  rw [List.drop_eq_getElem_cons hi, insG]; rfl
theorem put_app {out r full m e : List Pt} (h : m = e ++ r) (hI : out ++ m = full) : (out ++ e) ++ r = full := by
  rw [← hI, h]; simp
abbrev coB (l : List Pt) (M : Nat) : Prop := ∀ p ∈ l, p.coef.natAbs ≤ M
abbrev zPt (x : Pt) : List A := [.t (.v (.int .i64 x.coef)), .t (.v (.int .i64 x.kind)), .t (.v (.int .i64 x.var)), .t (.v (.int .i64 x.dv)), .t (.sl .un 2 (x.of.map tmT))]
theorem insert_any (l : List Pt) (p : Pt) (z : Nz) (hl : cntPs l ≤ 100000) (hc : coB l (2 ^ 60)) (hp : p.coef.natAbs ≤ 2 ^ 60) : Pure Tryz.prog 178 [.a (.t (.sl z 5 (l.map ptT))), ptC p] (.c (.a (.t (.sl .un 5 ((insG false l p).map ptT))))) := by
 intro H
 refine Spec.enter Tryz.func178 rfl ?_
 refine AW.wk (Wk.keep 63 [(0, .c (.a (.t (.sl z 5 (l.map ptT))))), (1, .c (ptC p))] [] (H) rfl ⟨rfl, rfl, trivial⟩ trivial (fun _ _ h => h) rfl) ?_
 refine sR (Z20 (r := [_, _, _, _, _]) ?_)
 refine sB ?_
 refine AW.seq ?_
 have hll := cntPs_len l
 refine AW.reg (sB ?_)
 refine sR (sB ?_)
 refine AW.seq (sR (sB ?_))
 refine AW.block ?_
 refine AW.tip 5 89 5 rfl (fun k0 hk0 => ?_)
 refine AW.loop (fun (i : Nat) s => ∃ (kt : Nat) (out : List Pt) (zs : List (List E.T)) (pb : Bool), (i ≤ l.length ∧ H kt = none ∧ out.length ≤ i + pb.toNat ∧ zs = out.map ptT ∧ out ++ insG pb (l.drop i) p = insG false l p) ∧ s = ⟨63, sp [(0, .c (.a (.t (.sl z 5 (l.map ptT))))), (3, .lp 3 0), (4, .c (.a (.t (.v (.slice none 0 0))))), (5, .c (.a (.ts kt .ne 5 zs))), (6, bX pb), (7, iX .i64 ((i : Nat) : Int))], lv [(3, .box (zPt p))], upd H kt (some (.tip 89 5 zs.length))⟩) (fun i => l.length - i) 0 ⟨_, by exact Wk.keep 63 _ _ _ rfl ⟨rfl, rfl, rfl, rfl, rfl, rfl, trivial⟩ ⟨rfl, trivial⟩ (fun _ _ h => h) rfl, k0, [], [], false, ⟨Nat.zero_le _, hk0, by simp, rfl, rfl⟩, rfl⟩ (fun i s hs => ?_)
 obtain ⟨kt, out, zs, pb, ⟨hi0, hkt, hol, hzs, hI⟩, rfl⟩ := hs
 refine AW.seq (sR (sM ?_))
 refine sM ?_
 refine Z22 Fx.un30 ?_
 refine Z30 ?_
 refine Z7 ?_
 refine cD ?_ ?_ <;> intro h13
 rotate_left
 ·
  refine AW.exit ?_
  refine eth_e ?_
  refine eth_e ?_
  refine exit_here ?_
  refine AW.seq (AW.seq ?_)
  have hil : i = l.length := by rw [List.length_map] at h13; omega
  subst hil
  rw [List.drop_length] at hI
  refine AW.reg (sM ?_)
  refine Z49 ?_
  refine Z7 ?_
  refine AW.cond _ rfl (fun h57 => ?_) (fun h57 => ?_)
  ·
   have hpb : pb = false := by simpa using h57
   refine AW.reg (sM ?_)
   refine Z10 (r := .g [_, _, _, _, _]) Fx.ty89 ?_
   refine Z27 Fx.el30 ?_
   refine SeqK.app1 rfl (by assumption) rfl Fx.el30 rfl rfl (by have hzl : zs.length = out.length := (by rw [hzs, List.length_map]); have := Bool.toNat_le pb; simp; omega) rfl rfl (fun k61 hk61 => ?_)
   refine sB ?_
   refine sR (sM ?_)
   refine sB ?_
   refine AW.xw 4 rfl XW.ts ?_
   refine AW.xw 4 rfl XW.un ?_
   exact aR (fin_x (x := .c _) (H) (.tmp rfl .nil) rfl (fun j o h => by show upd H _ _ j = _; rw [upd_ne _ _ (fun e => by subst e; simp_all)]; exact h) (⟨by rw [hpb] at hI; rw [← hI, hzs]; simp [insG], rfl⟩))
  have hpb : pb = true := by simpa using h57
  refine AW.skip (sR (sM ?_))
  refine sB ?_
  refine AW.xw 4 rfl XW.ts ?_
  refine AW.xw 4 rfl XW.un ?_
  exact aR (fin_x (x := .c _) (H) (.tmp rfl .nil) rfl (fun j o h => by show upd H _ _ j = _; rw [upd_ne _ _ (fun e => by subst e; simp_all)]; exact h) (⟨by rw [hpb] at hI; rw [← hI, hzs]; simp [insG], rfl⟩))
 have hi : i < l.length := by rw [List.length_map] at h13; omega
 have hci := hc _ (List.getElem_mem hi)
 refine AW.skip (AW.seq (AW.block (sR (sB ?_))))
 refine AW.seq (sR (sM ?_))
 refine Z49 ?_
 refine Z7 ?_
 refine AW.cond _ rfl (fun h17 => ?_) (fun h17 => ?_)
 rotate_left
 ·
  have hpb : pb = true := by simpa using h17
  have hIt : out ++ insG true (l.drop i) p = insG false l p := by rw [hpb] at hI; exact hI
  have hol2 : out.length ≤ i + 1 := by rw [hpb] at hol; simpa using hol
  refine AW.skip (AW.seq (sR (sM ?_)))
  refine Z9 ?_
  refine Z7 ?_
  refine cD ?_ ?_ <;> intro h25
  ·
   exact absurd h25 (by decide)
  refine AW.skip (AW.seq (sR (sM ?_)))
  refine Z43 ?_
  refine Z7 ?_
  refine cD ?_ ?_ <;> intro h44
  ·
   exact absurd h44 (by decide)
  refine AW.skip (AW.reg (sM ?_))
  refine sM ?_
  refine sM ?_
  refine Z24 Fx.sl30 (idx_map (f := ptT) hi) ?_
  refine Z28 (.g [_, _, _, _, _]) Fx.ty89 ?_
  refine Z27 Fx.el30 ?_
  refine SeqK.app1 rfl (by assumption) rfl Fx.el30 rfl rfl (by have hzl : zs.length = out.length := (by rw [hzs, List.length_map]); have := Bool.toNat_le pb; simp; omega) rfl rfl (fun k55 hk55 => ?_)
  refine sB ?_
  refine AW.reg (sM ?_)
  refine Z13 ?_
  refine sB ?_
  exact ⟨i + 1, _, by exact Wk.keep 63 _ _ _ rfl ⟨rfl, rfl, rfl, rfl, rfl, rfl, trivial⟩ ⟨rfl, trivial⟩ (fun _ _ h => h) rfl, by omega, k55, out ++ [l[i]], zs ++ [ptT (l[i])], pb, ⟨by omega, hk55, by first | (simp; omega) | (rw [hpb]; simp; omega), (map_put hzs), (by rw [hpb]; exact put_app (e := [l[i]]) (insG_on hi) hIt)⟩, rfl⟩
 have hpb : pb = false := by simpa using h17
 have hIf : out ++ insG false (l.drop i) p = insG false l p := by rw [hpb] at hI; exact hI
 have hol2 : out.length ≤ i := by rw [hpb] at hol; simpa using hol
 refine AW.draw Fx.mo ?_
 refine Z44 ?_
 refine Z44 ?_
 refine Z29 Fx.sl30 (idx_map (f := ptT) hi) ?_
 refine Z32 (.g [_, _, _, _, _]) Fx.ty89 ?_
 refine LexK.r (b_load (r := .g [_, _, _, _, _]) rfl Fx.ty89 rfl rfl rfl rfl rfl rfl) rfl ?_
 refine LexK.q (q_call _ rfl Fx.fn189 rfl (rparts_any _ _ (by have := cntPs_mem (List.getElem_mem hi); omega)) rfl) rfl rfl rfl ?_
 refine Z52 ?_
 refine Z48 ?_
 refine AW.seq (sR (sM ?_))
 refine Z9 ?_
 refine Z7 ?_
 refine cD ?_ ?_ <;> intro h25
 ·
  refine sR (sB ?_)
  refine sR (sM ?_)
  refine sM ?_
  refine Z24 Fx.sl30 (idx_map (f := ptT) hi) ?_
  refine Z28 (.g [_, _, _, _, _]) Fx.ty89 ?_
  refine Z16 (r := [_, _, _, _, _]) Fx.ze89 ?_
  refine Z2 (r := [_, _, _, _, _]) Fx.ty89 ?_
  refine Z7 (sR (Z1 Fx.fl89_0 ?_))
  refine Z0 Fx.ty2 ?_
  refine Z1 Fx.fl89_0 ?_
  refine Z0 Fx.ty2 ?_
  refine Z13 ?_
  refine Z1 Fx.fl89_0 ?_
  refine Z2 (r := [_, _, _, _, _]) Fx.ty2 ?_
  refine Z7 (AW.seq (sR (Z1 Fx.fl89_0 ?_)))
  refine Z0 Fx.ty2 ?_
  refine Z26 ?_
  refine Z7 ?_
  refine cD ?_ ?_ <;> intro h38
  ·
   refine AW.reg (sM ?_)
   refine Z10 (r := .g [_, _, _, _, _]) Fx.ty89 ?_
   refine Z27 Fx.el30 ?_
   refine SeqK.app1 rfl (hkt) rfl Fx.el30 rfl rfl (by have hzl : zs.length = out.length := (by rw [hzs, List.length_map]); have := Bool.toNat_le pb; simp; omega) rfl rfl (fun k42 hk42 => ?_)
   refine sB ?_
   refine AW.exit ?_
   refine eth_e ?_
   refine exit_here ?_
   refine AW.reg (sM ?_)
   refine Z13 ?_
   refine sB ?_
   exact ⟨i + 1, _, by exact Wk.keep 63 _ _ _ rfl ⟨rfl, rfl, rfl, rfl, rfl, rfl, trivial⟩ ⟨rfl, trivial⟩ (fun _ _ h => h) rfl, by omega, k42, out ++ [addQ l[i] p], zs ++ [ptT (addQ l[i] p)], true, ⟨by omega, hk42, by first | (simp; omega) | (rw [hpb]; simp; omega), (map_put hzs), put_nz (insG_eq hi h25) hIf h38⟩, rfl⟩
  refine AW.skip (AW.exit ?_)
  refine eth_e ?_
  refine exit_here ?_
  refine AW.reg (sM ?_)
  refine Z13 ?_
  refine sB ?_
  exact ⟨i + 1, _, by exact Wk.keep 63 _ _ _ rfl ⟨rfl, rfl, rfl, rfl, rfl, rfl, trivial⟩ ⟨rfl, trivial⟩ (fun _ _ h => h) rfl, by omega, kt, out, zs, true, ⟨by omega, hkt, by first | (simp; omega) | (rw [hpb]; simp; omega), hzs, put_z (insG_eq hi h25) hIf h38⟩, rfl⟩
 refine AW.skip (AW.seq (sR (sM ?_)))
 refine Z43 ?_
 refine Z7 ?_
 refine cD ?_ ?_ <;> intro h44
 ·
  refine sR (sB ?_)
  refine AW.reg (sM ?_)
  refine Z10 (r := .g [_, _, _, _, _]) Fx.ty89 ?_
  refine Z27 Fx.el30 ?_
  refine SeqK.app1 rfl (hkt) rfl Fx.el30 rfl rfl (by have hzl : zs.length = out.length := (by rw [hzs, List.length_map]); have := Bool.toNat_le pb; simp; omega) rfl rfl (fun k48 hk48 => ?_)
  refine sB ?_
  refine AW.reg (sM ?_)
  refine sM ?_
  refine sM ?_
  refine Z24 Fx.sl30 (idx_map (f := ptT) hi) ?_
  refine Z28 (.g [_, _, _, _, _]) Fx.ty89 ?_
  refine Z27 Fx.el30 ?_
  refine SeqK.app1 rfl (by assumption) rfl Fx.el30 rfl rfl (by have hzl : zs.length = out.length := (by rw [hzs, List.length_map]); have := Bool.toNat_le pb; simp; omega) rfl rfl (fun k55 hk55 => ?_)
  refine sB ?_
  refine AW.reg (sM ?_)
  refine Z13 ?_
  refine sB ?_
  exact ⟨i + 1, _, by exact Wk.keep 63 _ _ _ rfl ⟨rfl, rfl, rfl, rfl, rfl, rfl, trivial⟩ ⟨rfl, trivial⟩ (fun _ _ h => h) rfl, by omega, k55, out ++ [p] ++ [l[i]], zs ++ [ptT (p)] ++ [ptT (l[i])], true, ⟨by omega, hk55, by first | (simp; omega) | (rw [hpb]; simp; omega), (map_put (map_put hzs)), put_app (e := [p, l[i]]) (insG_gt hi (by omega)) hIf |> (fun h => by rw [← h]; simp)⟩, rfl⟩
 refine AW.skip (AW.reg (sM ?_))
 refine sM ?_
 refine sM ?_
 refine Z24 Fx.sl30 (idx_map (f := ptT) hi) ?_
 refine Z28 (.g [_, _, _, _, _]) Fx.ty89 ?_
 refine Z27 Fx.el30 ?_
 refine SeqK.app1 rfl (by assumption) rfl Fx.el30 rfl rfl (by have hzl : zs.length = out.length := (by rw [hzs, List.length_map]); have := Bool.toNat_le pb; simp; omega) rfl rfl (fun k55 hk55 => ?_)
 refine sB ?_
 refine AW.reg (sM ?_)
 refine Z13 ?_
 refine sB ?_
 exact ⟨i + 1, _, by exact Wk.keep 63 _ _ _ rfl ⟨rfl, rfl, rfl, rfl, rfl, rfl, trivial⟩ ⟨rfl, trivial⟩ (fun _ _ h => h) rfl, by omega, k55, out ++ [l[i]], zs ++ [ptT (l[i])], pb, ⟨by omega, hk55, by first | (simp; omega) | (rw [hpb]; simp; omega), (map_put hzs), (by rw [hpb]; exact put_app (e := [l[i]]) (insG_lt hi h25 (by omega)) hIf)⟩, rfl⟩
theorem coB_ins {M : Nat} {l : List Pt} {p : Pt} (h : coB l M) (hp : p.coef.natAbs ≤ 2 ^ 20) : coB (insG false l p) (M + 2 ^ 20) := by
  induction l with
  | nil => intro q hq; simp [insG] at hq; subst hq; omega
  | cons x r ih =>
    have hr : coB r M := fun q hq => h q (by simp [hq])
    have hx := h x (by simp)
    intro q hq
    rw [insG] at hq
    split at hq
    · rcases mem_nzc hq with rfl | hq
      · show (x.coef + p.coef).natAbs ≤ _; omega
      · rw [insG_true] at hq; have := hr q hq; omega
    · split at hq
      · rw [insG_true] at hq
        rcases List.mem_cons.1 hq with rfl | hq
        · omega
        · have := h q hq; omega
      · rcases List.mem_cons.1 hq with rfl | hq
        · omega
        · exact ih hr q hq
theorem cnt_ins {l : List Pt} {p : Pt} : cntPs (insG false l p) ≤ cntPs l + (1 + p.cnt) := by
  induction l with
  | nil => simp [insG, cntPs]
  | cons x r ih =>
    rw [insG]
    split
    · have h1 := nzc_cnt (addQ x p) (insG true r p)
      have h3 : (addQ x p).cnt = x.cnt := by rw [Pt.cnt_eq, Pt.cnt_eq]
      rw [insG_true] at h1 ⊢; simp only [cntPs]; omega
    · split
      · rw [insG_true]; simp only [cntPs]; omega
      · simp only [cntPs]; omega
theorem foldI_step {a b : List Pt} {i : Nat} (hi : i < b.length) : foldI a (b.take (i + 1)) = insG false (foldI a (b.take i)) b[i] := by
  rw [List.take_succ_eq_append_getElem hi, foldI, List.foldl_append]; rfl
theorem coB_fold {a b : List Pt} (ha : coB a (2 ^ 20)) (hb : coB b (2 ^ 20)) : ∀ i, i ≤ b.length → coB (foldI a (b.take i)) (2 ^ 20 + i * 2 ^ 20)
  | 0, _ => by simpa using ha
  | i + 1, h => by
    rw [foldI_step (by omega)]
    have := coB_ins (coB_fold ha hb i (by omega)) (hb b[i] (List.getElem_mem _))
    intro q hq; have := this q hq; omega
theorem cnt_fold {a b : List Pt} : ∀ i, i ≤ b.length → cntPs (foldI a (b.take i)) ≤ cntPs a + cntPs (b.take i)
  | 0, _ => by simp [cntPs]
  | i + 1, h => by
    rw [foldI_step (by omega)]
    have h1 := cnt_fold (a := a) (b := b) i (by omega)
    have h2 := cnt_ins (l := foldI a (b.take i)) (p := b[i])
    have h3 := cntPs_take (l := b) (i := i) (by omega)
    rw [← Pt.cnt_eq] at h3; omega
theorem fold_end {a b : Tm} (ha : vldT a = true) (hb : vldT b = true) : foldI a.ps b.ps = mrg a.ps b.ps := fold_mrg (vld_parts ha) (vld_parts hb) (vld_pw hb)
theorem ins_at (a b : Tm) (hN : a.cnt + b.cnt ≤ 100000) (ha : vldT a = true) (hb : vldT b = true) {i : Nat} (hi : i < b.ps.length) : Pure Tryz.prog 178 [.a (.t (.sl .un 5 ((foldI a.ps (b.ps.take i)).map ptT))), ptC b.ps[i]] (.c (.a (.t (.sl .un 5 ((foldI a.ps (b.ps.take (i + 1))).map ptT))))) := by
  have hla := len_ps b
  rw [foldI_step hi]
  refine insert_any _ _ .un ?_ ?_ ?_
  · have h1 := cnt_fold (a := a.ps) (b := b.ps) i (by omega)
    have h2 := cntPs_take_le b.ps i
    rw [Tm.cnt_eq, Tm.cnt_eq b] at hN; omega
  · intro q hq
    have := coB_fold (vld_coef ha).2 (vld_coef hb).2 i (by omega) q hq
    have : i * 2 ^ 20 ≤ 100000 * 2 ^ 20 := Nat.mul_le_mul_right _ (by omega)
    omega
  · have := (vld_coef hb).2 _ (List.getElem_mem hi); omega
theorem radd_any (a b : Tm) (ha : vldT a = true) (hb : vldT b = true) (hN : a.cnt + b.cnt ≤ 100000) : Pure Tryz.prog 154 [tmC a, tmC b] (trC (add a b)) := by
 intro H
 refine Spec.enter Tryz.func154 rfl ?_
 refine AW.wk (Wk.keep 36 [(0, .c (tmC a)), (1, .c (tmC b))] [] (H) rfl ⟨rfl, rfl, trivial⟩ trivial (fun _ _ h => h) rfl) ?_
 refine sR (Z20 (r := [_, _]) ?_)
 refine Z20 (r := [_, _]) ?_
 refine Z16 (r := [_, _]) Fx.ze32 ?_
 refine sB ?_
 refine AW.seq ?_
 have hlb := len_ps b
 have hca := vld_coef ha
 have hcb := vld_coef hb
 refine AW.reg (Z1 Fx.fl32_0 ?_)
 refine Z0 Fx.ty2 ?_
 refine Z1 Fx.fl32_0 ?_
 refine Z0 Fx.ty2 ?_
 refine Z13 ?_
 refine Z1 Fx.fl32_1 ?_
 refine Z0 Fx.ty30 ?_
 refine Z11 (zs := [_, _]) (r := [_, _]) [(0, 1), (1, 1)] Fx.ze32 Fx.bp32 ?_
 refine Z16 (r := [_, _]) Fx.ze32 ?_
 refine Z2 (r := [_, _]) Fx.ty32 ?_
 refine Z7 (AW.seq (sR (sB ?_)))
 refine AW.block ?_
 refine AW.loop (fun (i : Nat) s => (i ≤ b.ps.length) ∧ s = ⟨36, sp [(2, .lp 2 0), (3, .lp 3 0), (4, .lp 4 0), (5, .c (iC 0)), (6, .lp 6 0), (7, iX .i64 ((i : Nat) : Int))], lv [(2, .box (zTm a)), (3, .box (zTm b)), (4, .box [.t (.v (.int .i64 0)), .t (.v (.slice none 0 0))]), (6, .box [.t (.v (.int .i64 (a.c + b.c))), .t (.sl .un 5 ((foldI a.ps (b.ps.take i)).map ptT))])], H⟩) (fun i => b.ps.length - i) 0 ⟨_, by exact Wk.keep 36 _ _ _ rfl ⟨rfl, rfl, rfl, rfl, rfl, rfl, trivial⟩ ⟨rfl, rfl, rfl, rfl, trivial⟩ (fun _ _ h => h) rfl, Nat.zero_le _, rfl⟩ (fun i s hs => ?_)
 obtain ⟨hi0, rfl⟩ := hs
 refine AW.seq (sR (sM ?_))
 refine Z1 Fx.fl32_1 ?_
 refine Z0 Fx.ty30 ?_
 refine Z22 Fx.un30 ?_
 refine Z30 ?_
 refine Z7 ?_
 refine cD ?_ ?_ <;> intro h20
 ·
  have hi : i < b.ps.length := by rw [List.length_map] at h20; omega
  refine AW.skip (AW.seq (AW.block (AW.draw Fx.mo ?_)))
  refine Z23 Fx.fl32_1 ?_
  refine Z18 Fx.ty30 ?_
  refine Z23 Fx.fl32_1 ?_
  refine Z18 Fx.ty30 ?_
  refine Z44 ?_
  refine Z29 Fx.sl30 (idx_map (f := ptT) hi) ?_
  refine Z32 (.g [_, _, _, _, _]) Fx.ty89 ?_
  refine Z45 Fx.fn178 (ins_at a b hN ha hb hi) ?_
  refine Z23 Fx.fl32_1 ?_
  refine Z40 (r := [_, _]) Fx.ty30 ?_
  refine Z48 ?_
  refine AW.reg (sM ?_)
  refine Z13 ?_
  refine sB ?_
  exact ⟨i + 1, _, by exact Wk.keep 36 _ _ _ rfl ⟨rfl, rfl, rfl, rfl, rfl, rfl, trivial⟩ ⟨rfl, rfl, rfl, rfl, trivial⟩ (fun _ _ h => h) rfl, by omega, hi, rfl⟩
 refine AW.exit ?_
 refine eth_e ?_
 refine eth_e ?_
 refine exit_here ?_
 refine AW.seq ?_
 have hij : i = b.ps.length := by rw [List.length_map] at h20; omega
 subst hij
 rw [List.take_length, fold_end ha hb]
 refine AW.reg (Z10 (r := .g [_, _]) Fx.ty32 ?_)
 refine SeqK.q (q_call _ rfl Fx.fn120 rfl (limited_any (sumT a b) (sum_bok ha hb).1 (by have := sum_cnt a b; omega)) rfl) rfl rfl rfl ?_
 refine Z6 ?_
 refine Z6 ?_
 refine Z2 (r := [_, _]) Fx.ty32 ?_
 refine sB ?_
 exact aR (f2 (.cellL rfl rfl Fx.ty32 rfl rfl (.tmp rfl .nil)) (⟨rfl, rfl⟩))
theorem add_cnt (a b : Tm) : (add a b).1.cnt ≤ a.cnt + b.cnt := by
  have h1 := lim_cnt' (t := sumT a b)
  have h2 := sum_cnt a b
  unfold add; omega
def dd (l : List Int) : List Int := Lib.compact (l.mergeSort fun x y => decide (x ≤ y))
abbrev sI (l : List Int) : Prop := l.Pairwise (· < ·)
theorem sI_ext : ∀ {l m : List Int}, sI l → sI m → (∀ x, x ∈ l ↔ x ∈ m) → l = m
  | [], [], _, _, _ => rfl
  | [], y :: m, _, _, h => absurd ((h y).2 (by simp)) (by simp)
  | x :: l, [], _, _, h => absurd ((h x).1 (by simp)) (by simp)
  | x :: l, y :: m, hl, hm, h => by
    have h1 := List.pairwise_cons.1 hl
    have h2 := List.pairwise_cons.1 hm
    have hxy : x = y := by
      have a := (h x).1 (by simp)
      have b := (h y).2 (by simp)
      rcases List.mem_cons.1 a with e | e
      · exact e
      · rcases List.mem_cons.1 b with f | f
        · exact f.symm
        · have := h2.1 x e; have := h1.1 y f; omega
    subst hxy
    rw [sI_ext h1.2 h2.2 fun z => ?_]
    constructor
    · intro hz
      rcases List.mem_cons.1 ((h z).1 (List.mem_cons_of_mem _ hz)) with e | e
      · have := h1.1 z hz; omega
      · exact e
    · intro hz
      rcases List.mem_cons.1 ((h z).2 (List.mem_cons_of_mem _ hz)) with e | e
      · have := h2.1 z hz; omega
      · exact e
theorem cm_len (l : List Int) : (Lib.compact l).length ≤ l.length := Lib.compact_length_le l
theorem cm_upTo (d : Array Int) (hd : ∀ i j, i ≤ j → j < d.size → d[i]! ≤ d[j]!) : ∀ m, m ≤ d.size → sI (Lib.compactUpTo d m) ∧ (∀ x, x ∈ Lib.compactUpTo d m ↔ ∃ j, j < m ∧ d[j]! = x)
  | 0, _ => ⟨by simp [Lib.compactUpTo, sI], by simp [Lib.compactUpTo]⟩
  | m + 1, h => by
    obtain ⟨h1, h2⟩ := cm_upTo d hd m (by omega)
    rw [Lib.compactUpTo_succ]
    by_cases hk : Lib.keeps d m = true
    · rw [if_pos hk]
      refine ⟨List.pairwise_append.2 ⟨h1, by simp, fun a ha b hb => ?_⟩, fun x => ?_⟩
      · obtain ⟨j, hj, rfl⟩ := (h2 a).1 ha
        simp at hb; subst hb
        have hne : d[m]! ≠ d[m - 1]! := by
          have : m = 0 ∨ d[m]! ≠ d[m - 1]! := by simpa [Lib.keeps] using hk
          rcases this with e | e
          · omega
          · exact e
        have e1 := hd j (m - 1) (by omega) (by omega)
        have e2 := hd (m - 1) m (by omega) (by omega)
        omega
      · rw [List.mem_append, h2]
        constructor
        · rintro (⟨j, hj, e⟩ | e)
          · exact ⟨j, by omega, e⟩
          · exact ⟨m, by omega, (List.mem_singleton.1 e).symm⟩
        · rintro ⟨j, hj, e⟩
          by_cases hjm : j = m
          · subst hjm; exact .inr (by simp [e])
          · exact .inl ⟨j, by omega, e⟩
    · rw [if_neg hk, List.append_nil]
      refine ⟨h1, fun x => ?_⟩
      have hk2 : m ≠ 0 ∧ d[m]! = d[m - 1]! := by
        have : ¬ (m = 0 ∨ d[m]! ≠ d[m - 1]!) := by simpa [Lib.keeps] using hk
        omega
      rw [h2]
      constructor
      · rintro ⟨j, hj, e⟩; exact ⟨j, by omega, e⟩
      · rintro ⟨j, hj, e⟩
        by_cases hjm : j = m
        · subst hjm; exact ⟨j - 1, by omega, by rw [← hk2.2]; exact e⟩
        · exact ⟨j, by omega, e⟩
theorem cm_sorted {l : List Int} (h : l.Pairwise (· ≤ ·)) : sI (Lib.compact l) ∧ ∀ x, x ∈ Lib.compact l ↔ x ∈ l := by
  have hd : ∀ i j, i ≤ j → j < l.toArray.size → l.toArray[i]! ≤ l.toArray[j]! := fun i j hij hj => by
    have hj : j < l.length := by simpa using hj
    rw [getElem!_pos l.toArray i (by simp; omega), getElem!_pos l.toArray j (by simp; omega)]
    by_cases e : i = j
    · subst e; exact Int.le_refl _
    · exact List.pairwise_iff_getElem.1 h i j (by omega) hj (by omega)
  obtain ⟨h1, h2⟩ := cm_upTo l.toArray hd l.length (by simp)
  refine ⟨h1, fun x => (h2 x).trans ?_⟩
  constructor
  · rintro ⟨j, hj, rfl⟩
    rw [getElem!_pos l.toArray j (by simp; omega)]; simp
  · intro hx
    obtain ⟨j, hj, rfl⟩ := List.mem_iff_getElem.1 hx
    exact ⟨j, hj, by rw [getElem!_pos l.toArray j (by simp; omega)]; simp⟩
theorem dd_spec (l : List Int) : sI (dd l) ∧ ∀ x, x ∈ dd l ↔ x ∈ l := by
  have h : (l.mergeSort fun x y => decide (x ≤ y)).Pairwise (· ≤ ·) := (List.pairwise_mergeSort (le := fun x y : Int => decide (x ≤ y)) (fun a b c => by simp; omega) (fun a b => by simp; omega) l).imp fun {a b} h => by simpa using h
  obtain ⟨h1, h2⟩ := cm_sorted h
  exact ⟨h1, fun x => (h2 x).trans (List.mem_mergeSort ..)⟩
theorem dd_len (l : List Int) : (dd l).length ≤ l.length := by
  have := cm_len (l.mergeSort fun x y => decide (x ≤ y))
  rw [List.length_mergeSort] at this; exact this
theorem dd_eq {l m : List Int} (h : sI m) (hm : ∀ x, x ∈ m ↔ x ∈ l) : m = dd l := sI_ext h (dd_spec l).1 fun x => (hm x).trans ((dd_spec l).2 x).symm
theorem dd_of {l m : List Int} (h : ∀ x, x ∈ l ↔ x ∈ m) : dd l = dd m := dd_eq (dd_spec l).1 fun x => ((dd_spec l).2 x).trans (h x)
theorem dd_self {l : List Int} (h : sI l) : dd l = l := (dd_eq h fun _ => Iff.rfl).symm
theorem dd_app (l m : List Int) : dd (dd l ++ m) = dd (l ++ m) := dd_of fun x => by rw [List.mem_append, List.mem_append, (dd_spec l).2]
theorem dd_app2 (l m : List Int) : dd (l ++ dd m) = dd (l ++ m) := dd_of fun x => by rw [List.mem_append, List.mem_append, (dd_spec m).2]
mutual
def colT : Tm → List Int
  | .mk _ ps => colPs ps
def colPs : List Pt → List Int
  | [] => []
  | p :: r => colP p ++ colPs r
def colP : Pt → List Int
  | .mk _ k v _ of => if k = 2 then colO of else [v]
def colO : List Tm → List Int
  | [] => []
  | t :: _ => colT t
end
theorem colT_eq (t : Tm) : colT t = colPs t.ps := by cases t; rw [colT]
theorem colP_eq (p : Pt) : colP p = if p.kind = 2 then colO p.of else [p.var] := by cases p; rw [colP]
theorem colO_eq {l : List Tm} (h : 0 < l.length) : colO l = colT l[0] := by
  cases l with
  | nil => simp at h
  | cons o r => rw [colO]; rfl
theorem colPs_app (a b : List Pt) : colPs (a ++ b) = colPs a ++ colPs b := by
  induction a with
  | nil => rw [List.nil_append, colPs]; rfl
  | cons p r ih => rw [List.cons_append, colPs, colPs, ih, List.append_assoc]
theorem colPs_take {l : List Pt} {i : Nat} (h : i < l.length) : colPs (l.take (i + 1)) = colPs (l.take i) ++ colP l[i] := by
  rw [List.take_succ_eq_append_getElem h, colPs_app, colPs, colPs, List.append_nil]
theorem colP_div {p : Pt} (h : p.kind = 2) (h0 : 0 < p.of.length) : colP p = colT p.of[0] := by rw [colP_eq, if_pos h, colO_eq h0]
theorem colP_var {p : Pt} (h : ¬ p.kind = 2) : colP p = [p.var] := by rw [colP_eq, if_neg h]
theorem col_len (t : Tm) : (colT t).length ≤ t.cnt := by
  induction t using Tm.ind with
  | h t ih =>
    rw [colT_eq, Tm.cnt_eq]
    have : ∀ l : List Pt, (∀ p ∈ l, ∀ o ∈ p.of, (colT o).length ≤ o.cnt) → (colPs l).length ≤ cntPs l := by
      intro l
      induction l with
      | nil => intro _; simp [colPs]
      | cons p r ih2 =>
        intro h
        have h1 := ih2 fun q hq => h q (by simp [hq])
        have h2 : (colP p).length ≤ 1 + p.cnt := by
          rw [colP_eq]
          split
          · cases ho : p.of with
            | nil => simp [colO]
            | cons o s =>
              have h3 := h p (by simp) o (by simp [ho])
              have h4 := cntTs_mem (show o ∈ p.of by simp [ho])
              rw [colO, Pt.cnt_eq]; omega
          · simp
        simp only [colPs, List.length_append, cntPs]; omega
    have := this t.ps ih
    omega
abbrev vars (t : Tm) : List Int := dd (colT t)
theorem vars_len (t : Tm) : (vars t).length ≤ t.cnt := Nat.le_trans (dd_len _) (col_len t)
abbrev iA (n : Int) : A := .t (.v (.int .i64 n))
theorem flatI (l : List Int) : (l.map i64T).flatten.map A.t = l.map iA := by
  induction l with
  | nil => rfl
  | cons n r ih => simp only [List.map_cons, List.flatten_cons, List.map_append, ih]; rfl
theorem sortV (H : Heap) (k : Nat) (l : List Int) (hk : H k = some (.row 3 1 (l.map iA))) (hl : l.length ≤ 1000000) :
    E.Spec Tryz.prog 66 [.a (.os k 0 l.length 1)] H fun x H' => x = .tup [] ∧ H' = upd H k (some (.row 3 1 ((l.mergeSort fun x y => decide (x ≤ y)).map iA))) :=
  E.Spec.sort (Value.int .i64) (fun _ => rfl) (fun l => l.mergeSort fun x y => decide (x ≤ y)) (fun l => List.length_mergeSort l) (fun blk off cap zs w => Tryz.slices_Sort_int blk off cap zs w) (fun p cap w => Tryz.slices_Sort_int_none p cap w) H k 3 l hk (by omega)
theorem cm_nil : Lib.compact ([] : List Int) = [] := rfl
theorem cm_pos (l : List Int) (h : l ≠ []) : 0 < (Lib.compact l).length := by
  cases l with
  | nil => exact absurd rfl h
  | cons x r =>
    have : Lib.compactUpTo (x :: r).toArray (r.length + 1) ≠ [] := by
      unfold Lib.compactUpTo
      rw [List.range_succ_eq_map]
      simp [Lib.keeps]
    exact List.length_pos_iff.2 this
theorem compactV (H : Heap) (k : Nat) (l : List Int) (hk : H k = some (.row 3 1 (l.map iA))) (hl : l.length ≤ 1000000) :
    E.Spec Tryz.prog 67 [.a (.os k 0 l.length 1)] H fun x H' => x = .c (.a (.os k 0 (Lib.compact l).length 1)) ∧ H' = upd H k (some (.row 3 1 ((Lib.compact l).map iA))) :=
  E.Spec.compact (Value.int .i64) (fun _ => rfl) Lib.compact 0 cm_len cm_pos cm_nil (fun blk off cap zs w => Tryz.slices_Compact_int blk off cap zs w) (fun p cap w => Tryz.slices_Compact_int_empty p cap w) H k 3 l hk (by omega)
theorem vars_of (H : Heap) (t : Tm) (hv : vldT t = true) (hN : t.cnt ≤ 100000) (ih : ∀ p ∈ t.ps, ∀ o ∈ p.of, vldT o = true → Pure Tryz.prog 101 [tmC o] (.c (iL .un (vars o)))) : E.Spec Tryz.prog 101 [tmC t] H fun x H' => ∃ k, H k = none ∧ x = .c (.a (.os k 0 (vars t).length 1)) ∧ H' = upd H k (some (.row 3 1 ((vars t).map iA))) := by
 refine Spec.enter Tryz.func101 rfl ?_
 refine AW.wk (Wk.keep 33 [(0, .c (tmC t))] [] (H) rfl ⟨rfl, trivial⟩ trivial (fun _ _ h => h) rfl) ?_
 refine sR (Z20 (r := [_, _]) ?_)
 refine sB ?_
 refine AW.seq ?_
 have hlt := len_ps t
 have hvp := vld_parts hv
 refine AW.reg (sB ?_)
 refine AW.seq (sR (Z1 Fx.fl32_1 ?_))
 refine Z0 Fx.ty30 ?_
 refine Z22 Fx.un30 ?_
 refine sM ?_
 refine Z7 (AW.block ?_)
 refine AW.row 3 3 1 rfl (fun k0 hk0 => ?_)
 refine AW.loop (fun (i : Nat) s => ∃ (k : Nat) (xs : List Int), (i ≤ t.ps.length ∧ H k = none ∧ xs.length ≤ cntPs (t.ps.take i) ∧ dd xs = dd (colPs (t.ps.take i))) ∧ s = ⟨33, sp [(1, .lp 1 0), (2, .c (.a (.t (.v (.slice none 0 0))))), (3, .c (.a (.os k 0 xs.length 1))), (7, .c (.a (.t (.sl .un 5 (t.ps.map ptT))))), (8, iX .i64 (((t.ps.map ptT).length : Nat) : Int)), (9, iX .i64 ((i : Nat) : Int))], lv [(1, .box (zTm t))], upd H k (some (.row 3 1 (xs.map iA)))⟩) (fun i => t.ps.length - i) 0 ⟨_, by exact Wk.keep 33 _ _ _ rfl ⟨rfl, rfl, rfl, rfl, rfl, rfl, trivial⟩ ⟨rfl, trivial⟩ (fun _ _ h => h) rfl, k0, [], ⟨Nat.zero_le _, hk0, by simp, rfl⟩, rfl⟩ (fun i s hs => ?_)
 obtain ⟨k, xs, ⟨hi0, hk, hxl, hI⟩, rfl⟩ := hs
 refine sR (Z30 ?_)
 refine Z7 (AW.seq ?_)
 refine cD ?_ ?_ <;> intro h10
 ·
  have hi : i < t.ps.length := by rw [List.length_map] at h10; omega
  have hvk := vldP_vok (hvp _ (List.getElem_mem hi))
  refine AW.skip (AW.seq (AW.block (sR (Z24 Fx.sl30 (idx_map (f := ptT) hi) ?_))))
  refine Z28 (.g [_, _, _, _, _]) Fx.ty89 ?_
  refine Z16 (r := [_, _, _, _, _]) Fx.ze89 ?_
  refine Z2 (r := [_, _, _, _, _]) Fx.ty89 ?_
  refine Z7 (sR (Z1 Fx.fl89_1 ?_))
  refine Z0 Fx.ty3 ?_
  refine Z9 ?_
  refine Z7 ?_
  refine cD ?_ ?_ <;> intro h15
  ·
   obtain ⟨hd, hp0, hvo⟩ : 1 ≤ t.ps[i].dv ∧ ∃ h : 0 < t.ps[i].of.length, vldT t.ps[i].of[0] = true := hvk.dv h15
   refine AW.reg (sM ?_)
   refine Z1 Fx.fl89_4 ?_
   refine Z0 Fx.ty87 ?_
   refine Z24 Fx.sl87 (idx_tm hp0) ?_
   refine Z28 (.g [_, _]) Fx.ty32 ?_
   refine Z12 Fx.fn101 (ih _ (List.getElem_mem hi) _ (List.getElem_mem hp0) hvo) ?_
   refine SeqK.appR1 rfl (by assumption) rfl Fx.el80 rfl (by simp) rfl (by have := vars_len t.ps[i].of[0]; have := cnt_of (List.getElem_mem hi) (List.getElem_mem hp0); have := cntPs_take_le t.ps i; have := Tm.cnt_eq t; simp; omega) rfl rfl (fun k22 hk22 => ?_)
   rw [flatI, ← List.map_append, show xs.length + ((vars t.ps[i].of[0]).map i64T).length = (xs ++ vars t.ps[i].of[0]).length by simp]
   refine sB ?_
   refine AW.reg (Z13 ?_)
   refine sM ?_
   refine Z7 ?_
   exact ⟨i + 1, _, by exact Wk.keep 33 _ _ _ rfl ⟨rfl, rfl, rfl, rfl, rfl, rfl, trivial⟩ ⟨rfl, trivial⟩ (fun _ _ h => h) rfl, by omega, k22, xs ++ vars t.ps[i].of[0], ⟨by omega, hk22, by have := vars_len t.ps[i].of[0]; have := cntTs_mem (List.getElem_mem hp0); have := cntPs_take hi; simp; omega, by rw [dd_app2, ← dd_app, hI, dd_app, colPs_take hi, colP_div h15 hp0]⟩, rfl⟩
  refine AW.reg (sM ?_)
  refine Z1 Fx.fl89_2 ?_
  refine Z0 Fx.ty3 ?_
  refine Z27 Fx.el80 ?_
  refine SeqK.appR1 rfl (by assumption) rfl Fx.el80 rfl (by simp) rfl (by have := cntPs_take_le t.ps i; have := Tm.cnt_eq t; simp; omega) rfl rfl (fun k27 hk27 => ?_)
  rw [show List.map iA xs ++ List.map A.t (List.flatten [[E.T.v (.int .i64 t.ps[i].var)]]) = (xs ++ [t.ps[i].var]).map iA by simp, show xs.length + [[E.T.v (.int .i64 t.ps[i].var)]].length = (xs ++ [t.ps[i].var]).length by simp]
  refine sB ?_
  refine AW.reg (Z13 ?_)
  refine sM ?_
  refine Z7 ?_
  exact ⟨i + 1, _, by exact Wk.keep 33 _ _ _ rfl ⟨rfl, rfl, rfl, rfl, rfl, rfl, trivial⟩ ⟨rfl, trivial⟩ (fun _ _ h => h) rfl, by omega, k27, xs ++ [t.ps[i].var], ⟨by omega, hk27, by have := cntPs_take hi; simp; omega, by rw [← dd_app, hI, dd_app, colPs_take hi, colP_var h15]⟩, rfl⟩
 refine AW.exit ?_
 refine eth_e ?_
 refine eth_e ?_
 refine exit_here ?_
 refine AW.seq ?_
 have hx1 := cntPs_take_le t.ps i
 have hx2 := Tm.cnt_eq t
 have hxb : xs.length ≤ 1000000 := by omega
 have hil : i = t.ps.length := by rw [List.length_map] at h10; omega
 subst hil
 rw [List.take_length] at hI
 have hvx : vars t = dd xs := by rw [vars, colT_eq, hI]
 refine AW.reg (sM ?_)
 refine SeqK.callE rfl rfl rfl rfl Fx.fn66 rfl (sortV _ k xs (upd_same _ _ _) (by omega)) (fun _ _ ⟨h, _⟩ => by rw [h]; rfl) (fun x30 H30 q30 => ?_)
 obtain ⟨rfl, hHs⟩ := q30
 rw [upd_upd] at hHs
 subst hHs
 have hml : (xs.mergeSort fun x y => decide (x ≤ y)).length = xs.length := List.length_mergeSort xs
 rw [← hml]
 refine Z7 (sR (sM ?_))
 refine SeqK.callE rfl rfl rfl rfl Fx.fn67 rfl (compactV _ k _ (upd_same _ _ _) (by omega)) (fun _ _ ⟨h, _⟩ => by rw [h]; rfl) (fun x32 H32 q32 => ?_)
 obtain ⟨rfl, hHs⟩ := q32
 rw [upd_upd] at hHs
 subst hHs
 refine sB ?_
 exact aR (fin_x (x := .c _) (_) (.tmp rfl .nil) rfl (fun _ _ h => h) (⟨k, hk, by rw [hvx]; rfl, by rw [hvx]; rfl⟩))
theorem vars_any (t : Tm) : vldT t = true → t.cnt ≤ 100000 → Pure Tryz.prog 101 [tmC t] (.c (iL .un (vars t))) := by
  induction t using Tm.ind with
  | h t ih =>
    intro hv hN H
    refine E.Spec.freeze (vars_of H t hv hN fun p hp o ho hvo => ih p hp o ho hvo (by have := cnt_of hp ho; omega)) fun x H' ⟨k, hk, hx, hH⟩ => ?_
    subst hx hH
    refine ⟨k, 1, 3, (vars t).map i64T, by rw [upd_same, flatI], fun e he => by obtain ⟨p, _, rfl⟩ := List.mem_map.1 he; rfl, by decide, ?_, upd_back hk⟩
    simp [fzX, fzC, fzA]
mutual
def Ex.siz : Ex → Nat
  | .mk _ _ _ _ _ _ _ args => 1 + sizEs args
def sizEs : List Ex → Nat
  | [] => 0
  | a :: r => a.siz + sizEs r
end
mutual
def Ex.mds : Ex → Nat
  | .mk op _ _ _ _ _ _ args => (if op = 8 then 1 else 0) + mdsEs args
def mdsEs : List Ex → Nat
  | [] => 0
  | a :: r => a.mds + mdsEs r
end
theorem siz_eq (e : Ex) : e.siz = 1 + sizEs e.args := by cases e; rw [Ex.siz]
theorem mds_eq (e : Ex) : e.mds = (if e.op = 8 then 1 else 0) + mdsEs e.args := by cases e; rw [Ex.mds]
theorem siz_pos (e : Ex) : 1 ≤ e.siz := by rw [siz_eq]; omega
mutual
def rgE' : Ex → Prop
  | .mk _ _ _ ix _ vn vs args => (R64 ix ∧ R64 vn ∧ vs.size ≤ 1152921504606846976 ∧ args.length ≤ 1000000000000000000) ∧ rgEs args
def rgEs : List Ex → Prop
  | [] => True
  | a :: r => rgE' a ∧ rgEs r
end
theorem rgEs_iff {l : List Ex} : rgEs l ↔ ∀ a ∈ l, rgE' a := by
  induction l with
  | nil => simp [rgEs]
  | cons a r ih => simp [rgEs, ih]
theorem rgE_eq (e : Ex) : rgE' e ↔ (R64 e.ix ∧ R64 e.vn ∧ e.vs.size ≤ 1152921504606846976 ∧ e.args.length ≤ 1000000000000000000) ∧ ∀ a ∈ e.args, rgE' a := by
  cases e; simp only [rgE', rgEs_iff]
theorem opsR_ne : ∀ rs : List (Tm × Int), (opsR rs).2 ≠ 0
  | [] => by decide
  | r :: l => by
    rw [opsR]; split
    · rename_i h; exact h
    · exact opsR_ne l
inductive OkE (e : Ex) : Prop
  | lit (h1 : e.op = 1) (h2 : e.vk = 1) (h3 : ofE e = (⟨e.vn, []⟩, 0)) (h4 : smallB ⟨e.vn, []⟩ = true)
  | col (h1 : e.op = 2) (h2 : 0 ≤ e.ix) (h3 : ofE e = (⟨0, [⟨1, 0, e.ix, 0, []⟩]⟩, 0)) (h4 : smallB ⟨0, [⟨1, 0, e.ix, 0, []⟩]⟩ = true)
  | lenT (a : Ex) (h1 : e.op = 9) (h2 : e.args = [a]) (h3 : a.op = 1) (h4 : ofE e = (⟨(a.vs.size : Int), []⟩, 0)) (h5 : smallB ⟨(a.vs.size : Int), []⟩ = true)
  | lenC (a : Ex) (h1 : e.op = 9) (h2 : e.args = [a]) (h3 : a.op = 2) (h0 : 0 ≤ a.ix) (h4 : ofE e = (⟨0, [⟨1, 1, a.ix, 0, []⟩]⟩, 0)) (h5 : smallB ⟨0, [⟨1, 1, a.ix, 0, []⟩]⟩ = true)
  | neg (a : Ex) (h1 : e.op = 3) (h2 : e.args = [a]) (h3 : (ofE a).2 = 0) (h4 : ofE e = scale (ofE a).1 (-1))
  | bin (a b : Ex) (h1 : 4 ≤ e.op ∧ e.op ≤ 8) (h2 : e.args = [a, b]) (h3 : (ofE a).2 = 0) (h4 : (ofE b).2 = 0) (h5 : ofE e = comb e.op (ofE a).1 (ofE b).1)
theorem okE_inv {e : Ex} (h : (ofE e).2 = 0) : OkE e := by
  have hE := ofE_eq e
  rw [hE] at h
  unfold stepE at h hE
  by_cases h1 : e.op = 1 ∨ e.op = 2 ∨ e.op = 9
  · rw [if_pos h1] at h hE
    unfold leafE at h hE
    by_cases h9 : e.op = 9
    · rw [if_pos h9] at h hE
      cases ha : e.args with
      | nil => rw [ha] at h; exact absurd h (opsR_ne _)
      | cons a r =>
        cases r with
        | cons b s => rw [ha] at h; exact absurd h (opsR_ne _)
        | nil =>
          rw [ha] at h hE
          simp only [lenL, lenE] at h hE
          by_cases k1 : 0 < a.args.length
          · rw [if_pos k1] at h; exact absurd h (opsR_ne _)
          · rw [if_neg k1] at h hE
            by_cases k2 : a.op = 1 ∧ a.vk = 2
            · rw [if_pos k2] at h hE
              obtain ⟨l1, l2⟩ := lim_ok h
              exact .lenT a h9 ha k2.1 (hE.trans l1) l2
            · rw [if_neg k2] at h hE
              by_cases k3 : a.op = 2 ∧ 0 ≤ a.ix
              · rw [if_pos k3] at h hE
                obtain ⟨l1, l2⟩ := lim_ok h
                exact .lenC a h9 ha k3.1 k3.2 (hE.trans l1) l2
              · rw [if_neg k3] at h; exact absurd h (opsR_ne _)
    · rw [if_neg h9] at h hE
      by_cases k1 : 0 < e.args.length
      · rw [if_pos k1] at h; exact absurd h (opsR_ne _)
      · rw [if_neg k1] at h hE
        by_cases k2 : e.op = 1 ∧ e.vk = 1
        · rw [if_pos k2] at h hE
          obtain ⟨l1, l2⟩ := lim_ok h
          exact .lit k2.1 k2.2 (hE.trans l1) l2
        · rw [if_neg k2] at h hE
          by_cases k3 : e.op = 2 ∧ 0 ≤ e.ix
          · rw [if_pos k3] at h hE
            obtain ⟨l1, l2⟩ := lim_ok h
            exact .col k3.1 k3.2 (hE.trans l1) l2
          · rw [if_neg k3] at h; cases h
  · rw [if_neg h1] at h hE
    by_cases h3 : e.op = 3
    · rw [if_pos h3] at h hE
      cases ha : e.args with
      | nil => rw [ha] at h; exact absurd h (opsR_ne _)
      | cons a r =>
        cases r with
        | cons b s => rw [ha] at h; exact absurd h (opsR_ne _)
        | nil =>
          rw [ha] at h hE
          simp only [List.map_cons, List.map_nil, unR] at h hE
          by_cases k1 : (ofE a).2 ≠ 0
          · rw [if_pos k1] at h; exact absurd h k1
          · rw [if_neg k1] at hE
            exact .neg a h3 ha (Classical.not_not.1 k1) hE
    · rw [if_neg h3] at h hE
      by_cases h4 : e.op = 4 ∨ e.op = 5 ∨ e.op = 6 ∨ e.op = 7 ∨ e.op = 8
      · rw [if_pos h4] at h hE
        cases ha : e.args with
        | nil => rw [ha] at h; exact absurd h (opsR_ne _)
        | cons a r =>
          cases r with
          | nil => rw [ha] at h; exact absurd h (opsR_ne _)
          | cons b s =>
            cases s with
            | cons _ _ => rw [ha] at h; exact absurd h (opsR_ne _)
            | nil =>
              rw [ha] at h hE
              simp only [List.map_cons, List.map_nil, binR] at h hE
              by_cases k1 : (ofE a).2 ≠ 0
              · rw [if_pos k1] at h; exact absurd h k1
              · rw [if_neg k1] at h hE
                by_cases k2 : (ofE b).2 ≠ 0
                · rw [if_pos k2] at h; exact absurd h k2
                · rw [if_neg k2] at hE
                  exact .bin a b (by omega) ha (Classical.not_not.1 k1) (Classical.not_not.1 k2) hE
      · rw [if_neg h4] at h; exact absurd h (opsR_ne _)
inductive OkC (op : Int) (a b : Tm) : Prop
  | add (h1 : op = 4) (h2 : comb op a b = W.add a b)
  | sub (h1 : op = 5) (h3 : (scale b (-1)).2 = 0) (h2 : comb op a b = W.add a (scale b (-1)).1)
  | mulL (h1 : op = 6) (h3 : a.ps = []) (h2 : comb op a b = scale b a.c)
  | mulR (h1 : op = 6) (h3 : b.ps = []) (h2 : comb op a b = scale a b.c)
  | div (h1 : op = 7) (h3 : b.ps = []) (h4 : 1 ≤ b.c ∧ b.c ≤ 1000) (h5 : (W.div a b.c).2 = 0) (h2 : comb op a b = W.div a b.c)
  | mod (h1 : op = 8) (h3 : b.ps = []) (h4 : 1 ≤ b.c ∧ b.c ≤ 1000) (h5 : (W.div a b.c).2 = 0) (h6 : (scale (W.div a b.c).1 (-b.c)).2 = 0) (h2 : comb op a b = W.add a (scale (W.div a b.c).1 (-b.c)).1)
theorem ps_nil {t : Tm} (h : t.ps.length = 0) : t.ps = [] := List.eq_nil_of_length_eq_zero h
theorem comb_inv {op : Int} {a b : Tm} (ho : 4 ≤ op ∧ op ≤ 8) (h : (comb op a b).2 = 0) : OkC op a b := by
  have hE : comb op a b = comb op a b := rfl
  conv at hE => rhs; unfold comb
  unfold comb at h
  by_cases h4 : op = 4
  · rw [if_pos h4] at hE; exact .add h4 hE
  · rw [if_neg h4] at h hE
    by_cases h5 : op = 5
    · rw [if_pos h5] at h hE
      by_cases k : (scale b (-1)).2 ≠ 0
      · rw [if_pos k] at h; exact absurd h k
      · rw [if_neg k] at hE; exact .sub h5 (Classical.not_not.1 k) hE
    · rw [if_neg h5] at h hE
      by_cases h6 : op = 6
      · rw [if_pos h6] at h hE
        by_cases k : a.ps.length = 0
        · rw [if_pos k] at hE; exact .mulL h6 (ps_nil k) hE
        · rw [if_neg k] at h hE
          by_cases k2 : b.ps.length = 0
          · rw [if_pos k2] at hE; exact .mulR h6 (ps_nil k2) hE
          · rw [if_neg k2] at h; cases h
      · rw [if_neg h6] at h hE
        by_cases k : 0 < b.ps.length ∨ b.c < 1 ∨ b.c > 1000
        · rw [if_pos k] at h; cases h
        · rw [if_neg k] at h hE
          have hb : b.ps = [] := ps_nil (by omega)
          by_cases k2 : (W.div a b.c).2 ≠ 0 ∨ op = 7
          · rw [if_pos k2] at h hE
            exact .div (by omega) hb (by omega) h hE
          · rw [if_neg k2] at h hE
            by_cases k3 : (scale (W.div a b.c).1 (-b.c)).2 ≠ 0
            · rw [if_pos k3] at h; exact absurd h k3
            · rw [if_neg k3] at hE
              exact .mod (by omega) hb (by omega) (by omega) (Classical.not_not.1 k3) hE
theorem vld_c {n : Int} (h : smallB ⟨n, []⟩ = true) : vldT ⟨n, []⟩ = true := by
  rw [vldT_eq, h]; rfl
theorem vld_v {k v : Int} (hk : k = 0 ∨ k = 1) (hv : 0 ≤ v) (h : smallB ⟨0, [⟨1, k, v, 0, []⟩]⟩ = true) : vldT ⟨0, [⟨1, k, v, 0, []⟩]⟩ = true := by
  rw [vldT_eq, h]
  simp [vldPs, vldP, ascB, hk, hv]
theorem comb_vld {op : Int} {a b : Tm} (ho : 4 ≤ op ∧ op ≤ 8) (ha : vldT a = true) (hb : vldT b = true) (h : (comb op a b).2 = 0) : vldT (comb op a b).1 = true := by
  cases comb_inv ho h with
  | add h1 h2 => rw [h2]; exact sum_vld ha hb
  | sub h1 h3 h2 => rw [h2]; exact sum_vld ha (scale_vld' hb)
  | mulL h1 h3 h2 => rw [h2]; exact scale_vld' hb
  | mulR h1 h3 h2 => rw [h2]; exact scale_vld' ha
  | div h1 h3 h4 h5 h2 => rw [h2]; exact div_vld' ha
  | mod h1 h3 h4 h5 h6 h2 => rw [h2]; exact sum_vld ha (scale_vld' (div_vld' ha))
theorem comb_cnt {op : Int} {a b : Tm} (ho : 4 ≤ op ∧ op ≤ 8) (h : (comb op a b).2 = 0) : (comb op a b).1.cnt ≤ (if op = 8 then 2 else 1) * a.cnt + b.cnt + 2 := by
  cases comb_inv ho h with
  | add h1 h2 => rw [h2, if_neg (by omega)]; have := add_cnt a b; omega
  | sub h1 h3 h2 => rw [h2, if_neg (by omega)]; have := add_cnt a (scale b (-1)).1; have := scale_cnt b (-1); omega
  | mulL h1 h3 h2 => rw [h2, if_neg (by omega)]; have := scale_cnt b a.c; omega
  | mulR h1 h3 h2 => rw [h2, if_neg (by omega)]; have := scale_cnt a b.c; omega
  | div h1 h3 h4 h5 h2 => rw [h2, if_neg (by omega)]; have := div_cnt a b.c; omega
  | mod h1 h3 h4 h5 h6 h2 =>
    rw [h2, if_pos h1]
    have := add_cnt a (scale (W.div a b.c).1 (-b.c)).1
    have := scale_cnt (W.div a b.c).1 (-b.c)
    have := div_cnt a b.c
    omega
theorem ofE_gd (e : Ex) : (ofE e).2 = 0 → vldT (ofE e).1 = true ∧ (ofE e).1.cnt ≤ 3 * (e.siz * 2 ^ e.mds) := by
  induction e using Ex.ind with
  | h e ih =>
    intro h
    have hs := siz_pos e
    have hp : 1 ≤ 2 ^ e.mds := Nat.one_le_two_pow
    have h0 : 1 ≤ e.siz * 2 ^ e.mds := Nat.mul_pos hs hp
    cases okE_inv h with
    | lit h1 h2 h3 h4 => rw [h3]; exact ⟨vld_c h4, by simp [Tm.cnt, cntPs]; omega⟩
    | col h1 h2 h3 h4 => rw [h3]; exact ⟨vld_v (.inl rfl) h2 h4, by simp [Tm.cnt, cntPs, Pt.cnt, cntTs]; omega⟩
    | lenT a h1 h2 h3 h4 h5 => rw [h4]; exact ⟨vld_c h5, by simp [Tm.cnt, cntPs]; omega⟩
    | lenC a h1 h2 h3 h0 h4 h5 => rw [h4]; exact ⟨vld_v (.inr rfl) h0 h5, by simp [Tm.cnt, cntPs, Pt.cnt, cntTs]; omega⟩
    | neg a h1 h2 h3 h4 =>
      rw [h4]
      obtain ⟨i1, i2⟩ := ih a (by rw [h2]; simp) h3
      refine ⟨scale_vld' i1, ?_⟩
      have k1 := scale_cnt (ofE a).1 (-1)
      have k2 : e.siz = 1 + a.siz := by rw [siz_eq, h2]; simp [sizEs]
      have k3 : e.mds = a.mds := by rw [mds_eq, h2, if_neg (by omega)]; simp [mdsEs]
      rw [k2, k3, Nat.add_mul]; omega
    | bin a b h1 h2 h3 h4 h5 =>
      rw [h5] at h ⊢
      obtain ⟨i1, i2⟩ := ih a (by rw [h2]; simp) h3
      obtain ⟨j1, j2⟩ := ih b (by rw [h2]; simp) h4
      refine ⟨comb_vld h1 i1 j1 h, ?_⟩
      have k1 := comb_cnt h1 h
      have k2 : e.siz = 1 + (a.siz + b.siz) := by rw [siz_eq, h2]; simp [sizEs]
      have k3 : e.mds = (if e.op = 8 then 1 else 0) + (a.mds + b.mds) := by rw [mds_eq, h2]; simp [mdsEs]
      have ea : a.siz * 2 ^ a.mds ≤ a.siz * 2 ^ (a.mds + b.mds) := Nat.mul_le_mul_left _ (Nat.pow_le_pow_right (by decide) (by omega))
      have eb : b.siz * 2 ^ b.mds ≤ b.siz * 2 ^ (a.mds + b.mds) := Nat.mul_le_mul_left _ (Nat.pow_le_pow_right (by decide) (by omega))
      have ep : 1 ≤ 2 ^ (a.mds + b.mds) := Nat.one_le_two_pow
      rw [k2, k3]
      by_cases h8 : e.op = 8
      · rw [if_pos h8] at k1 ⊢
        have e2 : 2 ^ (1 + (a.mds + b.mds)) = 2 * 2 ^ (a.mds + b.mds) := by rw [Nat.pow_add]
        rw [e2]
        generalize 2 ^ (a.mds + b.mds) = p at *
        have e3 : (1 + (a.siz + b.siz)) * (2 * p) = 2 * p + 2 * (a.siz * p) + 2 * (b.siz * p) := by grind
        rw [e3]; omega
      · rw [if_neg h8] at k1 ⊢
        rw [Nat.zero_add]
        generalize 2 ^ (a.mds + b.mds) = p at *
        have e3 : (1 + (a.siz + b.siz)) * p = p + a.siz * p + b.siz * p := by grind
        rw [e3]; omega
theorem scale_swap {a b : Tm} (ha : vldT a = true) (hb : vldT b = true) (h0 : a.ps.length = 0) (h1 : b.ps.length = 0) : scale a b.c = scale b a.c := by
  obtain ⟨c, ps⟩ := a
  obtain ⟨d, qs⟩ := b
  have e0 : ps = [] := List.length_eq_zero_iff.1 h0
  have e1 : qs = [] := List.length_eq_zero_iff.1 h1
  subst e0 e1
  show scale ⟨c, []⟩ d = scale ⟨d, []⟩ c
  have l0 : lim tm0 = (tm0, 0) := by rw [lim, if_pos (show smallB tm0 = true by decide)]
  by_cases hc : c = 0
  · subst hc
    by_cases hd : d = 0
    · subst hd; rfl
    · unfold scale
      rw [if_neg hd, if_pos rfl]
      show lim ⟨0 * d, []⟩ = _
      rw [Int.zero_mul]; exact l0
  · by_cases hd : d = 0
    · subst hd
      unfold scale
      rw [if_pos rfl, if_neg hc]
      show _ = lim ⟨0 * c, []⟩
      rw [Int.zero_mul]; exact l0.symm
    · unfold scale
      rw [if_neg hd, if_neg hc]
      show lim ⟨c * d, []⟩ = lim ⟨d * c, []⟩
      rw [Int.mul_comm]
theorem comb_mul {a b : Tm} {op : Int} (h : op = 6) (h1 : ¬ (0 < a.ps.length ∧ 0 < b.ps.length)) (ha : vldT a = true) (hb : vldT b = true) : comb op a b = if 0 < b.ps.length then scale b a.c else scale a b.c := by
  rw [comb, if_neg (by omega), if_neg (by omega), if_pos h]
  by_cases h2 : 0 < b.ps.length
  · rw [if_pos h2, if_pos (by omega)]
  · rw [if_neg h2]
    by_cases h3 : a.ps.length = 0
    · rw [if_pos h3, scale_swap ha hb h3 (by omega)]
    · rw [if_neg h3, if_pos (by omega)]
theorem lim_var {k v : Int} (hk : k = 0 ∨ k = 1) : lim ⟨0, [⟨1, k, v, 0, []⟩]⟩ = (⟨0, [⟨1, k, v, 0, []⟩]⟩, 0) := by
  unfold lim
  rw [if_pos]
  refine smallB_iff.2 ⟨by show (0 : Int).natAbs ≤ 2 ^ 40; decide, fun p hp => ?_, ?_⟩
  · rw [List.mem_singleton.1 hp]; show (1 : Int).natAbs ≤ 2 ^ 20; decide
  · rcases hk with rfl | rfl <;> simp [bndT, bndPs, bndP]
def lenV (e : Ex) : Option Tm :=
  match e.args with
  | [a] => if e.op = 9 ∧ a.args.length = 0 then (if a.op = 1 ∧ a.vk = 2 then some ⟨(a.vs.size : Int), []⟩ else if a.op = 2 ∧ (0 : Int) ≤ a.ix then some ⟨0, [⟨1, 1, a.ix, 0, []⟩]⟩ else none) else none
  | _ => none
theorem lenV_ne {e : Ex} (h : ¬ e.op = 9 ∨ ¬ e.args.length = 1) : lenV e = none := by
  cases e with | mk op tb nm ix vk vn vs xs =>
  unfold lenV
  match xs, h with
  | [], _ => rfl
  | [a], h => simp only [Ex.op, Ex.args] at h ⊢; rw [if_neg (by simp at h; omega)]
  | _ :: _ :: _, _ => rfl
theorem lenV_one {e : Ex} (h0 : 0 < e.args.length) (h : e.args.length = 1) : lenV e = if e.op = 9 ∧ e.args[0].args.length = 0 then (if e.args[0].op = 1 ∧ e.args[0].vk = 2 then some ⟨(e.args[0].vs.size : Int), []⟩ else if e.args[0].op = 2 ∧ (0 : Int) ≤ e.args[0].ix then some ⟨0, [⟨1, 1, e.args[0].ix, 0, []⟩]⟩ else none) else none := by
  cases e with | mk op tb nm ix vk vn vs xs =>
  match xs, h with
  | [a], _ => rfl
abbrev lnX (o : Option Tm) : X := .tup [tmC (o.getD tm0), bC o.isSome]
theorem ofE_len {e : Ex} {t : Tm} (h : lenV e = some t) : ofE e = lim t := by
  have h9 : e.op = 9 ∧ e.args.length = 1 := by
    by_cases h1 : e.op = 9
    · by_cases h2 : e.args.length = 1
      · exact ⟨h1, h2⟩
      · rw [lenV_ne (.inr h2)] at h; cases h
    · rw [lenV_ne (.inl h1)] at h; cases h
  have h0 : 0 < e.args.length := by omega
  rw [lenV_one h0 h9.2] at h
  rw [ofE_eq e, stepE, if_pos (by omega), leaf9_one h9.1 h0 h9.2, lenE]
  split at h
  · rename_i h3
    rw [if_neg (by omega)]
    split at h
    · rename_i h4; rw [if_pos h4]; injection h with h; rw [h]
    · rename_i h4
      rw [if_neg h4]
      split at h
      · rename_i h5; rw [if_pos h5]; injection h with h; rw [h]
      · cases h
  · cases h
theorem ofE_nolen {e : Ex} (h : lenV e = none) (h9 : e.op = 9) : ofE e = opsR (e.args.map ofE) := by
  rw [ofE_eq e, stepE, if_pos (by omega)]
  by_cases h1 : e.args.length = 1
  · have h0 : 0 < e.args.length := by omega
    rw [lenV_one h0 h1] at h
    rw [leaf9_one h9 h0 h1, lenE]
    by_cases h2 : 0 < e.args[0].args.length
    · rw [if_pos h2]
    · rw [if_neg h2]
      rw [if_pos ⟨h9, by omega⟩] at h
      split at h
      · cases h
      · rename_i h4
        rw [if_neg h4]
        split at h
        · cases h
        · rename_i h5; rw [if_neg h5]
  · exact leaf9_ne h9 h1
theorem len_ok {e : Ex} (hr : rgE e) {t : Tm} (h : lenV e = some t) : bokT t ∧ t.cnt ≤ 100000 := by
  have h9 : e.op = 9 ∧ e.args.length = 1 := by
    by_cases h1 : e.op = 9
    · by_cases h2 : e.args.length = 1
      · exact ⟨h1, h2⟩
      · rw [lenV_ne (.inr h2)] at h; cases h
    · rw [lenV_ne (.inl h1)] at h; cases h
  have h0 : 0 < e.args.length := by omega
  rw [lenV_one h0 h9.2] at h
  have hvs := hr.vs _ (List.getElem_mem h0)
  split at h
  · split at h
    · injection h with h; subst h; exact ⟨bok_c (by omega), cnt_c⟩
    · split at h
      · injection h with h; subst h; exact ⟨bok_v (by decide), cnt_v⟩
      · cases h
  · cases h
theorem len_lim {e : Ex} {t : Tm} (h : lenV e = some t) (hr : bokT t ∧ t.cnt ≤ 100000) : Pure Tryz.prog 120 [tmC ((lenV e).getD tm0)] (trC (lim t)) := by
  rw [h]; exact limited_any t hr.1 hr.2
theorem ofE_args {e : Ex} {i : Nat} (hn : lenV e = none) (hi : i < e.args.length) (h0 : ∀ r ∈ (e.args.map ofE).take i, r.2 = 0) (h : (ofE e.args[i]).2 ≠ 0) : ofE e = (tm0, (ofE e.args[i]).2) := by
  have key : opsR (e.args.map ofE) = (tm0, (ofE e.args[i]).2) := by
    have := opsR_no (rs := e.args.map ofE) (i := i) (by rw [List.length_map]; exact hi) h0 (by rw [List.getElem_map]; exact h)
    rw [List.getElem_map] at this; exact this
  by_cases h9 : e.op = 9
  · rw [ofE_nolen hn h9, key]
  · rw [ofE_eq e, stepE]
    by_cases h1 : e.op = 1 ∨ e.op = 2 ∨ e.op = 9
    · rw [if_pos h1, leafE, if_neg h9, if_pos (by omega), key]
    · rw [if_neg h1]
      by_cases h3 : e.op = 3
      · rw [if_pos h3]
        by_cases hl : e.args.length = 1
        · have h01 : 0 < e.args.length := by omega
          rw [unR_one (by simpa using h01) (by simpa using hl)]
          simp only [List.getElem_map]
          obtain rfl : i = 0 := by omega
          rw [if_pos h]
        · rw [unR_ne (by rw [List.length_map]; exact hl), key]
      · rw [if_neg h3]
        by_cases h4 : e.op = 4 ∨ e.op = 5 ∨ e.op = 6 ∨ e.op = 7 ∨ e.op = 8
        · rw [if_pos h4]
          by_cases hl : e.args.length = 2
          · have h01 : 0 < e.args.length := by omega
            have h12 : 1 < e.args.length := by omega
            rw [binR_two (by simpa using h01) (by simpa using h12) (by simpa using hl)]
            simp only [List.getElem_map]
            by_cases hi0 : i = 0
            · subst hi0; rw [if_pos h]
            · obtain rfl : i = 1 := by omega
              have hz : (ofE e.args[0]).2 = 0 := h0 _ (by
                rw [List.take_succ_eq_append_getElem (by rw [List.length_map]; omega)]; simp)
              rw [if_neg (by rw [hz]; decide), if_pos h]
          · rw [binR_ne (by rw [List.length_map]; exact hl), key]
        · rw [if_neg h4, key]
theorem rlen_any (e : Ex) : Pure Tryz.prog 119 [exC e] (lnX (lenV e)) := by
 intro H
 refine Spec.enter Tryz.func119 rfl ?_
 refine AW.wk (Wk.keep 56 [(0, .c (exC e))] [] (H) rfl ⟨rfl, trivial⟩ trivial (fun _ _ h => h) rfl) ?_
 refine sR (Z20 (r := [_, _, _, _, _, _, _, _]) ?_)
 refine Z16 (r := [_, _]) Fx.ze32 ?_
 refine sB ?_
 refine AW.seq (sR (Z1 Fx.fl26_0 ?_))
 refine Z0 Fx.ty3 ?_
 refine Z26 ?_
 refine Z17 ?_ ?_ <;> intro g8
 ·
  iterate 4 refine oF ?_
  refine Z8 ?_
  refine sM ?_
  iterate 7 refine oF ?_
  refine Z8 ?_
  refine Z7 (AW.condT rfl ?_)
  refine sR (Z11 (zs := [_, _]) (r := [_, _]) [(0, 1), (1, 1)] Fx.ze32 Fx.bp32 ?_)
  refine Z47 23 XW.tm0 ?_
  refine Z2 (r := [_, _]) Fx.ty32 ?_
  refine sB ?_
  exact aR (f2 (.cellL rfl rfl Fx.ty32 rfl rfl (.tmp rfl .nil)) (⟨by first | (rw [lenV_ne (.inl g8)]; rfl) | (rw [lenV_ne (.inr (by simp only [List.length_map] at *; omega))]; rfl) | (rw [hlv, if_neg (by simp only [List.length_map] at *; omega)]; rfl), rfl⟩))
 refine Z5 Fx.fl26_5 ?_
 refine Z3 Fx.ty24 ?_
 refine Z50 Fx.un24 ?_
 refine Z42 ?_
 refine Z4 ?_
 refine Z17 ?_ ?_ <;> intro g14
 ·
  iterate 7 refine oF ?_
  refine Z8 ?_
  refine Z7 (AW.condT rfl ?_)
  refine sR (Z11 (zs := [_, _]) (r := [_, _]) [(0, 1), (1, 1)] Fx.ze32 Fx.bp32 ?_)
  refine Z47 23 XW.tm0 ?_
  refine Z2 (r := [_, _]) Fx.ty32 ?_
  refine sB ?_
  exact aR (f2 (.cellL rfl rfl Fx.ty32 rfl rfl (.tmp rfl .nil)) (⟨by first | (rw [lenV_ne (.inl g8)]; rfl) | (rw [lenV_ne (.inr (by simp only [List.length_map] at *; omega))]; rfl) | (rw [hlv, if_neg (by simp only [List.length_map] at *; omega)]; rfl), rfl⟩))
 have hl1 : e.args.length = 1 := by simp only [List.length_map] at *; omega
 have h01 : 0 < e.args.length := by omega
 have hlv := lenV_one h01 hl1
 refine Z5 Fx.fl26_5 ?_
 refine Z3 Fx.ty24 ?_
 refine Z15 Fx.sl24 (idx_ex h01) ?_
 refine Z31 Fx.fl26_5 ?_
 refine Z19 (.a _) Fx.ty24 ?_
 refine Z50 Fx.un24 ?_
 refine Z42 ?_
 refine Z4 ?_
 refine Z7 ?_
 refine cD ?_ ?_ <;> intro h22
 ·
  refine sR (Z11 (zs := [_, _]) (r := [_, _]) [(0, 1), (1, 1)] Fx.ze32 Fx.bp32 ?_)
  refine Z47 23 XW.tm0 ?_
  refine Z2 (r := [_, _]) Fx.ty32 ?_
  refine sB ?_
  exact aR (f2 (.cellL rfl rfl Fx.ty32 rfl rfl (.tmp rfl .nil)) (⟨by first | (rw [lenV_ne (.inl g8)]; rfl) | (rw [lenV_ne (.inr (by simp only [List.length_map] at *; omega))]; rfl) | (rw [hlv, if_neg (by simp only [List.length_map] at *; omega)]; rfl), rfl⟩))
 refine AW.skip (sR (Z1 Fx.fl26_5 ?_))
 refine Z0 Fx.ty24 ?_
 refine Z24 Fx.sl24 (idx_ex h01) ?_
 refine Z28 (.g [_, _, _, _, _, _, _, _]) Fx.ty26 ?_
 refine Z16 (r := [_, _, _, _, _, _, _, _]) Fx.ze26 ?_
 refine Z2 (r := [_, _, _, _, _, _, _, _]) Fx.ty26 ?_
 refine Z7 (AW.seq (AW.seq ?_))
 have h9 : e.op = 9 ∧ e.args[0].args.length = 0 := ⟨Classical.not_not.1 g8, (by simp only [List.length_map] at *; omega)⟩
 refine AW.reg (Z1 Fx.fl26_0 ?_)
 refine Z0 Fx.ty3 ?_
 refine Z9 ?_
 refine Z17 ?_ ?_ <;> intro g31
 ·
  refine Z5 Fx.fl26_4 ?_
  refine Z5 Fx.fl23_0 ?_
  refine Z3 Fx.ty3 ?_
  refine Z21 ?_
  refine Z8 ?_
  refine Z7 ?_
  refine cD ?_ ?_ <;> intro h36
  ·
   refine sR (Z1 Fx.fl26_4 ?_)
   refine Z1 Fx.fl23_2 ?_
   refine Z0 Fx.ty9 ?_
   refine SeqK.q (q_lenS rfl Fx.un9 rfl) rfl rfl rfl ?_
   refine Z11 (zs := [_, _]) (r := [_, _]) [(0, 1), (1, 1)] Fx.ze32 Fx.bp32 ?_
   refine Z47 41 XW.tm0 ?_
   refine Z2 (r := [_, _]) Fx.ty32 ?_
   refine sB ?_
   exact aR (f2 (.cellL rfl rfl Fx.ty32 rfl rfl (.tmp rfl .nil)) (⟨by rw [hlv, if_pos h9, if_pos ⟨g31, h36⟩]; rfl, rfl⟩))
  refine AW.skip (AW.seq (sR (Z1 Fx.fl26_0 ?_)))
  refine Z0 Fx.ty3 ?_
  refine Z9 ?_
  refine Z17 ?_ ?_ <;> intro g45
  ·
   refine Z5 Fx.fl26_3 ?_
   refine Z3 Fx.ty3 ?_
   refine SeqK.on (q_geq rfl rfl rfl) rfl rfl rfl rfl rfl ?_
   refine Z8 ?_
   refine Z7 ?_
   refine cD ?_ ?_ <;> intro h49
   ·
    refine sR (Z1 Fx.fl26_3 ?_)
    refine Z0 Fx.ty3 ?_
    refine Z11 (zs := [_, _, _, _, _]) (r := [_, _, _, _, _]) [(0, 1), (1, 1), (2, 1), (3, 1), (4, 1)] Fx.ze89 Fx.bp89 ?_
    refine Z47 52 XW.pt0 ?_
    refine Z27 Fx.el30 ?_
    refine Z47 53 .un ?_
    refine Z11 (zs := [_, _]) (r := [_, _]) [(0, 1), (1, 1)] Fx.ze32 Fx.bp32 ?_
    refine Z2 (r := [_, _]) Fx.ty32 ?_
    refine sB ?_
    exact aR (f2 (.cellL rfl rfl Fx.ty32 rfl rfl (.tmp rfl .nil)) (⟨by rw [hlv, if_pos h9, if_neg (by omega), if_pos ⟨g45, h49⟩]; rfl, rfl⟩))
   refine AW.skip (sR (Z11 (zs := [_, _]) (r := [_, _]) [(0, 1), (1, 1)] Fx.ze32 Fx.bp32 ?_))
   refine Z47 55 XW.tm0 ?_
   refine Z2 (r := [_, _]) Fx.ty32 ?_
   refine sB ?_
   exact aR (f2 (.cellL rfl rfl Fx.ty32 rfl rfl (.tmp rfl .nil)) (⟨by rw [hlv, if_pos h9, if_neg (by omega), if_neg (by omega)]; rfl, rfl⟩))
  iterate 3 refine oF ?_
  refine Z4 ?_
  refine Z7 (AW.condF rfl ?_)
  refine AW.skip (sR (Z11 (zs := [_, _]) (r := [_, _]) [(0, 1), (1, 1)] Fx.ze32 Fx.bp32 ?_))
  refine Z47 55 XW.tm0 ?_
  refine Z2 (r := [_, _]) Fx.ty32 ?_
  refine sB ?_
  exact aR (f2 (.cellL rfl rfl Fx.ty32 rfl rfl (.tmp rfl .nil)) (⟨by rw [hlv, if_pos h9, if_neg (by omega), if_neg (by omega)]; rfl, rfl⟩))
 iterate 4 refine oF ?_
 refine Z4 ?_
 refine Z7 (AW.condF rfl ?_)
 refine AW.skip (AW.seq (sR (Z1 Fx.fl26_0 ?_)))
 refine Z0 Fx.ty3 ?_
 refine Z9 ?_
 refine Z17 ?_ ?_ <;> intro g45
 ·
  refine Z5 Fx.fl26_3 ?_
  refine Z3 Fx.ty3 ?_
  refine SeqK.on (q_geq rfl rfl rfl) rfl rfl rfl rfl rfl ?_
  refine Z8 ?_
  refine Z7 ?_
  refine cD ?_ ?_ <;> intro h49
  ·
   refine sR (Z1 Fx.fl26_3 ?_)
   refine Z0 Fx.ty3 ?_
   refine Z11 (zs := [_, _, _, _, _]) (r := [_, _, _, _, _]) [(0, 1), (1, 1), (2, 1), (3, 1), (4, 1)] Fx.ze89 Fx.bp89 ?_
   refine Z47 52 XW.pt0 ?_
   refine Z27 Fx.el30 ?_
   refine Z47 53 .un ?_
   refine Z11 (zs := [_, _]) (r := [_, _]) [(0, 1), (1, 1)] Fx.ze32 Fx.bp32 ?_
   refine Z2 (r := [_, _]) Fx.ty32 ?_
   refine sB ?_
   exact aR (f2 (.cellL rfl rfl Fx.ty32 rfl rfl (.tmp rfl .nil)) (⟨by rw [hlv, if_pos h9, if_neg (by omega), if_pos ⟨g45, h49⟩]; rfl, rfl⟩))
  refine AW.skip (sR (Z11 (zs := [_, _]) (r := [_, _]) [(0, 1), (1, 1)] Fx.ze32 Fx.bp32 ?_))
  refine Z47 55 XW.tm0 ?_
  refine Z2 (r := [_, _]) Fx.ty32 ?_
  refine sB ?_
  exact aR (f2 (.cellL rfl rfl Fx.ty32 rfl rfl (.tmp rfl .nil)) (⟨by rw [hlv, if_pos h9, if_neg (by omega), if_neg (by omega)]; rfl, rfl⟩))
 iterate 3 refine oF ?_
 refine Z4 ?_
 refine Z7 (AW.condF rfl ?_)
 refine AW.skip (sR (Z11 (zs := [_, _]) (r := [_, _]) [(0, 1), (1, 1)] Fx.ze32 Fx.bp32 ?_))
 refine Z47 55 XW.tm0 ?_
 refine Z2 (r := [_, _]) Fx.ty32 ?_
 refine sB ?_
 exact aR (f2 (.cellL rfl rfl Fx.ty32 rfl rfl (.tmp rfl .nil)) (⟨by rw [hlv, if_pos h9, if_neg (by omega), if_neg (by omega)]; rfl, rfl⟩))
theorem binary_any (op : Int) (hop : 4 ≤ op ∧ op ≤ 8) (a b : Tm) (ha : vldT a = true) (hb : vldT b = true) (hN : a.cnt + b.cnt ≤ 40000) : Pure Tryz.prog 122 [iC op, tmC a, tmC b] (trC (comb op a b)) := by
 intro H
 refine Spec.enter Tryz.func122 rfl ?_
 refine AW.wk (Wk.keep 109 [(0, .c (iC op)), (1, .c (tmC a)), (2, .c (tmC b))] [] (H) rfl ⟨rfl, rfl, rfl, trivial⟩ trivial (fun _ _ h => h) rfl) ?_
 refine sR (Z20 (r := [_, _]) ?_)
 refine Z20 (r := [_, _]) ?_
 refine Z16 (r := [_, _]) Fx.ze32 ?_
 refine sB ?_
 refine AW.seq (AW.seq ?_)
 have hca := vld_coef ha
 have hcb := vld_coef hb
 have k1 := scale_cnt b (-1)
 have k2 := div_cnt a b.c
 have k3 := scale_cnt (div a b.c).1 (-b.c)
 refine AW.reg (sM ?_)
 refine Z7 (AW.block (sR (Z9 ?_)))
 refine sB ?_
 refine cD ?_ ?_ <;> intro h14
 ·
  refine sR (Z10 (r := .g [_, _]) Fx.ty32 ?_)
  refine Z10 (r := .g [_, _]) Fx.ty32 ?_
  refine SeqK.q (q_call _ rfl Fx.fn154 rfl (radd_any a b ha hb (by omega)) rfl) rfl rfl rfl ?_
  refine Z6 ?_
  refine Z6 ?_
  refine Z2 (r := [_, _]) Fx.ty32 ?_
  refine sB ?_
  exact aR (f2 (.cellL rfl rfl Fx.ty32 rfl rfl (.tmp rfl .nil)) (⟨by rw [comb, if_pos h14]; rfl, rfl⟩))
 refine sR (Z9 ?_)
 refine sB ?_
 refine cD ?_ ?_ <;> intro h21
 ·
  refine sR (Z10 (r := .g [_, _]) Fx.ty32 ?_)
  refine SeqK.q (q_call _ rfl Fx.fn121 rfl (rscale_any b (-1) hb (by decide) (by omega)) rfl) rfl rfl rfl ?_
  refine Z39 ?_
  refine Z6 ?_
  refine Z6 ?_
  refine Z16 (r := [_, _]) Fx.ze32 ?_
  refine Z2 (r := [_, _]) Fx.ty32 ?_
  refine sB ?_
  refine AW.seq (sR (sM ?_))
  refine Z26 ?_
  refine Z7 ?_
  refine cD ?_ ?_ <;> intro h29
  ·
   refine sR (Z11 (zs := [_, _]) (r := [_, _]) [(0, 1), (1, 1)] Fx.ze32 Fx.bp32 ?_)
   refine Z47 30 XW.tm0 ?_
   refine sM ?_
   refine Z2 (r := [_, _]) Fx.ty32 ?_
   refine sB ?_
   exact aR (f2 (.cellL rfl rfl Fx.ty32 rfl rfl (.tmp rfl .nil)) (⟨by rw [comb, if_neg h14, if_pos h21, if_pos h29]; rfl, rfl⟩))
  have hs0 : (scale b (-1)).2 = 0 := Classical.not_not.1 h29
  refine AW.skip (sR (Z10 (r := .g [_, _]) Fx.ty32 ?_))
  refine Z10 (r := .g [_, _]) Fx.ty32 ?_
  refine SeqK.q (q_call _ rfl Fx.fn154 rfl (radd_any a _ ha (scale_vld hb hs0) (by omega)) rfl) rfl rfl rfl ?_
  refine Z6 ?_
  refine Z6 ?_
  refine Z2 (r := [_, _]) Fx.ty32 ?_
  refine sB ?_
  exact aR (f2 (.cellL rfl rfl Fx.ty32 rfl rfl (.tmp rfl .nil)) (⟨by rw [comb, if_neg h14, if_pos h21, if_neg h29]; rfl, rfl⟩))
 refine sR (Z9 ?_)
 refine sB ?_
 refine cD ?_ ?_ <;> intro h37
 ·
  refine AW.seq (sR (Z1 Fx.fl32_1 ?_))
  refine Z0 Fx.ty30 ?_
  refine Z22 Fx.un30 ?_
  refine Z43 ?_
  refine Z17 ?_ ?_ <;> intro g43
  ·
   refine Z5 Fx.fl32_1 ?_
   refine Z3 Fx.ty30 ?_
   refine Z50 Fx.un30 ?_
   refine SeqK.on (q_gtr rfl rfl rfl) rfl rfl rfl rfl rfl ?_
   refine Z8 ?_
   refine Z7 ?_
   refine cD ?_ ?_ <;> intro h48
   ·
    refine sR (Z11 (zs := [_, _]) (r := [_, _]) [(0, 1), (1, 1)] Fx.ze32 Fx.bp32 ?_)
    refine Z47 49 XW.tm0 ?_
    refine Z2 (r := [_, _]) Fx.ty32 ?_
    refine sB ?_
    exact aR (f2 (.cellL rfl rfl Fx.ty32 rfl rfl (.tmp rfl .nil)) (⟨by rw [comb, if_neg h14, if_neg h21, if_pos h37, if_neg (by simp only [List.length_map] at *; omega), if_neg (by simp only [List.length_map] at *; omega)]; rfl, rfl⟩))
   refine AW.skip (AW.seq (sR (Z1 Fx.fl32_1 ?_)))
   refine Z0 Fx.ty30 ?_
   refine Z22 Fx.un30 ?_
   refine Z43 ?_
   refine Z7 ?_
   refine cD ?_ ?_ <;> intro h53
   ·
    refine sR (Z10 (r := .g [_, _]) Fx.ty32 ?_)
    refine Z1 Fx.fl32_0 ?_
    refine Z0 Fx.ty2 ?_
    refine SeqK.q (q_call _ rfl Fx.fn121 rfl (rscale_any b a.c hb (by omega) (by omega)) rfl) rfl rfl rfl ?_
    refine Z6 ?_
    refine Z6 ?_
    refine Z2 (r := [_, _]) Fx.ty32 ?_
    refine sB ?_
    exact aR (f2 (.cellL rfl rfl Fx.ty32 rfl rfl (.tmp rfl .nil)) (⟨by rw [comb_mul h37 (by simp only [List.length_map] at *; omega) ha hb, if_pos (by simp only [List.length_map] at *; omega)]; rfl, rfl⟩))
   refine AW.skip (sR (Z10 (r := .g [_, _]) Fx.ty32 ?_))
   refine Z1 Fx.fl32_0 ?_
   refine Z0 Fx.ty2 ?_
   refine SeqK.q (q_call _ rfl Fx.fn121 rfl (rscale_any a b.c ha (by omega) (by omega)) rfl) rfl rfl rfl ?_
   refine Z6 ?_
   refine Z6 ?_
   refine Z2 (r := [_, _]) Fx.ty32 ?_
   refine sB ?_
   exact aR (f2 (.cellL rfl rfl Fx.ty32 rfl rfl (.tmp rfl .nil)) (⟨by rw [comb_mul h37 (by simp only [List.length_map] at *; omega) ha hb, if_neg (by simp only [List.length_map] at *; omega)]; rfl, rfl⟩))
  iterate 4 refine oF ?_
  refine Z4 ?_
  refine Z7 (AW.condF rfl ?_)
  refine AW.skip (AW.seq (sR (Z1 Fx.fl32_1 ?_)))
  refine Z0 Fx.ty30 ?_
  refine Z22 Fx.un30 ?_
  refine Z43 ?_
  refine Z7 ?_
  refine cD ?_ ?_ <;> intro h53
  ·
   refine sR (Z10 (r := .g [_, _]) Fx.ty32 ?_)
   refine Z1 Fx.fl32_0 ?_
   refine Z0 Fx.ty2 ?_
   refine SeqK.q (q_call _ rfl Fx.fn121 rfl (rscale_any b a.c hb (by omega) (by omega)) rfl) rfl rfl rfl ?_
   refine Z6 ?_
   refine Z6 ?_
   refine Z2 (r := [_, _]) Fx.ty32 ?_
   refine sB ?_
   exact aR (f2 (.cellL rfl rfl Fx.ty32 rfl rfl (.tmp rfl .nil)) (⟨by rw [comb_mul h37 (by simp only [List.length_map] at *; omega) ha hb, if_pos (by simp only [List.length_map] at *; omega)]; rfl, rfl⟩))
  refine AW.skip (sR (Z10 (r := .g [_, _]) Fx.ty32 ?_))
  refine Z1 Fx.fl32_0 ?_
  refine Z0 Fx.ty2 ?_
  refine SeqK.q (q_call _ rfl Fx.fn121 rfl (rscale_any a b.c ha (by omega) (by omega)) rfl) rfl rfl rfl ?_
  refine Z6 ?_
  refine Z6 ?_
  refine Z2 (r := [_, _]) Fx.ty32 ?_
  refine sB ?_
  exact aR (f2 (.cellL rfl rfl Fx.ty32 rfl rfl (.tmp rfl .nil)) (⟨by rw [comb_mul h37 (by simp only [List.length_map] at *; omega) ha hb, if_neg (by simp only [List.length_map] at *; omega)]; rfl, rfl⟩))
 refine AW.skip (AW.seq (sR (Z1 Fx.fl32_1 ?_)))
 refine Z0 Fx.ty30 ?_
 refine Z22 Fx.un30 ?_
 refine Z43 ?_
 refine Z17 ?_ ?_ <;> intro g70
 ·
  iterate 4 refine oF ?_
  refine Z8 ?_
  refine Z7 (AW.condT rfl ?_)
  refine sR (Z11 (zs := [_, _]) (r := [_, _]) [(0, 1), (1, 1)] Fx.ze32 Fx.bp32 ?_)
  refine Z47 76 XW.tm0 ?_
  refine Z2 (r := [_, _]) Fx.ty32 ?_
  refine sB ?_
  exact aR (f2 (.cellL rfl rfl Fx.ty32 rfl rfl (.tmp rfl .nil)) (⟨by rw [comb, if_neg h14, if_neg h21, if_neg h37, if_pos (by first | exact .inl (by simp only [List.length_map] at *; omega) | (have k := nd_t (by simpa using h75 : (!decide (1 ≤ b.c ∧ b.c ≤ 1000)) = true); omega))]; rfl, rfl⟩))
 refine Z5 Fx.fl32_0 ?_
 refine Z3 Fx.ty2 ?_
 refine Z35 Fx.fn155 (within_any _ _ _) ?_
 refine Z41 ?_
 refine Z4 ?_
 refine Z7 ?_
 refine AW.cond _ rfl (fun h75 => ?_) (fun h75 => ?_)
 ·
  refine sR (Z11 (zs := [_, _]) (r := [_, _]) [(0, 1), (1, 1)] Fx.ze32 Fx.bp32 ?_)
  refine Z47 76 XW.tm0 ?_
  refine Z2 (r := [_, _]) Fx.ty32 ?_
  refine sB ?_
  exact aR (f2 (.cellL rfl rfl Fx.ty32 rfl rfl (.tmp rfl .nil)) (⟨by rw [comb, if_neg h14, if_neg h21, if_neg h37, if_pos (by first | exact .inl (by simp only [List.length_map] at *; omega) | (have k := nd_t (by simpa using h75 : (!decide (1 ≤ b.c ∧ b.c ≤ 1000)) = true); omega))]; rfl, rfl⟩))
 refine AW.skip (AW.seq ?_)
 have hbw : b.ps.length = 0 ∧ 1 ≤ b.c ∧ b.c ≤ 1000 := by have k := nd_f (by simpa using h75 : (!decide (1 ≤ b.c ∧ b.c ≤ 1000)) = false); simp only [List.length_map] at *; omega
 refine AW.reg (Z10 (r := .g [_, _]) Fx.ty32 ?_)
 refine Z1 Fx.fl32_0 ?_
 refine Z0 Fx.ty2 ?_
 refine SeqK.q (q_call _ rfl Fx.fn156 rfl (rdiv_any a b.c ha (by omega)) rfl) rfl rfl rfl ?_
 refine Z39 ?_
 refine Z6 ?_
 refine Z6 ?_
 refine Z16 (r := [_, _]) Fx.ze32 ?_
 refine Z2 (r := [_, _]) Fx.ty32 ?_
 refine sB ?_
 refine AW.seq (sR (sM ?_))
 refine Z26 ?_
 refine Z17 ?_ ?_ <;> intro g86
 ·
  iterate 2 refine oF ?_
  refine Z8 ?_
  refine Z7 (AW.condT rfl ?_)
  refine sR (Z10 (r := .g [_, _]) Fx.ty32 ?_)
  refine sM ?_
  refine Z2 (r := [_, _]) Fx.ty32 ?_
  refine sB ?_
  exact aR (f2 (.cellL rfl rfl Fx.ty32 rfl rfl (.tmp rfl .nil)) (⟨by rw [comb, if_neg h14, if_neg h21, if_neg h37, if_neg (by omega), if_pos (by first | exact .inl g86 | exact .inr h89)]; rfl, rfl⟩))
 have hd0 : (div a b.c).2 = 0 := Classical.not_not.1 g86
 refine Z14 ?_
 refine Z21 ?_
 refine Z4 ?_
 refine Z7 ?_
 refine cD ?_ ?_ <;> intro h89
 ·
  refine sR (Z10 (r := .g [_, _]) Fx.ty32 ?_)
  refine sM ?_
  refine Z2 (r := [_, _]) Fx.ty32 ?_
  refine sB ?_
  exact aR (f2 (.cellL rfl rfl Fx.ty32 rfl rfl (.tmp rfl .nil)) (⟨by rw [comb, if_neg h14, if_neg h21, if_neg h37, if_neg (by omega), if_pos (by first | exact .inl g86 | exact .inr h89)]; rfl, rfl⟩))
 refine AW.skip (sR (Z10 (r := .g [_, _]) Fx.ty32 ?_))
 refine Z1 Fx.fl32_0 ?_
 refine Z0 Fx.ty2 ?_
 refine SeqK.q (q_neg _ rfl rfl ((by rw [w64 (by omega) (by omega)]; omega : IntKind.i64.wrap _ = -b.c))) rfl rfl rfl ?_
 refine SeqK.q (q_call _ rfl Fx.fn121 rfl (rscale_any _ (-b.c) (div_vld ha hd0) (by omega) (by omega)) rfl) rfl rfl rfl ?_
 refine Z39 ?_
 refine Z6 ?_
 refine Z6 ?_
 refine Z16 (r := [_, _]) Fx.ze32 ?_
 refine Z2 (r := [_, _]) Fx.ty32 ?_
 refine sB ?_
 refine AW.seq (sR (sM ?_))
 refine Z26 ?_
 refine Z7 ?_
 refine cD ?_ ?_ <;> intro h101
 ·
  refine sR (Z11 (zs := [_, _]) (r := [_, _]) [(0, 1), (1, 1)] Fx.ze32 Fx.bp32 ?_)
  refine Z47 102 XW.tm0 ?_
  refine sM ?_
  refine Z2 (r := [_, _]) Fx.ty32 ?_
  refine sB ?_
  exact aR (f2 (.cellL rfl rfl Fx.ty32 rfl rfl (.tmp rfl .nil)) (⟨by rw [comb, if_neg h14, if_neg h21, if_neg h37, if_neg (by omega), if_neg (by omega), if_pos h101]; rfl, rfl⟩))
 have hs1 : (scale (div a b.c).1 (-b.c)).2 = 0 := Classical.not_not.1 h101
 refine AW.skip (sR (Z10 (r := .g [_, _]) Fx.ty32 ?_))
 refine Z10 (r := .g [_, _]) Fx.ty32 ?_
 refine SeqK.q (q_call _ rfl Fx.fn154 rfl (radd_any a _ ha (scale_vld (div_vld ha hd0) hs1) (by omega)) rfl) rfl rfl rfl ?_
 refine Z6 ?_
 refine Z6 ?_
 refine Z2 (r := [_, _]) Fx.ty32 ?_
 refine sB ?_
 exact aR (f2 (.cellL rfl rfl Fx.ty32 rfl rfl (.tmp rfl .nil)) (⟨by rw [comb, if_neg h14, if_neg h21, if_neg h37, if_neg (by omega), if_neg (by omega), if_neg h101]; rfl, rfl⟩))
theorem tmT_put {zs : List (List E.T)} {out : List Tm} {t : Tm} (h : zs = out.map tmT) : zs ++ [tmL t] = (out ++ [t]).map tmT := by rw [h, List.map_append, List.map_singleton, tmT_eq]
theorem ops_err {e : Ex} (h0 : ∀ r ∈ e.args.map ofE, r.2 = 0) : opsR (e.args.map ofE) = (tm0, 6) := opsR_end h0
theorem idx_of {l : List Ex} {i : Nat} (h : i < l.length) : ((l.map fun a => (ofE a).1).map tmT)[i]? = some (tmL (ofE l[i]).1) := by
  rw [List.getElem?_map, List.getElem?_eq_getElem (by rw [List.length_map]; exact h), Option.map_some, tmT_eq, List.getElem_map]
abbrev zEx (x : Ex) : List A := [.t (.v (.int .i64 x.op)), .t (.v (.string x.tb)), .t (.v (.string x.nm)), .t (.v (.int .i64 x.ix)), .t (.v (.int .i64 x.vk)), .t (.v (.int .i64 x.vn)), .t (.v (.string x.vs)), .t (.sl .un 8 (x.args.map exT'))]
theorem rof_of (e : Ex) (hr : rgE e) (hgd : ∀ a ∈ e.args, gd (ofE a)) (ih : ∀ a ∈ e.args, Pure Tryz.prog 92 [exC a] (trC (ofE a))) : Pure Tryz.prog 92 [exC e] (trC (ofE e)) := by
 intro H
 refine Spec.enter Tryz.func92 rfl ?_
 refine AW.wk (Wk.keep 113 [(0, .c (exC e))] [] (H) rfl ⟨rfl, trivial⟩ trivial (fun _ _ h => h) rfl) ?_
 refine sR (Z20 (r := [_, _, _, _, _, _, _, _]) ?_)
 refine Z16 (r := [_, _]) Fx.ze32 ?_
 refine sB ?_
 refine AW.seq (AW.seq ?_)
 have hlB := hr.len
 refine AW.reg (Z10 (r := .g [_, _, _, _, _, _, _, _]) Fx.ty26 ?_)
 refine Z12 Fx.fn119 (rlen_any e) ?_
 refine Z39 ?_
 refine Z6 ?_
 refine Z6 ?_
 refine Z16 (r := [_, _]) Fx.ze32 ?_
 refine Z2 (r := [_, _]) Fx.ty32 ?_
 refine sB ?_
 refine sR (sM ?_)
 refine Z7 ?_
 refine AW.cond _ rfl (fun h15 => ?_) (fun h15 => ?_)
 ·
  have hlen := by exact h15
  refine AW.seq ?_
  obtain ⟨t, ht⟩ := Option.isSome_iff_exists.1 h15
  have hrt := len_ok hr ht
  refine AW.reg (Z10 (r := .g [_, _]) Fx.ty32 ?_)
  refine Z12 Fx.fn120 (len_lim ht hrt) ?_
  refine Z6 ?_
  refine Z6 ?_
  refine Z2 (r := [_, _]) Fx.ty32 ?_
  refine sB ?_
  exact aR (f2 (.cellL rfl rfl Fx.ty32 rfl rfl (.tmp rfl .nil)) (⟨by rw [ofE_len ht]; rfl, rfl⟩))
 refine AW.skip (AW.seq ?_)
 have hlen : lenV e = none := Option.not_isSome_iff_eq_none.1 (by simp [h15])
 refine AW.reg (sB ?_)
 refine AW.seq (sR (sB ?_))
 refine AW.block ?_
 refine AW.tip 6 32 2 rfl (fun k0 hk0 => ?_)
 refine AW.loop (fun (i : Nat) s => ∃ (kt : Nat) (zs : List (List E.T)), (i ≤ e.args.length ∧ H kt = none ∧ (∀ r ∈ (e.args.map ofE).take i, r.2 = 0) ∧ zs = ((e.args.take i).map fun a => (ofE a).1).map tmT) ∧ s = ⟨113, sp [(1, .lp 1 0), (2, .lp 2 0), (3, .c (iC 0)), (6, .c (.a (.ts kt .ne 2 zs))), (7, iX .i64 ((i : Nat) : Int))], lv [(1, .box (zEx e)), (2, .box [.t (.v (.int .i64 0)), .t (.v (.slice none 0 0))])], upd H kt (some (.tip 32 2 zs.length))⟩) (fun i => e.args.length - i) 0 ⟨_, by exact Wk.keep 113 _ _ _ rfl ⟨rfl, rfl, rfl, rfl, rfl, trivial⟩ ⟨rfl, rfl, trivial⟩ (fun _ _ h => h) rfl, k0, [], ⟨Nat.zero_le _, hk0, by simp, rfl⟩, rfl⟩ (fun i s hs => ?_)
 obtain ⟨kt, zs, ⟨hi0, hkt, h0, hzs⟩, rfl⟩ := hs
 refine AW.seq (sR (sM ?_))
 refine Z1 Fx.fl26_5 ?_
 refine Z0 Fx.ty24 ?_
 refine Z22 Fx.un24 ?_
 refine Z30 ?_
 refine Z7 ?_
 refine cD ?_ ?_ <;> intro h24
 ·
  have hi : i < e.args.length := by rw [List.length_map] at h24; omega
  refine AW.skip (AW.seq (AW.block (sR (Z1 Fx.fl26_5 ?_))))
  refine Z0 Fx.ty24 ?_
  refine sM ?_
  refine Z24 Fx.sl24 (idx_ex hi) ?_
  refine Z28 (.g [_, _, _, _, _, _, _, _]) Fx.ty26 ?_
  refine Z12 Fx.fn92 (ih _ (List.getElem_mem hi)) ?_
  refine Z39 ?_
  refine Z6 ?_
  refine Z6 ?_
  refine Z16 (r := [_, _]) Fx.ze32 ?_
  refine Z2 (r := [_, _]) Fx.ty32 ?_
  refine sB ?_
  refine AW.seq (sR (sM ?_))
  refine Z26 ?_
  refine Z7 ?_
  refine cD ?_ ?_ <;> intro h37
  ·
   refine sR (Z11 (zs := [_, _]) (r := [_, _]) [(0, 1), (1, 1)] Fx.ze32 Fx.bp32 ?_)
   refine Z47 38 XW.tm0 ?_
   refine sM ?_
   refine Z2 (r := [_, _]) Fx.ty32 ?_
   refine sB ?_
   exact aR (fin_x (x := .tup [_, _]) (H) (.cellL rfl rfl Fx.ty32 rfl rfl (.tmp rfl .nil)) rfl ((fun j o h => upd_sub hkt j o h)) (⟨by rw [ofE_args hlen hi h0 h37]; rfl, rfl⟩))
  have hz0 : (ofE e.args[i]).2 = 0 := Classical.not_not.1 h37
  refine AW.skip (AW.reg (sM ?_))
  refine Z10 (r := .g [_, _]) Fx.ty32 ?_
  refine Z27 Fx.el87 ?_
  refine SeqK.app1 rfl (hkt) rfl Fx.el87 rfl rfl (by have hzl : zs.length = i := (by rw [hzs, List.length_map, List.length_map, List.length_take]; omega); have := hr.len; simp; omega) rfl rfl (fun k43 hk43 => ?_)
  refine sB ?_
  refine AW.reg (sM ?_)
  refine Z13 ?_
  refine sB ?_
  exact ⟨i + 1, _, by exact Wk.keep 113 _ _ _ rfl ⟨rfl, rfl, rfl, rfl, rfl, trivial⟩ ⟨rfl, rfl, trivial⟩ (fun _ _ h => h) rfl, by omega, k43, zs ++ [tmL (ofE e.args[i]).1], ⟨hi, hk43, ops_step hi h0 hz0, by rw [tmT_put hzs]; exact congrArg (List.map tmT) (by rw [List.take_succ_eq_append_getElem hi, List.map_append]; rfl)⟩, rfl⟩
 refine AW.exit ?_
 refine eth_e ?_
 refine eth_e ?_
 refine exit_here ?_
 refine AW.seq (AW.seq ?_)
 have hil : i = e.args.length := by rw [List.length_map] at h24; omega
 subst hil
 rw [List.take_length] at hzs
 rw [List.take_of_length_le (by rw [List.length_map]; exact Nat.le_refl _)] at h0
 have hml : (e.args.map fun a => (ofE a).1).length = e.args.length := List.length_map _
 have hop := ops_err h0
 have hr0 : ∀ a ∈ e.args, (ofE a).2 = 0 := fun a ha => h0 _ (List.mem_map.2 ⟨a, ha, rfl⟩)
 refine AW.xw 6 rfl (XW.ts.trans (XW.es hzs)) ?_
 refine AW.reg (Z1 Fx.fl26_0 ?_)
 refine Z0 Fx.ty3 ?_
 refine Z7 (AW.block (sR (Z9 ?_)))
 refine sB ?_
 refine cD ?_ ?_ <;> intro h46
 ·
  refine AW.seq (sR (sM ?_))
  refine Z22 Fx.un87 ?_
  refine Z26 ?_
  refine Z17 ?_ ?_ <;> intro g51
  ·
   iterate 4 refine oF ?_
   refine Z8 ?_
   refine Z7 (AW.condT rfl ?_)
   refine sR (Z11 (zs := [_, _]) (r := [_, _]) [(0, 1), (1, 1)] Fx.ze32 Fx.bp32 ?_)
   refine Z47 57 XW.tm0 ?_
   refine Z2 (r := [_, _]) Fx.ty32 ?_
   refine sB ?_
   exact aR (fin_x (x := .tup [_, _]) (H) (.cellL rfl rfl Fx.ty32 rfl rfl (.tmp rfl .nil)) rfl ((fun j o h => upd_sub hkt j o h)) (⟨by first | (rw [ofE_eq e, stepE, if_pos (by omega), leafE, if_neg (by omega), if_pos (by simp only [List.length_map] at *; omega), hop]; rfl) | (rw [ofE_eq e, stepE, if_pos (by omega), leafE, if_neg (by omega), if_neg (by simp only [List.length_map] at *; omega), if_neg (by omega), if_neg (by omega)]; rfl), rfl⟩))
  refine Z5 Fx.fl26_4 ?_
  refine Z5 Fx.fl23_0 ?_
  refine Z3 Fx.ty3 ?_
  refine Z42 ?_
  refine Z4 ?_
  refine Z7 ?_
  refine cD ?_ ?_ <;> intro h56
  ·
   refine sR (Z11 (zs := [_, _]) (r := [_, _]) [(0, 1), (1, 1)] Fx.ze32 Fx.bp32 ?_)
   refine Z47 57 XW.tm0 ?_
   refine Z2 (r := [_, _]) Fx.ty32 ?_
   refine sB ?_
   exact aR (fin_x (x := .tup [_, _]) (H) (.cellL rfl rfl Fx.ty32 rfl rfl (.tmp rfl .nil)) rfl ((fun j o h => upd_sub hkt j o h)) (⟨by first | (rw [ofE_eq e, stepE, if_pos (by omega), leafE, if_neg (by omega), if_pos (by simp only [List.length_map] at *; omega), hop]; rfl) | (rw [ofE_eq e, stepE, if_pos (by omega), leafE, if_neg (by omega), if_neg (by simp only [List.length_map] at *; omega), if_neg (by omega), if_neg (by omega)]; rfl), rfl⟩))
  refine AW.skip (sR (Z1 Fx.fl26_4 ?_))
  refine Z1 Fx.fl23_1 ?_
  refine Z0 Fx.ty2 ?_
  refine Z11 (zs := [_, _]) (r := [_, _]) [(0, 1), (1, 1)] Fx.ze32 Fx.bp32 ?_
  refine Z47 61 XW.tm0 ?_
  refine Z12 Fx.fn120 (limited_any ⟨e.vn, []⟩ (bok_c hr.vn) cnt_c) ?_
  refine Z6 ?_
  refine Z6 ?_
  refine Z2 (r := [_, _]) Fx.ty32 ?_
  refine sB ?_
  exact aR (fin_x (x := .tup [_, _]) (H) (.cellL rfl rfl Fx.ty32 rfl rfl (.tmp rfl .nil)) rfl ((fun j o h => upd_sub hkt j o h)) (⟨by rw [ofE_eq e, stepE, if_pos (by omega), leafE, if_neg (by omega), if_neg (by simp only [List.length_map] at *; omega), if_pos (by omega)]; rfl, rfl⟩))
 refine sR (Z9 ?_)
 refine sB ?_
 refine cD ?_ ?_ <;> intro h65
 ·
  refine AW.seq (sR (sM ?_))
  refine Z22 Fx.un87 ?_
  refine Z26 ?_
  refine Z17 ?_ ?_ <;> intro g70
  ·
   iterate 3 refine oF ?_
   refine Z8 ?_
   refine Z7 (AW.condT rfl ?_)
   refine sR (Z11 (zs := [_, _]) (r := [_, _]) [(0, 1), (1, 1)] Fx.ze32 Fx.bp32 ?_)
   refine Z47 75 XW.tm0 ?_
   refine Z2 (r := [_, _]) Fx.ty32 ?_
   refine sB ?_
   exact aR (fin_x (x := .tup [_, _]) (H) (.cellL rfl rfl Fx.ty32 rfl rfl (.tmp rfl .nil)) rfl ((fun j o h => upd_sub hkt j o h)) (⟨by first | (rw [ofE_eq e, stepE, if_pos (by omega), leafE, if_neg (by omega), if_pos (by simp only [List.length_map] at *; omega), hop]; rfl) | (rw [ofE_eq e, stepE, if_pos (by omega), leafE, if_neg (by omega), if_neg (by simp only [List.length_map] at *; omega), if_neg (by omega), if_neg (by omega)]; rfl), rfl⟩))
  refine Z5 Fx.fl26_3 ?_
  refine Z3 Fx.ty3 ?_
  refine SeqK.on (q_lss rfl rfl rfl) rfl rfl rfl rfl rfl ?_
  refine Z4 ?_
  refine Z7 ?_
  refine cD ?_ ?_ <;> intro h74
  ·
   refine sR (Z11 (zs := [_, _]) (r := [_, _]) [(0, 1), (1, 1)] Fx.ze32 Fx.bp32 ?_)
   refine Z47 75 XW.tm0 ?_
   refine Z2 (r := [_, _]) Fx.ty32 ?_
   refine sB ?_
   exact aR (fin_x (x := .tup [_, _]) (H) (.cellL rfl rfl Fx.ty32 rfl rfl (.tmp rfl .nil)) rfl ((fun j o h => upd_sub hkt j o h)) (⟨by first | (rw [ofE_eq e, stepE, if_pos (by omega), leafE, if_neg (by omega), if_pos (by simp only [List.length_map] at *; omega), hop]; rfl) | (rw [ofE_eq e, stepE, if_pos (by omega), leafE, if_neg (by omega), if_neg (by simp only [List.length_map] at *; omega), if_neg (by omega), if_neg (by omega)]; rfl), rfl⟩))
  refine AW.skip (sR (Z1 Fx.fl26_3 ?_))
  refine Z0 Fx.ty3 ?_
  refine Z11 (zs := [_, _, _, _, _]) (r := [_, _, _, _, _]) [(0, 1), (1, 1), (2, 1), (3, 1), (4, 1)] Fx.ze89 Fx.bp89 ?_
  refine Z47 78 XW.pt0 ?_
  refine Z27 Fx.el30 ?_
  refine Z47 79 .un ?_
  refine Z11 (zs := [_, _]) (r := [_, _]) [(0, 1), (1, 1)] Fx.ze32 Fx.bp32 ?_
  refine Z2 (r := [_, _]) Fx.ty32 ?_
  refine sB ?_
  exact aR (fin_x (x := .tup [_, _]) (H) (.cellL rfl rfl Fx.ty32 rfl rfl (.tmp rfl .nil)) rfl ((fun j o h => upd_sub hkt j o h)) (⟨by rw [ofE_eq e, stepE, if_pos (by omega), leafE, if_neg (by omega), if_neg (by simp only [List.length_map] at *; omega), if_neg (by omega), if_pos (by omega), lim_var (.inl rfl)]; rfl, rfl⟩))
 refine sR (Z9 ?_)
 refine sB ?_
 refine cD ?_ ?_ <;> intro h81
 ·
  refine sR (sM ?_)
  refine Z22 Fx.un87 ?_
  refine Z9 ?_
  refine Z7 ?_
  refine cD ?_ ?_ <;> intro h85
  ·
   have hl1 : e.args.length = 1 := by simp only [List.length_map] at *; omega
   have h01 : 0 < e.args.length := by omega
   have hg0 := hgd _ (List.getElem_mem h01) (hr0 _ (List.getElem_mem h01))
   refine sR (sM ?_)
   refine Z24 Fx.sl87 (idx_of h01) ?_
   refine Z28 (.g [_, _]) Fx.ty32 ?_
   refine SeqK.q (q_call _ rfl Fx.fn121 rfl (rscale_any _ (-1) hg0.1 (by decide) (by omega)) rfl) rfl rfl rfl ?_
   refine Z6 ?_
   refine Z6 ?_
   refine Z2 (r := [_, _]) Fx.ty32 ?_
   refine sB ?_
   exact aR (fin_x (x := .tup [_, _]) (H) (.cellL rfl rfl Fx.ty32 rfl rfl (.tmp rfl .nil)) rfl ((fun j o h => upd_sub hkt j o h)) (⟨by rw [ofE_eq e, stepE, if_neg (by omega), if_pos (by assumption), unR_one (by simpa using h01) (by simpa using hl1)]; simp only [List.getElem_map]; rw [if_neg (by have := hr0 _ (List.getElem_mem h01); omega)]; rfl, rfl⟩))
  refine AW.skip (sR (Z11 (zs := [_, _]) (r := [_, _]) [(0, 1), (1, 1)] Fx.ze32 Fx.bp32 ?_))
  refine Z47 112 XW.tm0 ?_
  refine Z2 (r := [_, _]) Fx.ty32 ?_
  refine sB ?_
  exact aR (fin_x (x := .tup [_, _]) (H) (.cellL rfl rfl Fx.ty32 rfl rfl (.tmp rfl .nil)) rfl ((fun j o h => upd_sub hkt j o h)) (⟨by first | (rw [ofE_nolen hlen (by assumption), hop]; rfl) | (rw [ofE_eq e, stepE, if_neg (by omega), if_pos (by assumption), unR_ne (by rw [List.length_map]; simp only [List.length_map] at *; omega), hop]; rfl) | (rw [ofE_eq e, stepE, if_neg (by omega), if_neg (by omega), if_pos (by omega), binR_ne (by rw [List.length_map]; simp only [List.length_map] at *; omega), hop]; rfl) | (by_cases h9 : e.op = 9; rw [ofE_nolen hlen h9, hop]; rfl; rw [ofE_eq e, stepE, if_neg (by omega), if_neg (by omega), if_neg (by omega), hop]; rfl), rfl⟩))
 refine AW.seq (sR (Z9 ?_))
 refine sB ?_
 refine cD ?_ ?_ <;> intro h92
 ·
  refine AW.skip ?_
  refine cD ?_ ?_ <;> intro h92
  rotate_left
  ·
   refine AW.skip (sR (Z11 (zs := [_, _]) (r := [_, _]) [(0, 1), (1, 1)] Fx.ze32 Fx.bp32 ?_))
   refine Z47 112 XW.tm0 ?_
   refine Z2 (r := [_, _]) Fx.ty32 ?_
   refine sB ?_
   exact aR (fin_x (x := .tup [_, _]) (H) (.cellL rfl rfl Fx.ty32 rfl rfl (.tmp rfl .nil)) rfl ((fun j o h => upd_sub hkt j o h)) (⟨by first | (rw [ofE_nolen hlen (by assumption), hop]; rfl) | (rw [ofE_eq e, stepE, if_neg (by omega), if_pos (by assumption), unR_ne (by rw [List.length_map]; simp only [List.length_map] at *; omega), hop]; rfl) | (rw [ofE_eq e, stepE, if_neg (by omega), if_neg (by omega), if_pos (by omega), binR_ne (by rw [List.length_map]; simp only [List.length_map] at *; omega), hop]; rfl) | (by_cases h9 : e.op = 9; rw [ofE_nolen hlen h9, hop]; rfl; rw [ofE_eq e, stepE, if_neg (by omega), if_neg (by omega), if_neg (by omega), hop]; rfl), rfl⟩))
  refine sR (sM ?_)
  refine Z22 Fx.un87 ?_
  refine Z9 ?_
  refine Z7 ?_
  refine cD ?_ ?_ <;> intro h100
  ·
   have hl2 : e.args.length = 2 := by simp only [List.length_map] at *; omega
   have h01 : 0 < e.args.length := by omega
   have h12 : 1 < e.args.length := by omega
   have hg0 := hgd _ (List.getElem_mem h01) (hr0 _ (List.getElem_mem h01))
   have hg1 := hgd _ (List.getElem_mem h12) (hr0 _ (List.getElem_mem h12))
   refine AW.seq (AW.draw Fx.mo ?_)
   refine Z23 Fx.fl26_0 ?_
   refine Z18 Fx.ty3 ?_
   refine Z44 ?_
   refine Z29 Fx.sl87 (idx_of h01) ?_
   refine Z32 (.g [_, _]) Fx.ty32 ?_
   refine Z44 ?_
   refine Z29 Fx.sl87 (idx_of h12) ?_
   refine Z32 (.g [_, _]) Fx.ty32 ?_
   refine LexK.q (q_call _ rfl Fx.fn122 rfl (binary_any e.op (by omega) _ _ hg0.1 hg1.1 (by omega)) rfl) rfl rfl rfl ?_
   refine LexK.q (q_extract _ rfl rfl rfl) rfl rfl rfl ?_
   refine LexK.q (q_extract _ rfl rfl rfl) rfl rfl rfl ?_
   refine Z40 (r := [_, _]) Fx.ty32 ?_
   refine Z52 ?_
   refine Z48 ?_
   exact aR (fin_x (x := .tup [_, _]) (H) (.cellL rfl rfl Fx.ty32 rfl rfl (.tmp rfl .nil)) rfl ((fun j o h => upd_sub hkt j o h)) (⟨by rw [ofE_eq e, stepE, if_neg (by omega), if_neg (by omega), if_pos (by omega), binR_two (by simpa using h01) (by simpa using h12) (by simpa using hl2)]; simp only [List.getElem_map]; rw [if_neg (by have := hr0 _ (List.getElem_mem h01); omega), if_neg (by have := hr0 _ (List.getElem_mem h12); omega)]; rfl, rfl⟩))
  refine AW.skip (sR (Z11 (zs := [_, _]) (r := [_, _]) [(0, 1), (1, 1)] Fx.ze32 Fx.bp32 ?_))
  refine Z47 112 XW.tm0 ?_
  refine Z2 (r := [_, _]) Fx.ty32 ?_
  refine sB ?_
  exact aR (fin_x (x := .tup [_, _]) (H) (.cellL rfl rfl Fx.ty32 rfl rfl (.tmp rfl .nil)) rfl ((fun j o h => upd_sub hkt j o h)) (⟨by first | (rw [ofE_nolen hlen (by assumption), hop]; rfl) | (rw [ofE_eq e, stepE, if_neg (by omega), if_pos (by assumption), unR_ne (by rw [List.length_map]; simp only [List.length_map] at *; omega), hop]; rfl) | (rw [ofE_eq e, stepE, if_neg (by omega), if_neg (by omega), if_pos (by omega), binR_ne (by rw [List.length_map]; simp only [List.length_map] at *; omega), hop]; rfl) | (by_cases h9 : e.op = 9; rw [ofE_nolen hlen h9, hop]; rfl; rw [ofE_eq e, stepE, if_neg (by omega), if_neg (by omega), if_neg (by omega), hop]; rfl), rfl⟩))
 refine sR (Z9 ?_)
 refine sB ?_
 refine cD ?_ ?_ <;> intro h92
 ·
  refine AW.skip ?_
  refine cD ?_ ?_ <;> intro h92
  rotate_left
  ·
   refine AW.skip (sR (Z11 (zs := [_, _]) (r := [_, _]) [(0, 1), (1, 1)] Fx.ze32 Fx.bp32 ?_))
   refine Z47 112 XW.tm0 ?_
   refine Z2 (r := [_, _]) Fx.ty32 ?_
   refine sB ?_
   exact aR (fin_x (x := .tup [_, _]) (H) (.cellL rfl rfl Fx.ty32 rfl rfl (.tmp rfl .nil)) rfl ((fun j o h => upd_sub hkt j o h)) (⟨by first | (rw [ofE_nolen hlen (by assumption), hop]; rfl) | (rw [ofE_eq e, stepE, if_neg (by omega), if_pos (by assumption), unR_ne (by rw [List.length_map]; simp only [List.length_map] at *; omega), hop]; rfl) | (rw [ofE_eq e, stepE, if_neg (by omega), if_neg (by omega), if_pos (by omega), binR_ne (by rw [List.length_map]; simp only [List.length_map] at *; omega), hop]; rfl) | (by_cases h9 : e.op = 9; rw [ofE_nolen hlen h9, hop]; rfl; rw [ofE_eq e, stepE, if_neg (by omega), if_neg (by omega), if_neg (by omega), hop]; rfl), rfl⟩))
  refine sR (sM ?_)
  refine Z22 Fx.un87 ?_
  refine Z9 ?_
  refine Z7 ?_
  refine cD ?_ ?_ <;> intro h100
  ·
   have hl2 : e.args.length = 2 := by simp only [List.length_map] at *; omega
   have h01 : 0 < e.args.length := by omega
   have h12 : 1 < e.args.length := by omega
   have hg0 := hgd _ (List.getElem_mem h01) (hr0 _ (List.getElem_mem h01))
   have hg1 := hgd _ (List.getElem_mem h12) (hr0 _ (List.getElem_mem h12))
   refine AW.seq (AW.draw Fx.mo ?_)
   refine Z23 Fx.fl26_0 ?_
   refine Z18 Fx.ty3 ?_
   refine Z44 ?_
   refine Z29 Fx.sl87 (idx_of h01) ?_
   refine Z32 (.g [_, _]) Fx.ty32 ?_
   refine Z44 ?_
   refine Z29 Fx.sl87 (idx_of h12) ?_
   refine Z32 (.g [_, _]) Fx.ty32 ?_
   refine LexK.q (q_call _ rfl Fx.fn122 rfl (binary_any e.op (by omega) _ _ hg0.1 hg1.1 (by omega)) rfl) rfl rfl rfl ?_
   refine LexK.q (q_extract _ rfl rfl rfl) rfl rfl rfl ?_
   refine LexK.q (q_extract _ rfl rfl rfl) rfl rfl rfl ?_
   refine Z40 (r := [_, _]) Fx.ty32 ?_
   refine Z52 ?_
   refine Z48 ?_
   exact aR (fin_x (x := .tup [_, _]) (H) (.cellL rfl rfl Fx.ty32 rfl rfl (.tmp rfl .nil)) rfl ((fun j o h => upd_sub hkt j o h)) (⟨by rw [ofE_eq e, stepE, if_neg (by omega), if_neg (by omega), if_pos (by omega), binR_two (by simpa using h01) (by simpa using h12) (by simpa using hl2)]; simp only [List.getElem_map]; rw [if_neg (by have := hr0 _ (List.getElem_mem h01); omega), if_neg (by have := hr0 _ (List.getElem_mem h12); omega)]; rfl, rfl⟩))
  refine AW.skip (sR (Z11 (zs := [_, _]) (r := [_, _]) [(0, 1), (1, 1)] Fx.ze32 Fx.bp32 ?_))
  refine Z47 112 XW.tm0 ?_
  refine Z2 (r := [_, _]) Fx.ty32 ?_
  refine sB ?_
  exact aR (fin_x (x := .tup [_, _]) (H) (.cellL rfl rfl Fx.ty32 rfl rfl (.tmp rfl .nil)) rfl ((fun j o h => upd_sub hkt j o h)) (⟨by first | (rw [ofE_nolen hlen (by assumption), hop]; rfl) | (rw [ofE_eq e, stepE, if_neg (by omega), if_pos (by assumption), unR_ne (by rw [List.length_map]; simp only [List.length_map] at *; omega), hop]; rfl) | (rw [ofE_eq e, stepE, if_neg (by omega), if_neg (by omega), if_pos (by omega), binR_ne (by rw [List.length_map]; simp only [List.length_map] at *; omega), hop]; rfl) | (by_cases h9 : e.op = 9; rw [ofE_nolen hlen h9, hop]; rfl; rw [ofE_eq e, stepE, if_neg (by omega), if_neg (by omega), if_neg (by omega), hop]; rfl), rfl⟩))
 refine sR (Z9 ?_)
 refine sB ?_
 refine cD ?_ ?_ <;> intro h92
 ·
  refine AW.skip ?_
  refine cD ?_ ?_ <;> intro h92
  rotate_left
  ·
   refine AW.skip (sR (Z11 (zs := [_, _]) (r := [_, _]) [(0, 1), (1, 1)] Fx.ze32 Fx.bp32 ?_))
   refine Z47 112 XW.tm0 ?_
   refine Z2 (r := [_, _]) Fx.ty32 ?_
   refine sB ?_
   exact aR (fin_x (x := .tup [_, _]) (H) (.cellL rfl rfl Fx.ty32 rfl rfl (.tmp rfl .nil)) rfl ((fun j o h => upd_sub hkt j o h)) (⟨by first | (rw [ofE_nolen hlen (by assumption), hop]; rfl) | (rw [ofE_eq e, stepE, if_neg (by omega), if_pos (by assumption), unR_ne (by rw [List.length_map]; simp only [List.length_map] at *; omega), hop]; rfl) | (rw [ofE_eq e, stepE, if_neg (by omega), if_neg (by omega), if_pos (by omega), binR_ne (by rw [List.length_map]; simp only [List.length_map] at *; omega), hop]; rfl) | (by_cases h9 : e.op = 9; rw [ofE_nolen hlen h9, hop]; rfl; rw [ofE_eq e, stepE, if_neg (by omega), if_neg (by omega), if_neg (by omega), hop]; rfl), rfl⟩))
  refine sR (sM ?_)
  refine Z22 Fx.un87 ?_
  refine Z9 ?_
  refine Z7 ?_
  refine cD ?_ ?_ <;> intro h100
  ·
   have hl2 : e.args.length = 2 := by simp only [List.length_map] at *; omega
   have h01 : 0 < e.args.length := by omega
   have h12 : 1 < e.args.length := by omega
   have hg0 := hgd _ (List.getElem_mem h01) (hr0 _ (List.getElem_mem h01))
   have hg1 := hgd _ (List.getElem_mem h12) (hr0 _ (List.getElem_mem h12))
   refine AW.seq (AW.draw Fx.mo ?_)
   refine Z23 Fx.fl26_0 ?_
   refine Z18 Fx.ty3 ?_
   refine Z44 ?_
   refine Z29 Fx.sl87 (idx_of h01) ?_
   refine Z32 (.g [_, _]) Fx.ty32 ?_
   refine Z44 ?_
   refine Z29 Fx.sl87 (idx_of h12) ?_
   refine Z32 (.g [_, _]) Fx.ty32 ?_
   refine LexK.q (q_call _ rfl Fx.fn122 rfl (binary_any e.op (by omega) _ _ hg0.1 hg1.1 (by omega)) rfl) rfl rfl rfl ?_
   refine LexK.q (q_extract _ rfl rfl rfl) rfl rfl rfl ?_
   refine LexK.q (q_extract _ rfl rfl rfl) rfl rfl rfl ?_
   refine Z40 (r := [_, _]) Fx.ty32 ?_
   refine Z52 ?_
   refine Z48 ?_
   exact aR (fin_x (x := .tup [_, _]) (H) (.cellL rfl rfl Fx.ty32 rfl rfl (.tmp rfl .nil)) rfl ((fun j o h => upd_sub hkt j o h)) (⟨by rw [ofE_eq e, stepE, if_neg (by omega), if_neg (by omega), if_pos (by omega), binR_two (by simpa using h01) (by simpa using h12) (by simpa using hl2)]; simp only [List.getElem_map]; rw [if_neg (by have := hr0 _ (List.getElem_mem h01); omega), if_neg (by have := hr0 _ (List.getElem_mem h12); omega)]; rfl, rfl⟩))
  refine AW.skip (sR (Z11 (zs := [_, _]) (r := [_, _]) [(0, 1), (1, 1)] Fx.ze32 Fx.bp32 ?_))
  refine Z47 112 XW.tm0 ?_
  refine Z2 (r := [_, _]) Fx.ty32 ?_
  refine sB ?_
  exact aR (fin_x (x := .tup [_, _]) (H) (.cellL rfl rfl Fx.ty32 rfl rfl (.tmp rfl .nil)) rfl ((fun j o h => upd_sub hkt j o h)) (⟨by first | (rw [ofE_nolen hlen (by assumption), hop]; rfl) | (rw [ofE_eq e, stepE, if_neg (by omega), if_pos (by assumption), unR_ne (by rw [List.length_map]; simp only [List.length_map] at *; omega), hop]; rfl) | (rw [ofE_eq e, stepE, if_neg (by omega), if_neg (by omega), if_pos (by omega), binR_ne (by rw [List.length_map]; simp only [List.length_map] at *; omega), hop]; rfl) | (by_cases h9 : e.op = 9; rw [ofE_nolen hlen h9, hop]; rfl; rw [ofE_eq e, stepE, if_neg (by omega), if_neg (by omega), if_neg (by omega), hop]; rfl), rfl⟩))
 refine sR (Z9 ?_)
 refine sB ?_
 refine cD ?_ ?_ <;> intro h92
 ·
  refine AW.skip ?_
  refine cD ?_ ?_ <;> intro h92
  rotate_left
  ·
   refine AW.skip (sR (Z11 (zs := [_, _]) (r := [_, _]) [(0, 1), (1, 1)] Fx.ze32 Fx.bp32 ?_))
   refine Z47 112 XW.tm0 ?_
   refine Z2 (r := [_, _]) Fx.ty32 ?_
   refine sB ?_
   exact aR (fin_x (x := .tup [_, _]) (H) (.cellL rfl rfl Fx.ty32 rfl rfl (.tmp rfl .nil)) rfl ((fun j o h => upd_sub hkt j o h)) (⟨by first | (rw [ofE_nolen hlen (by assumption), hop]; rfl) | (rw [ofE_eq e, stepE, if_neg (by omega), if_pos (by assumption), unR_ne (by rw [List.length_map]; simp only [List.length_map] at *; omega), hop]; rfl) | (rw [ofE_eq e, stepE, if_neg (by omega), if_neg (by omega), if_pos (by omega), binR_ne (by rw [List.length_map]; simp only [List.length_map] at *; omega), hop]; rfl) | (by_cases h9 : e.op = 9; rw [ofE_nolen hlen h9, hop]; rfl; rw [ofE_eq e, stepE, if_neg (by omega), if_neg (by omega), if_neg (by omega), hop]; rfl), rfl⟩))
  refine sR (sM ?_)
  refine Z22 Fx.un87 ?_
  refine Z9 ?_
  refine Z7 ?_
  refine cD ?_ ?_ <;> intro h100
  ·
   have hl2 : e.args.length = 2 := by simp only [List.length_map] at *; omega
   have h01 : 0 < e.args.length := by omega
   have h12 : 1 < e.args.length := by omega
   have hg0 := hgd _ (List.getElem_mem h01) (hr0 _ (List.getElem_mem h01))
   have hg1 := hgd _ (List.getElem_mem h12) (hr0 _ (List.getElem_mem h12))
   refine AW.seq (AW.draw Fx.mo ?_)
   refine Z23 Fx.fl26_0 ?_
   refine Z18 Fx.ty3 ?_
   refine Z44 ?_
   refine Z29 Fx.sl87 (idx_of h01) ?_
   refine Z32 (.g [_, _]) Fx.ty32 ?_
   refine Z44 ?_
   refine Z29 Fx.sl87 (idx_of h12) ?_
   refine Z32 (.g [_, _]) Fx.ty32 ?_
   refine LexK.q (q_call _ rfl Fx.fn122 rfl (binary_any e.op (by omega) _ _ hg0.1 hg1.1 (by omega)) rfl) rfl rfl rfl ?_
   refine LexK.q (q_extract _ rfl rfl rfl) rfl rfl rfl ?_
   refine LexK.q (q_extract _ rfl rfl rfl) rfl rfl rfl ?_
   refine Z40 (r := [_, _]) Fx.ty32 ?_
   refine Z52 ?_
   refine Z48 ?_
   exact aR (fin_x (x := .tup [_, _]) (H) (.cellL rfl rfl Fx.ty32 rfl rfl (.tmp rfl .nil)) rfl ((fun j o h => upd_sub hkt j o h)) (⟨by rw [ofE_eq e, stepE, if_neg (by omega), if_neg (by omega), if_pos (by omega), binR_two (by simpa using h01) (by simpa using h12) (by simpa using hl2)]; simp only [List.getElem_map]; rw [if_neg (by have := hr0 _ (List.getElem_mem h01); omega), if_neg (by have := hr0 _ (List.getElem_mem h12); omega)]; rfl, rfl⟩))
  refine AW.skip (sR (Z11 (zs := [_, _]) (r := [_, _]) [(0, 1), (1, 1)] Fx.ze32 Fx.bp32 ?_))
  refine Z47 112 XW.tm0 ?_
  refine Z2 (r := [_, _]) Fx.ty32 ?_
  refine sB ?_
  exact aR (fin_x (x := .tup [_, _]) (H) (.cellL rfl rfl Fx.ty32 rfl rfl (.tmp rfl .nil)) rfl ((fun j o h => upd_sub hkt j o h)) (⟨by first | (rw [ofE_nolen hlen (by assumption), hop]; rfl) | (rw [ofE_eq e, stepE, if_neg (by omega), if_pos (by assumption), unR_ne (by rw [List.length_map]; simp only [List.length_map] at *; omega), hop]; rfl) | (rw [ofE_eq e, stepE, if_neg (by omega), if_neg (by omega), if_pos (by omega), binR_ne (by rw [List.length_map]; simp only [List.length_map] at *; omega), hop]; rfl) | (by_cases h9 : e.op = 9; rw [ofE_nolen hlen h9, hop]; rfl; rw [ofE_eq e, stepE, if_neg (by omega), if_neg (by omega), if_neg (by omega), hop]; rfl), rfl⟩))
 refine AW.reg (Z9 ?_)
 refine sB ?_
 refine cD ?_ ?_ <;> intro h92
 rotate_left
 ·
  refine AW.skip (sR (Z11 (zs := [_, _]) (r := [_, _]) [(0, 1), (1, 1)] Fx.ze32 Fx.bp32 ?_))
  refine Z47 112 XW.tm0 ?_
  refine Z2 (r := [_, _]) Fx.ty32 ?_
  refine sB ?_
  exact aR (fin_x (x := .tup [_, _]) (H) (.cellL rfl rfl Fx.ty32 rfl rfl (.tmp rfl .nil)) rfl ((fun j o h => upd_sub hkt j o h)) (⟨by first | (rw [ofE_nolen hlen (by assumption), hop]; rfl) | (rw [ofE_eq e, stepE, if_neg (by omega), if_pos (by assumption), unR_ne (by rw [List.length_map]; simp only [List.length_map] at *; omega), hop]; rfl) | (rw [ofE_eq e, stepE, if_neg (by omega), if_neg (by omega), if_pos (by omega), binR_ne (by rw [List.length_map]; simp only [List.length_map] at *; omega), hop]; rfl) | (by_cases h9 : e.op = 9; rw [ofE_nolen hlen h9, hop]; rfl; rw [ofE_eq e, stepE, if_neg (by omega), if_neg (by omega), if_neg (by omega), hop]; rfl), rfl⟩))
 refine sR (sM ?_)
 refine Z22 Fx.un87 ?_
 refine Z9 ?_
 refine Z7 ?_
 refine cD ?_ ?_ <;> intro h100
 ·
  have hl2 : e.args.length = 2 := by simp only [List.length_map] at *; omega
  have h01 : 0 < e.args.length := by omega
  have h12 : 1 < e.args.length := by omega
  have hg0 := hgd _ (List.getElem_mem h01) (hr0 _ (List.getElem_mem h01))
  have hg1 := hgd _ (List.getElem_mem h12) (hr0 _ (List.getElem_mem h12))
  refine AW.seq (AW.draw Fx.mo ?_)
  refine Z23 Fx.fl26_0 ?_
  refine Z18 Fx.ty3 ?_
  refine Z44 ?_
  refine Z29 Fx.sl87 (idx_of h01) ?_
  refine Z32 (.g [_, _]) Fx.ty32 ?_
  refine Z44 ?_
  refine Z29 Fx.sl87 (idx_of h12) ?_
  refine Z32 (.g [_, _]) Fx.ty32 ?_
  refine LexK.q (q_call _ rfl Fx.fn122 rfl (binary_any e.op (by omega) _ _ hg0.1 hg1.1 (by omega)) rfl) rfl rfl rfl ?_
  refine LexK.q (q_extract _ rfl rfl rfl) rfl rfl rfl ?_
  refine LexK.q (q_extract _ rfl rfl rfl) rfl rfl rfl ?_
  refine Z40 (r := [_, _]) Fx.ty32 ?_
  refine Z52 ?_
  refine Z48 ?_
  exact aR (fin_x (x := .tup [_, _]) (H) (.cellL rfl rfl Fx.ty32 rfl rfl (.tmp rfl .nil)) rfl ((fun j o h => upd_sub hkt j o h)) (⟨by rw [ofE_eq e, stepE, if_neg (by omega), if_neg (by omega), if_pos (by omega), binR_two (by simpa using h01) (by simpa using h12) (by simpa using hl2)]; simp only [List.getElem_map]; rw [if_neg (by have := hr0 _ (List.getElem_mem h01); omega), if_neg (by have := hr0 _ (List.getElem_mem h12); omega)]; rfl, rfl⟩))
 refine AW.skip (sR (Z11 (zs := [_, _]) (r := [_, _]) [(0, 1), (1, 1)] Fx.ze32 Fx.bp32 ?_))
 refine Z47 112 XW.tm0 ?_
 refine Z2 (r := [_, _]) Fx.ty32 ?_
 refine sB ?_
 exact aR (fin_x (x := .tup [_, _]) (H) (.cellL rfl rfl Fx.ty32 rfl rfl (.tmp rfl .nil)) rfl ((fun j o h => upd_sub hkt j o h)) (⟨by first | (rw [ofE_nolen hlen (by assumption), hop]; rfl) | (rw [ofE_eq e, stepE, if_neg (by omega), if_pos (by assumption), unR_ne (by rw [List.length_map]; simp only [List.length_map] at *; omega), hop]; rfl) | (rw [ofE_eq e, stepE, if_neg (by omega), if_neg (by omega), if_pos (by omega), binR_ne (by rw [List.length_map]; simp only [List.length_map] at *; omega), hop]; rfl) | (by_cases h9 : e.op = 9; rw [ofE_nolen hlen h9, hop]; rfl; rw [ofE_eq e, stepE, if_neg (by omega), if_neg (by omega), if_neg (by omega), hop]; rfl), rfl⟩))
theorem rof_any (e : Ex) : okE e → Pure Tryz.prog 92 [exC e] (trC (ofE e)) := by
  induction e using Ex.ind with
  | h e ih =>
    intro h
    cases e with | mk op tb nm ix vk vn vs args =>
    simp only [okE, okEs_iff] at h
    exact rof_of _ ⟨h.1.1, h.1.2, fun a ha => (h.2 a ha).2.2⟩ (fun a ha => (h.2 a ha).2.1) fun a ha => ih a ha (h.2 a ha).1
structure Vr where (ty lo hi mx : Int) (nu : Bool)
abbrev vrT (v : Vr) : List E.T := [.v (.int .i64 v.ty), .v (.int .i64 v.lo), .v (.int .i64 v.hi), .v (.int .i64 v.mx), .v (.bool v.nu)]
abbrev vrC5 (v : Vr) : C := .g [.t (.v (.int .i64 v.ty)), .t (.v (.int .i64 v.lo)), .t (.v (.int .i64 v.hi)), .t (.v (.int .i64 v.mx)), .t (.v (.bool v.nu))]
abbrev vsC (z : Nz) (l : List Vr) : C := .a (.t (.sl z 5 (l.map vrT)))
abbrev rvC (v : RV) : C := .g [.t (.v (.int .i64 v.k)), .t (.v (.int .i64 v.n)), .t (.v (.string v.s))]
structure At where (k v o : Int) (t : Tm) (tv tk : Int) (tn : Bool) (ts : ByteArray)
inductive Fm where
  | mk (kind : Int) (fa : At) (args : List Fm)
@[reducible] def Fm.kind : Fm → Int | .mk a _ _ => a
@[reducible] def Fm.fa : Fm → At | .mk _ a _ => a
@[reducible] def Fm.args : Fm → List Fm | .mk _ _ a => a
abbrev at0 : At := ⟨0, 0, 0, tm0, 0, 0, false, ⟨#[]⟩⟩
abbrev fm0 : Fm := .mk 0 at0 []
abbrev cst (b : Bool) : Fm := .mk (if b then 0 else 1) at0 []
abbrev atF (a : At) : Fm := .mk 2 a []
def lsF (k : Int) : List Fm → Fm
  | [f] => f
  | l => .mk k at0 l
mutual
def nulB : Ex → Bool
  | .mk op _ _ _ vk _ _ args => decide (op = 1 ∧ vk = 0) || nulBs args
def nulBs : List Ex → Bool
  | [] => false
  | a :: r => nulB a || nulBs r
end
theorem nulBs_any : ∀ l, nulBs l = l.any nulB
  | [] => rfl
  | a :: r => by rw [nulBs, nulBs_any r, List.any_cons]
theorem nulB_eq (e : Ex) : nulB e = (decide (e.op = 1 ∧ e.vk = 0) || e.args.any nulB) := by cases e; rw [nulB, nulBs_any]
mutual
def colR : Ex → List Int
  | .mk op _ _ ix _ _ _ args => (if op = 2 then [ix] else []) ++ colRs args
def colRs : List Ex → List Int
  | [] => []
  | a :: r => colR a ++ colRs r
end
theorem colR_eq (e : Ex) : colR e = (if e.op = 2 then [e.ix] else []) ++ colRs e.args := by cases e; rw [colR]
theorem colRs_app (a b : List Ex) : colRs (a ++ b) = colRs a ++ colRs b := by
  induction a with
  | nil => rw [List.nil_append, colRs]; rfl
  | cons x r ih => rw [List.cons_append, colRs, colRs, ih, List.append_assoc]
theorem colRs_take {l : List Ex} {i : Nat} (h : i < l.length) : colRs (l.take (i + 1)) = colRs (l.take i) ++ colR l[i] := by
  rw [List.take_succ_eq_append_getElem h, colRs_app, colRs, colRs, List.append_nil]
theorem mem_colRs {v : Int} : ∀ {l : List Ex}, v ∈ colRs l ↔ ∃ a ∈ l, v ∈ colR a
  | [] => by simp [colRs]
  | a :: r => by rw [colRs, List.mem_append, mem_colRs]; simp
abbrev colsL (l : List Ex) : List Int := dd (colRs l)
abbrev nlsF (k : Int) (l : List Int) : List Fm := l.map fun v => atF ⟨k, v, 0, tm0, 0, 0, false, ⟨#[]⟩⟩
abbrev wkM (m : Int) : Bool := decide (m = 2 ∨ m = 3)
abbrev poM (m : Int) : Bool := decide (m = 0 ∨ m = 2)
abbrev ngM (m : Int) : Int := if m = 0 then 1 else if m = 1 then 0 else if m = 2 then 3 else 2
abbrev opO (op : Int) : Int := if op = 10 then 11 else if op = 11 then 10 else if op = 12 then 15 else if op = 15 then 12 else if op = 13 then 14 else 13
abbrev opR (op : Int) : Int := if op = 12 then 14 else if op = 14 then 12 else if op = 13 then 15 else if op = 15 then 13 else op
abbrev cpB (op c : Int) : Bool := if op = 10 then decide (c = 0) else if op = 11 then decide (c ≠ 0) else if op = 12 then decide (c < 0) else if op = 13 then decide (c ≤ 0) else if op = 14 then decide (c > 0) else decide (c ≥ 0)
abbrev sgI (n : Int) : Int := if n < 0 then -1 else if n > 0 then 1 else 0
abbrev txB (l : List Vr) (e : Ex) : Bool := if e.op = 2 then decide (0 ≤ e.ix ∧ e.ix < l.length ∧ (l.getD e.ix.toNat ⟨0, 0, 0, 0, false⟩).ty = 2) else decide (e.op = 1 ∧ e.vk = 2)
structure PR where (kn vl : Bool) (a : At)
abbrev pr0 : PR := ⟨false, false, at0⟩
abbrev dcd (b : Bool) : PR := ⟨true, b, at0⟩
abbrev atP (a : At) : PR := ⟨false, false, a⟩
abbrev atI (k : Int) (t : Tm) : At := ⟨k, 0, 0, t, 0, 0, false, ⟨#[]⟩⟩
def intF (op : Int) (t : Tm) : PR × Int :=
  if t.ps.length = 0 then (dcd (cpB op (sgI t.c)), 0)
  else if op = 10 then (atP (atI 3 t), 0)
  else if op = 11 then (atP (atI 4 t), 0)
  else
    let u := if op = 15 ∨ op = 14 then scale t (-1) else (t, 0)
    if u.2 ≠ 0 then (pr0, u.2)
    else
      let w := if op = 12 ∨ op = 14 then add u.1 ⟨1, []⟩ else (u.1, 0)
      if w.2 ≠ 0 then (pr0, w.2) else (atP (atI 2 w.1), 0)
def intP (op : Int) (x y : Ex) : PR × Int :=
  if (ofE x).2 ≠ 0 then (pr0, (ofE x).2)
  else if (ofE y).2 ≠ 0 then (pr0, (ofE y).2)
  else if (scale (ofE y).1 (-1)).2 ≠ 0 then (pr0, (scale (ofE y).1 (-1)).2)
  else if (add (ofE x).1 (scale (ofE y).1 (-1)).1).2 ≠ 0 then (pr0, (add (ofE x).1 (scale (ofE y).1 (-1)).1).2)
  else intF op (add (ofE x).1 (scale (ofE y).1 (-1)).1).1
abbrev tkI (op : Int) : Int := if op = 10 ∨ op = 11 then 0 else if op = 13 ∨ op = 14 then 3 else 2
abbrev tnI (op : Int) : Bool := !decide (op = 10 ∨ op = 12 ∨ op = 13)
abbrev atT (v op : Int) (s : ByteArray) : At := ⟨5, v, 0, tm0, 0, tkI op, tnI op, s⟩
abbrev txC (lt : ByteArray → ByteArray → Bool) (a b : ByteArray) : Int := if lt a b then -1 else if lt b a then 1 else 0
def txtP (lt : ByteArray → ByteArray → Bool) (op : Int) (x y : Ex) : PR :=
  if x.op = 1 ∧ y.op = 1 then dcd (cpB op (txC lt x.vs y.vs))
  else if x.op = 1 then atP (atT y.ix (opR op) x.vs)
  else if y.op = 1 then atP (atT x.ix op y.vs)
  else if x.ix = y.ix then dcd (decide (op = 10))
  else atP ⟨if op = 11 then 7 else 6, min x.ix y.ix, max x.ix y.ix, tm0, 0, 0, false, ⟨#[]⟩⟩
def lkP (lk : ByteArray → ByteArray → Bool) (x y : Ex) (p : Bool) : PR :=
  if x.op = 1 then dcd (decide (lk x.vs y.vs = p)) else atP ⟨5, x.ix, 0, tm0, 0, 1, !p, y.vs⟩
abbrev ex0 : Ex := ⟨0, ⟨#[]⟩, ⟨#[]⟩, 0, 0, 0, ⟨#[]⟩, []⟩
def prtP (lt lk : ByteArray → ByteArray → Bool) (l : List Vr) (op : Int) (x y : Ex) (m : Int) : PR × Int :=
  if op = 16 then (lkP lk x y (poM m), 0)
  else if txB l x = true ∨ txB l y = true then (txtP lt (if poM m then op else opO op) x y, 0)
  else intP (if poM m then op else opO op) x y
abbrev vaA (a : At) : List Int := if a.k = 2 ∨ a.k = 3 ∨ a.k = 4 then dd (colT a.t) else if a.k = 6 ∨ a.k = 7 then dd [a.v, a.o] else [a.v]
def cmbP (p : PR) (vs : List Int) (m : Int) : Fm :=
  if wkM m then
    (if p.kn && p.vl then cst true else lsF 1 (nlsF 0 vs ++ if p.kn then [] else [atF p.a]))
  else
    (if p.kn && !p.vl then cst false
     else if p.kn then lsF 0 (nlsF 1 vs)
     else lsF 0 (nlsF 1 (vs.filter fun v => !decide (v ∈ vaA p.a)) ++ [atF p.a]))
def cmpF (lt lk : ByteArray → ByteArray → Bool) (l : List Vr) (e : Ex) (m : Int) : Fm × Int :=
  if nulB e then (cst (wkM m), 0)
  else
    let r := prtP lt lk l e.op (e.args.getD 0 ex0) (e.args.getD 1 ex0) m
    if r.2 ≠ 0 then (fm0, r.2) else (cmbP r.1 (colsL e.args) m, 0)
def isN (a : Ex) (m : Int) : Fm := if nulB a then cst (poM m) else if poM m then lsF 1 (nlsF 0 (colsL [a])) else lsF 0 (nlsF 1 (colsL [a]))
def andR (k : Int) : List (Fm × Int) → List Fm → Fm × Int
  | [], out => (.mk k at0 out, 0)
  | r :: l, out => if r.2 ≠ 0 then (fm0, r.2) else andR k l (out ++ [r.1])
def stepT (lt lk : ByteArray → ByteArray → Bool) (l : List Vr) (e : Ex) (rs : List (Int → Fm × Int)) (m : Int) : Fm × Int :=
  if e.op = 18 ∨ e.op = 19 then andR (if decide (e.op = 18) = poM m then 0 else 1) (rs.map fun r => r m) []
  else if e.op = 20 then (rs.getD 0 fun _ => (fm0, 0)) (ngM m)
  else if e.op = 17 then (isN (e.args.getD 0 ex0) m, 0)
  else if e.op = 1 then (cst (wkM m), 0)
  else cmpF lt lk l e m
mutual
def trE (lt lk : ByteArray → ByteArray → Bool) (l : List Vr) : Ex → Int → Fm × Int
  | .mk op tb nm ix vk vn vs args, m => stepT lt lk l (.mk op tb nm ix vk vn vs args) (trS lt lk l args) m
def trS (lt lk : ByteArray → ByteArray → Bool) (l : List Vr) : List Ex → List (Int → Fm × Int)
  | [] => []
  | a :: r => (fun m => trE lt lk l a m) :: trS lt lk l r
end
theorem trS_map (lt lk : ByteArray → ByteArray → Bool) (l : List Vr) : ∀ es, trS lt lk l es = es.map fun e m => trE lt lk l e m
  | [] => by rw [trS]; rfl
  | a :: r => by rw [trS, trS_map lt lk l r, List.map_cons]
theorem trE_eq (lt lk : ByteArray → ByteArray → Bool) (l : List Vr) (e : Ex) (m : Int) : trE lt lk l e m = stepT lt lk l e (e.args.map fun a m => trE lt lk l a m) m := by
  cases e; rw [trE, trS_map]
abbrev htB (l : List Vr) (v k : Int) : Bool := decide (0 ≤ v ∧ v < l.length ∧ (l.getD v.toNat ⟨0, 0, 0, 0, false⟩).ty = k)
mutual
def tyT (l : List Vr) : Tm → Bool
  | .mk _ ps => tyPs l ps
def tyPs (l : List Vr) : List Pt → Bool
  | [] => true
  | p :: r => tyP l p && tyPs l r
def tyP (l : List Vr) : Pt → Bool
  | .mk _ k v _ of => if k = 0 then htB l v 1 else if k = 1 then htB l v 2 else tyO l of
def tyO (l : List Vr) : List Tm → Bool
  | [] => true
  | t :: _ => tyT l t
end
theorem tyT_eq (l : List Vr) (t : Tm) : tyT l t = tyPs l t.ps := by cases t; rw [tyT]
theorem tyPs_iff {l : List Vr} : ∀ {ps : List Pt}, tyPs l ps = true ↔ ∀ p ∈ ps, tyP l p = true
  | [] => by simp [tyPs]
  | p :: r => by rw [tyPs, Bool.and_eq_true, tyPs_iff]; simp
theorem tyP_eq (l : List Vr) (p : Pt) : tyP l p = if p.kind = 0 then htB l p.var 1 else if p.kind = 1 then htB l p.var 2 else tyO l p.of := by cases p; rw [tyP]
abbrev prnP (s : ByteArray) : Prop := ∀ j (h : j < s.data.toList.length), 32 ≤ s.data.toList[j].toNat ∧ s.data.toList[j].toNat ≤ 126
abbrev vtX (s : ByteArray) : Prop := prnP s ∧ s.size ≤ 16
abbrev zrT (t : Tm) : Prop := t.c = 0 ∧ t.ps.length = 0
abbrev zrS (a : At) : Prop := a.tv = 0 ∧ a.tk = 0 ∧ a.tn = false ∧ a.ts = ⟨#[]⟩
def avP (l : List Vr) (a : At) : Prop :=
  if a.k = 0 ∨ a.k = 1 then (0 ≤ a.v ∧ a.v < l.length) ∧ a.o = 0 ∧ zrT a.t ∧ zrS a
  else if a.k = 2 ∨ a.k = 3 ∨ a.k = 4 then a.v = 0 ∧ a.o = 0 ∧ zrS a ∧ vldT a.t = true ∧ tyT l a.t = true
  else if a.k = 5 then htB l a.v 2 = true ∧ a.o = 0 ∧ zrT a.t ∧ (0 ≤ a.tk ∧ a.tk ≤ 3) ∧ a.tv = 0 ∧ vtX a.ts
  else if a.k = 6 ∨ a.k = 7 then htB l a.v 2 = true ∧ htB l a.o 2 = true ∧ a.v < a.o ∧ zrT a.t ∧ zrS a
  else False
instance (l : List Vr) (a : At) : Decidable (avP l a) := by unfold avP; infer_instance
abbrev emA (a : At) : Prop := a.k = 0 ∧ a.v = 0 ∧ a.o = 0 ∧ zrT a.t ∧ zrS a
mutual
def fvB (l : List Vr) : Fm → Bool
  | .mk k a args => if k = 2 then decide (args.length = 0 ∧ avP l a) else if k = 0 ∨ k = 1 then decide (emA a) && fvS l args else false
def fvS (l : List Vr) : List Fm → Bool
  | [] => true
  | f :: r => fvB l f && fvS l r
end
theorem fvS_all (l : List Vr) : ∀ fs, fvS l fs = fs.all (fvB l)
  | [] => by rw [fvS]; rfl
  | f :: r => by rw [fvS, fvS_all l r, List.all_cons]
theorem fvB_eq (l : List Vr) (f : Fm) : fvB l f = if f.kind = 2 then decide (f.args.length = 0 ∧ avP l f.fa) else if f.kind = 0 ∨ f.kind = 1 then decide (emA f.fa) && f.args.all (fvB l) else false := by
  cases f; rw [fvB, fvS_all]
end Go.Proofs.YtnnoafgdjjpidaaGreatDoor.W
