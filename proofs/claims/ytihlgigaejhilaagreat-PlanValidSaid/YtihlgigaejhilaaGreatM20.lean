/- Parts of the proof, one after the other: W42, W43, W44, W45, W46, W47, R2. No condition. -/
import Derived.Test.YtihlgigaejhilaaGreatM19
set_option linter.unusedSectionVars false
set_option linter.unusedSimpArgs false
set_option linter.unusedVariables false
namespace Go.Proofs.YtihlgigaejhilaaGreat.W
open Go.RowKit E
/-! what a plan uses, by the reference -/
structure Us where (flt : Bool) (what var : Int) (ex : Ex)
abbrev usrT (u : Us) : List E.T := [.v (.bool u.flt), .v (.int .i64 u.what), .v (.int .i64 u.var)] ++ exL u.ex
abbrev usrC (u : Us) : C := .g [.t (.v (.bool u.flt)), .t (.v (.int .i64 u.what)), .t (.v (.int .i64 u.var)), .t (.v (.int .i64 u.ex.op)), .t (.v (.string u.ex.tb)), .t (.v (.string u.ex.nm)), .t (.v (.int .i64 u.ex.ix)), .t (.v (.int .i64 u.ex.vk)), .t (.v (.int .i64 u.ex.vn)), .t (.v (.string u.ex.vs)), .t (.sl .un 8 (u.ex.args.map exT'))]
def lB (c : Ex) (v : Int) (k : Ex) : Bool := if h : c.args.length = 2 then decide (isVP c.args[0] v) && decide (c.args[1] = k) else false
def rB (c : Ex) (v : Int) (k : Ex) : Bool := if h : c.args.length = 2 then decide (isVP c.args[1] v) && decide (c.args[0] = k) else false
theorem lB_eq {c : Ex} {v : Int} {k : Ex} (h : c.args.length = 2) : lB c v k = (decide (isVP c.args[0] v) && decide (c.args[1] = k)) := by rw [lB, dif_pos h]
theorem rB_eq {c : Ex} {v : Int} {k : Ex} (h : c.args.length = 2) : rB c v k = (decide (isVP c.args[1] v) && decide (c.args[0] = k)) := by rw [rB, dif_pos h]
abbrev okO (op w : Int) (L R : Bool) : Bool := if w = 0 then decide (op = 10) && (L || R) else if w = 1 then decide (op = 15 ∨ op = 14) && L || decide (op = 13 ∨ op = 12) && R else decide (op = 13 ∨ op = 12) && L || decide (op = 15 ∨ op = 14) && R
abbrev exO (op w : Int) (L R : Bool) : Bool := if w = 0 then true else if w = 1 then decide (op = 15) && L || decide (op = 13) && R else decide (op = 13) && L || decide (op = 15) && R
abbrev gR1 (c : Ex) (v : Int) (k : Ex) (w : Int) : Bool := decide (c.args.length = 2) && okO c.op w (lB c v k) (rB c v k)
abbrev gR2 (c : Ex) (v : Int) (k : Ex) (w : Int) : Bool := decide (c.args.length = 2) && exO c.op w (lB c v k) (rB c v k)
abbrev fit1 (c : Ex) (u : Us) : Bool := if u.flt then decide (c = u.ex) else gR1 c u.var u.ex u.what
abbrev fit2 (c : Ex) (u : Us) : Bool := if u.flt then decide (c = u.ex) else gR1 c u.var u.ex u.what && gR2 c u.var u.ex u.what
theorem bbE {a b a' b' : Bool} (h : a = a') (k : b = b') : X.tup [bC a, bC b] = X.tup [bC a', bC b'] := by rw [h, k]

set_option maxHeartbeats 8000000 in
set_option maxRecDepth 20000 in
theorem rgives_any (c : Ex) (v : Int) (k : Ex) (w : Int) (ho : okE c) : Pure Tryz.prog 68 [exC c, iC v, exC k, iC w] (.tup [bC (gR1 c v k w), bC (gR2 c v k w)]) := by
 have q4 := (okE_iff.1 ho).1.2.2.2
 intro H
 refine Spec.enter Tryz.func68 rfl ?_
 refine AW.wk (Wk.keep 142 [(0, .c (exC c)), (1, .c (iC v)), (2, .c (exC k)), (3, .c (iC w))] [] (H) rfl ⟨rfl, rfl, rfl, rfl, trivial⟩ trivial (fun _ _ h => h) rfl) ?_
 refine sR ?_
 refine Z18 (r := [_, _, _, _, _, _, _, _]) ?_
 refine Z18 (r := [_, _, _, _, _, _, _, _]) ?_
 refine sA ?_
 refine sA ?_
 refine Z4 ?_
 refine AW.seq ?_
 refine sR ?_
 refine Z2 Fx.fl30_5 ?_
 refine Z0 Fx.ty28 ?_
 refine Z10 Fx.un28 ?_
 refine Z51 ?_
 refine Z4 ?_
 refine AW.condD rfl (fun h17 => ?_) (fun h17 => ?_)
 ·
  have hq : ¬ c.args.length = 2 := by rw [List.length_map] at h17; omega
  refine sR ?_
  refine sA ?_
  refine sA ?_
  refine Z4 ?_
  refine AW.ret ?_
  exact fin_x (x := .tup [_, _]) (H) (.tmp rfl (.tmp rfl .nil)) rfl (fun _ _ h => h) (⟨bbE (by simp [hq]) (by simp [hq]), rfl⟩)
 have hq : c.args.length = 2 := by rw [List.length_map] at h17; omega
 refine AW.skip ?_
 refine AW.seqM (fun s => s = ⟨142, sp [(1, .c (iC v)), (3, .c (iC w)), (4, .lp 4 0), (6, .lp 6 0), (8, .c (bC false)), (9, .c (bC false)), (10, .c (bC (lB c v k)))], lv [(4, .box (zEx c)), (6, .box (zEx k))], H⟩) ?_ ?_
 ·
  refine AW.draw Fx.mo ?_
  refine Z30 Fx.fl30_5 ?_
  refine Z23 Fx.ty28 ?_
  refine LexK.q (q_index _ rfl Fx.sl28 rfl rfl (by omega) (idx_ex (show 0 < c.args.length by omega))) rfl rfl rfl ?_
  refine LexK.q (q_fieldP _ rfl Fx.fl30_0 rfl rfl) rfl rfl rfl ?_
  refine Z29 (.a _) Fx.ty3 ?_
  refine LexK.q (q_eql rfl rfl rfl) rfl rfl rfl ?_
  refine LexK.qD (q_mvC rfl rfl) rfl rfl rfl (fun g24 => ?_) (fun g24 => ?_)
  ·
   refine Z20 Fx.fl30_5 ?_
   refine Z17 Fx.ty28 ?_
   refine LexK.on (q_index _ rfl Fx.sl28 rfl rfl (by omega) (idx_ex (show 0 < c.args.length by omega))) rfl rfl rfl rfl rfl ?_
   refine LexK.on (q_fieldP _ rfl Fx.fl30_3 rfl rfl) rfl rfl rfl rfl rfl ?_
   refine Z36 (.a _) Fx.ty3 ?_
   refine Z27 ?_
   refine LexK.on (q_eql rfl rfl rfl) rfl rfl rfl rfl rfl ?_
   refine Z40 ?_
   refine LexK.qD (q_mvC rfl rfl) rfl rfl rfl (fun g33 => ?_) (fun g33 => ?_)
   ·
    refine Z20 Fx.fl30_5 ?_
    refine Z17 Fx.ty28 ?_
    refine LexK.on (q_index _ rfl Fx.sl28 rfl rfl (by omega) (idx_ex (show 1 < c.args.length by omega))) rfl rfl rfl rfl rfl ?_
    refine Z36 (.g [_, _, _, _, _, _, _, _]) Fx.ty30 ?_
    refine Z53 (r := .g [_, _, _, _, _, _, _, _]) Fx.ty30 ?_
    refine LexK.on (q_call _ rfl Fx.fn12 rfl (expr_any _ _ ((okE_iff.1 ho).2 _ (List.getElem_mem (show 1 < c.args.length by omega)))) rfl) rfl rfl rfl rfl rfl ?_
    refine Z40 ?_
    refine Z34 ?_
    refine Z31 ?_
    exact ⟨_, Wk.keep 142 [(1, .c (iC v)), (3, .c (iC w)), (4, .lp 4 0), (6, .lp 6 0), (8, .c (bC false)), (9, .c (bC false)), (10, .c (bC (lB c v k)))] [(4, .box (zEx c)), (6, .box (zEx k))] (H) rfl ⟨rfl, rfl, rfl, rfl, rfl, rfl, bCe (by rw [lB_eq hq]; first | (rw [decide_eq_false (fun h => g24 h.1)]; rfl) | (rw [decide_eq_false (fun h => g33 h.2)]; rfl) | (rw [decide_eq_true (p := isVP c.args[0] v) ⟨g24, g33⟩, Bool.true_and])), trivial⟩ ⟨rfl, rfl, trivial⟩ (fun _ _ h => h) rfl, rfl⟩
   iterate 6 refine LexK.off rfl rfl rfl rfl rfl rfl ?_
   refine Z22 ?_
   refine Z34 ?_
   refine Z31 ?_
   exact ⟨_, Wk.keep 142 [(1, .c (iC v)), (3, .c (iC w)), (4, .lp 4 0), (6, .lp 6 0), (8, .c (bC false)), (9, .c (bC false)), (10, .c (bC (lB c v k)))] [(4, .box (zEx c)), (6, .box (zEx k))] (H) rfl ⟨rfl, rfl, rfl, rfl, rfl, rfl, bCe (by rw [lB_eq hq]; first | (rw [decide_eq_false (fun h => g24 h.1)]; rfl) | (rw [decide_eq_false (fun h => g33 h.2)]; rfl) | (rw [decide_eq_true (p := isVP c.args[0] v) ⟨g24, g33⟩, Bool.true_and])), trivial⟩ ⟨rfl, rfl, trivial⟩ (fun _ _ h => h) rfl, rfl⟩
  iterate 7 refine LexK.off rfl rfl rfl rfl rfl rfl ?_
  refine Z22 ?_
  refine Z16 ?_
  iterate 6 refine LexK.off rfl rfl rfl rfl rfl rfl ?_
  refine Z22 ?_
  refine Z34 ?_
  refine Z31 ?_
  exact ⟨_, Wk.keep 142 [(1, .c (iC v)), (3, .c (iC w)), (4, .lp 4 0), (6, .lp 6 0), (8, .c (bC false)), (9, .c (bC false)), (10, .c (bC (lB c v k)))] [(4, .box (zEx c)), (6, .box (zEx k))] (H) rfl ⟨rfl, rfl, rfl, rfl, rfl, rfl, bCe (by rw [lB_eq hq]; first | (rw [decide_eq_false (fun h => g24 h.1)]; rfl) | (rw [decide_eq_false (fun h => g33 h.2)]; rfl) | (rw [decide_eq_true (p := isVP c.args[0] v) ⟨g24, g33⟩, Bool.true_and])), trivial⟩ ⟨rfl, rfl, trivial⟩ (fun _ _ h => h) rfl, rfl⟩
 rintro s rfl
 refine AW.seqM (fun s => s = ⟨142, sp [(1, .c (iC v)), (3, .c (iC w)), (4, .lp 4 0), (6, .lp 6 0), (8, .c (bC false)), (9, .c (bC false)), (10, .c (bC (lB c v k))), (11, .c (bC (rB c v k)))], lv [(4, .box (zEx c)), (6, .box (zEx k))], H⟩) ?_ ?_
 ·
  refine AW.draw Fx.mo ?_
  refine Z30 Fx.fl30_5 ?_
  refine Z23 Fx.ty28 ?_
  refine LexK.q (q_index _ rfl Fx.sl28 rfl rfl (by omega) (idx_ex (show 1 < c.args.length by omega))) rfl rfl rfl ?_
  refine LexK.q (q_fieldP _ rfl Fx.fl30_0 rfl rfl) rfl rfl rfl ?_
  refine Z29 (.a _) Fx.ty3 ?_
  refine LexK.q (q_eql rfl rfl rfl) rfl rfl rfl ?_
  refine LexK.qD (q_mvC rfl rfl) rfl rfl rfl (fun g47 => ?_) (fun g47 => ?_)
  ·
   refine Z20 Fx.fl30_5 ?_
   refine Z17 Fx.ty28 ?_
   refine LexK.on (q_index _ rfl Fx.sl28 rfl rfl (by omega) (idx_ex (show 1 < c.args.length by omega))) rfl rfl rfl rfl rfl ?_
   refine LexK.on (q_fieldP _ rfl Fx.fl30_3 rfl rfl) rfl rfl rfl rfl rfl ?_
   refine Z36 (.a _) Fx.ty3 ?_
   refine Z27 ?_
   refine LexK.on (q_eql rfl rfl rfl) rfl rfl rfl rfl rfl ?_
   refine Z40 ?_
   refine LexK.qD (q_mvC rfl rfl) rfl rfl rfl (fun g56 => ?_) (fun g56 => ?_)
   ·
    refine Z20 Fx.fl30_5 ?_
    refine Z17 Fx.ty28 ?_
    refine LexK.on (q_index _ rfl Fx.sl28 rfl rfl (by omega) (idx_ex (show 0 < c.args.length by omega))) rfl rfl rfl rfl rfl ?_
    refine Z36 (.g [_, _, _, _, _, _, _, _]) Fx.ty30 ?_
    refine Z53 (r := .g [_, _, _, _, _, _, _, _]) Fx.ty30 ?_
    refine LexK.on (q_call _ rfl Fx.fn12 rfl (expr_any _ _ ((okE_iff.1 ho).2 _ (List.getElem_mem (show 0 < c.args.length by omega)))) rfl) rfl rfl rfl rfl rfl ?_
    refine Z40 ?_
    refine Z34 ?_
    refine Z31 ?_
    exact ⟨_, Wk.keep 142 [(1, .c (iC v)), (3, .c (iC w)), (4, .lp 4 0), (6, .lp 6 0), (8, .c (bC false)), (9, .c (bC false)), (10, .c (bC (lB c v k))), (11, .c (bC (rB c v k)))] [(4, .box (zEx c)), (6, .box (zEx k))] (H) rfl ⟨rfl, rfl, rfl, rfl, rfl, rfl, rfl, bCe (by rw [rB_eq hq]; first | (rw [decide_eq_false (fun h => g47 h.1)]; rfl) | (rw [decide_eq_false (fun h => g56 h.2)]; rfl) | (rw [decide_eq_true (p := isVP c.args[1] v) ⟨g47, g56⟩, Bool.true_and])), trivial⟩ ⟨rfl, rfl, trivial⟩ (fun _ _ h => h) rfl, rfl⟩
   iterate 6 refine LexK.off rfl rfl rfl rfl rfl rfl ?_
   refine Z22 ?_
   refine Z34 ?_
   refine Z31 ?_
   exact ⟨_, Wk.keep 142 [(1, .c (iC v)), (3, .c (iC w)), (4, .lp 4 0), (6, .lp 6 0), (8, .c (bC false)), (9, .c (bC false)), (10, .c (bC (lB c v k))), (11, .c (bC (rB c v k)))] [(4, .box (zEx c)), (6, .box (zEx k))] (H) rfl ⟨rfl, rfl, rfl, rfl, rfl, rfl, rfl, bCe (by rw [rB_eq hq]; first | (rw [decide_eq_false (fun h => g47 h.1)]; rfl) | (rw [decide_eq_false (fun h => g56 h.2)]; rfl) | (rw [decide_eq_true (p := isVP c.args[1] v) ⟨g47, g56⟩, Bool.true_and])), trivial⟩ ⟨rfl, rfl, trivial⟩ (fun _ _ h => h) rfl, rfl⟩
  iterate 7 refine LexK.off rfl rfl rfl rfl rfl rfl ?_
  refine Z22 ?_
  refine Z16 ?_
  iterate 6 refine LexK.off rfl rfl rfl rfl rfl rfl ?_
  refine Z22 ?_
  refine Z34 ?_
  refine Z31 ?_
  exact ⟨_, Wk.keep 142 [(1, .c (iC v)), (3, .c (iC w)), (4, .lp 4 0), (6, .lp 6 0), (8, .c (bC false)), (9, .c (bC false)), (10, .c (bC (lB c v k))), (11, .c (bC (rB c v k)))] [(4, .box (zEx c)), (6, .box (zEx k))] (H) rfl ⟨rfl, rfl, rfl, rfl, rfl, rfl, rfl, bCe (by rw [rB_eq hq]; first | (rw [decide_eq_false (fun h => g47 h.1)]; rfl) | (rw [decide_eq_false (fun h => g56 h.2)]; rfl) | (rw [decide_eq_true (p := isVP c.args[1] v) ⟨g47, g56⟩, Bool.true_and])), trivial⟩ ⟨rfl, rfl, trivial⟩ (fun _ _ h => h) rfl, rfl⟩
 rintro s rfl
 generalize hL : lB c v k = L
 generalize hR : rB c v k = R
 refine AW.seq ?_
 refine sR ?_
 refine sM ?_
 refine Z4 ?_
 refine AW.block ?_
 refine sR ?_
 refine Z19 ?_
 refine sA ?_
 refine Z4 ?_
 refine AW.condD rfl (fun h65 => ?_) (fun h65 => ?_)
 ·
  refine sR ?_
  refine Z2 Fx.fl30_0 ?_
  refine Z0 Fx.ty3 ?_
  refine Z19 ?_
  refine Z21 (fun g70 => ?_) (fun g70 => ?_)
  ·
   refine Z14 ?_
   refine SeqK.onB (q_mvC rfl rfl) rfl rfl rfl rfl rfl (fun g72 => ?_) (fun g72 => ?_)
   ·
    refine Z44 ?_
    refine Z42 ?_
    refine Z5 ?_
    refine sA ?_
    refine sA ?_
    refine Z4 ?_
    refine AW.ret ?_
    exact fin_x (x := .tup [_, _]) (H) (.tmp rfl (.tmp rfl .nil)) rfl (fun _ _ h => h) (⟨bbE (by cases L <;> cases R <;> simp_all [okO, exO, gR1, gR2] <;> omega) (by cases L <;> cases R <;> simp_all [okO, exO, gR1, gR2] <;> omega), rfl⟩)
   refine Z14 ?_
   refine Z50 ?_
   refine Z5 ?_
   refine sA ?_
   refine sA ?_
   refine Z4 ?_
   refine AW.ret ?_
   exact fin_x (x := .tup [_, _]) (H) (.tmp rfl (.tmp rfl .nil)) rfl (fun _ _ h => h) (⟨bbE (by cases L <;> cases R <;> simp_all [okO, exO, gR1, gR2] <;> omega) (by cases L <;> cases R <;> simp_all [okO, exO, gR1, gR2] <;> omega), rfl⟩)
  iterate 2 refine SeqK.off rfl rfl rfl rfl rfl rfl ?_
  refine SeqK.offU rfl rfl rfl rfl rfl ?_
  refine Z44 ?_
  refine Z6 ?_
  refine sA ?_
  refine sA ?_
  refine Z4 ?_
  refine AW.ret ?_
  exact fin_x (x := .tup [_, _]) (H) (.tmp rfl (.tmp rfl .nil)) rfl (fun _ _ h => h) (⟨bbE (by cases L <;> cases R <;> simp_all [okO, exO, gR1, gR2] <;> omega) (by cases L <;> cases R <;> simp_all [okO, exO, gR1, gR2] <;> omega), rfl⟩)
 refine sR ?_
 refine Z19 ?_
 refine sA ?_
 refine Z4 ?_
 refine AW.condD rfl (fun h76 => ?_) (fun h76 => ?_)
 ·
  refine AW.seqM (fun s => s = ⟨142, sp [(1, .c (iC v)), (3, .c (iC w)), (4, .lp 4 0), (6, .lp 6 0), (8, .c (bC false)), (9, .c (bC false)), (10, .c (bC L)), (11, .c (bC R)), (12, .c (bC (exO c.op w L R)))], lv [(4, .box (zEx c)), (6, .box (zEx k))], H⟩) ?_ ?_
  ·
   refine AW.reg ?_
   refine Z2 Fx.fl30_0 ?_
   refine Z0 Fx.ty3 ?_
   refine Z19 ?_
   refine Z21 (fun g81 => ?_) (fun g81 => ?_)
   ·
    refine Z14 ?_
    refine Z5 ?_
    refine Z52 (fun g84 => ?_) (fun g84 => ?_)
    ·
     iterate 4 refine SeqK.off rfl rfl rfl rfl rfl rfl ?_
     refine SeqK.offU rfl rfl rfl rfl rfl ?_
     refine Z44 ?_
     refine Z5 ?_
     refine sA ?_
     refine Z4 ?_
     exact ⟨_, Wk.keep 142 [(1, .c (iC v)), (3, .c (iC w)), (4, .lp 4 0), (6, .lp 6 0), (8, .c (bC false)), (9, .c (bC false)), (10, .c (bC L)), (11, .c (bC R)), (12, .c (bC (exO c.op w L R)))] [(4, .box (zEx c)), (6, .box (zEx k))] (H) rfl ⟨rfl, rfl, rfl, rfl, rfl, rfl, rfl, rfl, bCe (by cases L <;> cases R <;> simp_all [okO, exO, gR1, gR2] <;> omega), trivial⟩ ⟨rfl, rfl, trivial⟩ (fun _ _ h => h) rfl, rfl⟩
    refine Z7 Fx.fl30_0 ?_
    refine Z3 Fx.ty3 ?_
    refine Z37 ?_
    refine SeqK.onD (q_mvC rfl rfl) rfl rfl rfl rfl rfl (fun g88 => ?_) (fun g88 => ?_)
    ·
     refine Z14 ?_
     refine Z42 ?_
     refine Z6 ?_
     refine sA ?_
     refine Z4 ?_
     exact ⟨_, Wk.keep 142 [(1, .c (iC v)), (3, .c (iC w)), (4, .lp 4 0), (6, .lp 6 0), (8, .c (bC false)), (9, .c (bC false)), (10, .c (bC L)), (11, .c (bC R)), (12, .c (bC (exO c.op w L R)))] [(4, .box (zEx c)), (6, .box (zEx k))] (H) rfl ⟨rfl, rfl, rfl, rfl, rfl, rfl, rfl, rfl, bCe (by cases L <;> cases R <;> simp_all [okO, exO, gR1, gR2] <;> omega), trivial⟩ ⟨rfl, rfl, trivial⟩ (fun _ _ h => h) rfl, rfl⟩
    refine Z44 ?_
    refine Z50 ?_
    refine Z6 ?_
    refine sA ?_
    refine Z4 ?_
    exact ⟨_, Wk.keep 142 [(1, .c (iC v)), (3, .c (iC w)), (4, .lp 4 0), (6, .lp 6 0), (8, .c (bC false)), (9, .c (bC false)), (10, .c (bC L)), (11, .c (bC R)), (12, .c (bC (exO c.op w L R)))] [(4, .box (zEx c)), (6, .box (zEx k))] (H) rfl ⟨rfl, rfl, rfl, rfl, rfl, rfl, rfl, rfl, bCe (by cases L <;> cases R <;> simp_all [okO, exO, gR1, gR2] <;> omega), trivial⟩ ⟨rfl, rfl, trivial⟩ (fun _ _ h => h) rfl, rfl⟩
   refine Z44 ?_
   refine Z6 ?_
   refine sM ?_
   refine Z7 Fx.fl30_0 ?_
   refine Z3 Fx.ty3 ?_
   refine Z37 ?_
   refine SeqK.onD (q_mvC rfl rfl) rfl rfl rfl rfl rfl (fun g88 => ?_) (fun g88 => ?_)
   ·
    refine Z14 ?_
    refine Z42 ?_
    refine Z6 ?_
    refine sA ?_
    refine Z4 ?_
    exact ⟨_, Wk.keep 142 [(1, .c (iC v)), (3, .c (iC w)), (4, .lp 4 0), (6, .lp 6 0), (8, .c (bC false)), (9, .c (bC false)), (10, .c (bC L)), (11, .c (bC R)), (12, .c (bC (exO c.op w L R)))] [(4, .box (zEx c)), (6, .box (zEx k))] (H) rfl ⟨rfl, rfl, rfl, rfl, rfl, rfl, rfl, rfl, bCe (by cases L <;> cases R <;> simp_all [okO, exO, gR1, gR2] <;> omega), trivial⟩ ⟨rfl, rfl, trivial⟩ (fun _ _ h => h) rfl, rfl⟩
   refine Z44 ?_
   refine Z50 ?_
   refine Z6 ?_
   refine sA ?_
   refine Z4 ?_
   exact ⟨_, Wk.keep 142 [(1, .c (iC v)), (3, .c (iC w)), (4, .lp 4 0), (6, .lp 6 0), (8, .c (bC false)), (9, .c (bC false)), (10, .c (bC L)), (11, .c (bC R)), (12, .c (bC (exO c.op w L R)))] [(4, .box (zEx c)), (6, .box (zEx k))] (H) rfl ⟨rfl, rfl, rfl, rfl, rfl, rfl, rfl, rfl, bCe (by cases L <;> cases R <;> simp_all [okO, exO, gR1, gR2] <;> omega), trivial⟩ ⟨rfl, rfl, trivial⟩ (fun _ _ h => h) rfl, rfl⟩
  rintro s rfl
  refine sR ?_
  refine sM ?_
  refine Z52 (fun g93 => ?_) (fun g93 => ?_)
  ·
   iterate 4 refine SeqK.off rfl rfl rfl rfl rfl rfl ?_
   refine SeqK.offU rfl rfl rfl rfl rfl ?_
   refine Z44 ?_
   refine Z5 ?_
   refine sM ?_
   iterate 4 refine SeqK.off rfl rfl rfl rfl rfl rfl ?_
   refine SeqK.offU rfl rfl rfl rfl rfl ?_
   refine Z44 ?_
   refine Z5 ?_
   refine sM ?_
   refine sA ?_
   refine sA ?_
   refine Z4 ?_
   refine AW.ret ?_
   exact fin_x (x := .tup [_, _]) (H) (.tmp rfl (.tmp rfl .nil)) rfl (fun _ _ h => h) (⟨bbE (by cases L <;> cases R <;> simp_all [okO, exO, gR1, gR2] <;> omega) (by cases L <;> cases R <;> simp_all [okO, exO, gR1, gR2] <;> omega), rfl⟩)
  refine Z7 Fx.fl30_0 ?_
  refine Z3 Fx.ty3 ?_
  refine Z37 ?_
  refine SeqK.onD (q_mvC rfl rfl) rfl rfl rfl rfl rfl (fun g97 => ?_) (fun g97 => ?_)
  ·
   refine Z14 ?_
   refine Z42 ?_
   refine Z6 ?_
   refine Z52 (fun g101 => ?_) (fun g101 => ?_)
   ·
    iterate 4 refine SeqK.off rfl rfl rfl rfl rfl rfl ?_
    refine SeqK.offU rfl rfl rfl rfl rfl ?_
    refine Z44 ?_
    refine Z5 ?_
    refine sM ?_
    refine sA ?_
    refine sA ?_
    refine Z4 ?_
    refine AW.ret ?_
    exact fin_x (x := .tup [_, _]) (H) (.tmp rfl (.tmp rfl .nil)) rfl (fun _ _ h => h) (⟨bbE (by cases L <;> cases R <;> simp_all [okO, exO, gR1, gR2] <;> omega) (by cases L <;> cases R <;> simp_all [okO, exO, gR1, gR2] <;> omega), rfl⟩)
   refine Z7 Fx.fl30_0 ?_
   refine Z3 Fx.ty3 ?_
   refine Z37 ?_
   refine SeqK.onD (q_mvC rfl rfl) rfl rfl rfl rfl rfl (fun g105 => ?_) (fun g105 => ?_)
   ·
    refine Z14 ?_
    refine Z42 ?_
    refine Z6 ?_
    refine sM ?_
    refine sA ?_
    refine sA ?_
    refine Z4 ?_
    refine AW.ret ?_
    exact fin_x (x := .tup [_, _]) (H) (.tmp rfl (.tmp rfl .nil)) rfl (fun _ _ h => h) (⟨bbE (by cases L <;> cases R <;> simp_all [okO, exO, gR1, gR2] <;> omega) (by cases L <;> cases R <;> simp_all [okO, exO, gR1, gR2] <;> omega), rfl⟩)
   refine Z44 ?_
   refine Z50 ?_
   refine Z6 ?_
   refine sM ?_
   refine sA ?_
   refine sA ?_
   refine Z4 ?_
   refine AW.ret ?_
   exact fin_x (x := .tup [_, _]) (H) (.tmp rfl (.tmp rfl .nil)) rfl (fun _ _ h => h) (⟨bbE (by cases L <;> cases R <;> simp_all [okO, exO, gR1, gR2] <;> omega) (by cases L <;> cases R <;> simp_all [okO, exO, gR1, gR2] <;> omega), rfl⟩)
  refine Z44 ?_
  refine Z50 ?_
  refine Z6 ?_
  refine sM ?_
  refine Z7 Fx.fl30_0 ?_
  refine Z3 Fx.ty3 ?_
  refine Z37 ?_
  refine SeqK.onD (q_mvC rfl rfl) rfl rfl rfl rfl rfl (fun g105 => ?_) (fun g105 => ?_)
  ·
   refine Z14 ?_
   refine Z42 ?_
   refine Z6 ?_
   refine sM ?_
   refine sA ?_
   refine sA ?_
   refine Z4 ?_
   refine AW.ret ?_
   exact fin_x (x := .tup [_, _]) (H) (.tmp rfl (.tmp rfl .nil)) rfl (fun _ _ h => h) (⟨bbE (by cases L <;> cases R <;> simp_all [okO, exO, gR1, gR2] <;> omega) (by cases L <;> cases R <;> simp_all [okO, exO, gR1, gR2] <;> omega), rfl⟩)
  refine Z44 ?_
  refine Z50 ?_
  refine Z6 ?_
  refine sM ?_
  refine sA ?_
  refine sA ?_
  refine Z4 ?_
  refine AW.ret ?_
  exact fin_x (x := .tup [_, _]) (H) (.tmp rfl (.tmp rfl .nil)) rfl (fun _ _ h => h) (⟨bbE (by cases L <;> cases R <;> simp_all [okO, exO, gR1, gR2] <;> omega) (by cases L <;> cases R <;> simp_all [okO, exO, gR1, gR2] <;> omega), rfl⟩)
 refine AW.skip ?_
 refine AW.seqM (fun s => s = ⟨142, sp [(1, .c (iC v)), (3, .c (iC w)), (4, .lp 4 0), (6, .lp 6 0), (8, .c (bC false)), (9, .c (bC false)), (10, .c (bC L)), (11, .c (bC R)), (13, .c (bC (exO c.op w L R)))], lv [(4, .box (zEx c)), (6, .box (zEx k))], H⟩) ?_ ?_
 ·
  refine AW.reg ?_
  refine Z2 Fx.fl30_0 ?_
  refine Z0 Fx.ty3 ?_
  refine Z19 ?_
  refine Z21 (fun g113 => ?_) (fun g113 => ?_)
  ·
   refine Z14 ?_
   refine Z5 ?_
   refine Z52 (fun g116 => ?_) (fun g116 => ?_)
   ·
    iterate 4 refine SeqK.off rfl rfl rfl rfl rfl rfl ?_
    refine SeqK.offU rfl rfl rfl rfl rfl ?_
    refine Z44 ?_
    refine Z5 ?_
    refine sA ?_
    refine Z4 ?_
    exact ⟨_, Wk.keep 142 [(1, .c (iC v)), (3, .c (iC w)), (4, .lp 4 0), (6, .lp 6 0), (8, .c (bC false)), (9, .c (bC false)), (10, .c (bC L)), (11, .c (bC R)), (13, .c (bC (exO c.op w L R)))] [(4, .box (zEx c)), (6, .box (zEx k))] (H) rfl ⟨rfl, rfl, rfl, rfl, rfl, rfl, rfl, rfl, bCe (by cases L <;> cases R <;> simp_all [okO, exO, gR1, gR2] <;> omega), trivial⟩ ⟨rfl, rfl, trivial⟩ (fun _ _ h => h) rfl, rfl⟩
   refine Z7 Fx.fl30_0 ?_
   refine Z3 Fx.ty3 ?_
   refine Z37 ?_
   refine SeqK.onD (q_mvC rfl rfl) rfl rfl rfl rfl rfl (fun g120 => ?_) (fun g120 => ?_)
   ·
    refine Z14 ?_
    refine Z42 ?_
    refine Z6 ?_
    refine sA ?_
    refine Z4 ?_
    exact ⟨_, Wk.keep 142 [(1, .c (iC v)), (3, .c (iC w)), (4, .lp 4 0), (6, .lp 6 0), (8, .c (bC false)), (9, .c (bC false)), (10, .c (bC L)), (11, .c (bC R)), (13, .c (bC (exO c.op w L R)))] [(4, .box (zEx c)), (6, .box (zEx k))] (H) rfl ⟨rfl, rfl, rfl, rfl, rfl, rfl, rfl, rfl, bCe (by cases L <;> cases R <;> simp_all [okO, exO, gR1, gR2] <;> omega), trivial⟩ ⟨rfl, rfl, trivial⟩ (fun _ _ h => h) rfl, rfl⟩
   refine Z44 ?_
   refine Z50 ?_
   refine Z6 ?_
   refine sA ?_
   refine Z4 ?_
   exact ⟨_, Wk.keep 142 [(1, .c (iC v)), (3, .c (iC w)), (4, .lp 4 0), (6, .lp 6 0), (8, .c (bC false)), (9, .c (bC false)), (10, .c (bC L)), (11, .c (bC R)), (13, .c (bC (exO c.op w L R)))] [(4, .box (zEx c)), (6, .box (zEx k))] (H) rfl ⟨rfl, rfl, rfl, rfl, rfl, rfl, rfl, rfl, bCe (by cases L <;> cases R <;> simp_all [okO, exO, gR1, gR2] <;> omega), trivial⟩ ⟨rfl, rfl, trivial⟩ (fun _ _ h => h) rfl, rfl⟩
  refine Z44 ?_
  refine Z6 ?_
  refine sM ?_
  refine Z7 Fx.fl30_0 ?_
  refine Z3 Fx.ty3 ?_
  refine Z37 ?_
  refine SeqK.onD (q_mvC rfl rfl) rfl rfl rfl rfl rfl (fun g120 => ?_) (fun g120 => ?_)
  ·
   refine Z14 ?_
   refine Z42 ?_
   refine Z6 ?_
   refine sA ?_
   refine Z4 ?_
   exact ⟨_, Wk.keep 142 [(1, .c (iC v)), (3, .c (iC w)), (4, .lp 4 0), (6, .lp 6 0), (8, .c (bC false)), (9, .c (bC false)), (10, .c (bC L)), (11, .c (bC R)), (13, .c (bC (exO c.op w L R)))] [(4, .box (zEx c)), (6, .box (zEx k))] (H) rfl ⟨rfl, rfl, rfl, rfl, rfl, rfl, rfl, rfl, bCe (by cases L <;> cases R <;> simp_all [okO, exO, gR1, gR2] <;> omega), trivial⟩ ⟨rfl, rfl, trivial⟩ (fun _ _ h => h) rfl, rfl⟩
  refine Z44 ?_
  refine Z50 ?_
  refine Z6 ?_
  refine sA ?_
  refine Z4 ?_
  exact ⟨_, Wk.keep 142 [(1, .c (iC v)), (3, .c (iC w)), (4, .lp 4 0), (6, .lp 6 0), (8, .c (bC false)), (9, .c (bC false)), (10, .c (bC L)), (11, .c (bC R)), (13, .c (bC (exO c.op w L R)))] [(4, .box (zEx c)), (6, .box (zEx k))] (H) rfl ⟨rfl, rfl, rfl, rfl, rfl, rfl, rfl, rfl, bCe (by cases L <;> cases R <;> simp_all [okO, exO, gR1, gR2] <;> omega), trivial⟩ ⟨rfl, rfl, trivial⟩ (fun _ _ h => h) rfl, rfl⟩
 rintro s rfl
 refine sR ?_
 refine sM ?_
 refine Z52 (fun g125 => ?_) (fun g125 => ?_)
 ·
  iterate 4 refine SeqK.off rfl rfl rfl rfl rfl rfl ?_
  refine SeqK.offU rfl rfl rfl rfl rfl ?_
  refine Z44 ?_
  refine Z5 ?_
  refine sM ?_
  iterate 4 refine SeqK.off rfl rfl rfl rfl rfl rfl ?_
  refine SeqK.offU rfl rfl rfl rfl rfl ?_
  refine Z44 ?_
  refine Z5 ?_
  refine sM ?_
  refine sA ?_
  refine sA ?_
  refine Z4 ?_
  refine AW.ret ?_
  exact fin_x (x := .tup [_, _]) (H) (.tmp rfl (.tmp rfl .nil)) rfl (fun _ _ h => h) (⟨bbE (by cases L <;> cases R <;> simp_all [okO, exO, gR1, gR2] <;> omega) (by cases L <;> cases R <;> simp_all [okO, exO, gR1, gR2] <;> omega), rfl⟩)
 refine Z7 Fx.fl30_0 ?_
 refine Z3 Fx.ty3 ?_
 refine Z37 ?_
 refine SeqK.onD (q_mvC rfl rfl) rfl rfl rfl rfl rfl (fun g129 => ?_) (fun g129 => ?_)
 ·
  refine Z14 ?_
  refine Z42 ?_
  refine Z6 ?_
  refine Z52 (fun g133 => ?_) (fun g133 => ?_)
  ·
   iterate 4 refine SeqK.off rfl rfl rfl rfl rfl rfl ?_
   refine SeqK.offU rfl rfl rfl rfl rfl ?_
   refine Z44 ?_
   refine Z5 ?_
   refine sM ?_
   refine sA ?_
   refine sA ?_
   refine Z4 ?_
   refine AW.ret ?_
   exact fin_x (x := .tup [_, _]) (H) (.tmp rfl (.tmp rfl .nil)) rfl (fun _ _ h => h) (⟨bbE (by cases L <;> cases R <;> simp_all [okO, exO, gR1, gR2] <;> omega) (by cases L <;> cases R <;> simp_all [okO, exO, gR1, gR2] <;> omega), rfl⟩)
  refine Z7 Fx.fl30_0 ?_
  refine Z3 Fx.ty3 ?_
  refine Z37 ?_
  refine SeqK.onD (q_mvC rfl rfl) rfl rfl rfl rfl rfl (fun g137 => ?_) (fun g137 => ?_)
  ·
   refine Z14 ?_
   refine Z42 ?_
   refine Z6 ?_
   refine sM ?_
   refine sA ?_
   refine sA ?_
   refine Z4 ?_
   refine AW.ret ?_
   exact fin_x (x := .tup [_, _]) (H) (.tmp rfl (.tmp rfl .nil)) rfl (fun _ _ h => h) (⟨bbE (by cases L <;> cases R <;> simp_all [okO, exO, gR1, gR2] <;> omega) (by cases L <;> cases R <;> simp_all [okO, exO, gR1, gR2] <;> omega), rfl⟩)
  refine Z44 ?_
  refine Z50 ?_
  refine Z6 ?_
  refine sM ?_
  refine sA ?_
  refine sA ?_
  refine Z4 ?_
  refine AW.ret ?_
  exact fin_x (x := .tup [_, _]) (H) (.tmp rfl (.tmp rfl .nil)) rfl (fun _ _ h => h) (⟨bbE (by cases L <;> cases R <;> simp_all [okO, exO, gR1, gR2] <;> omega) (by cases L <;> cases R <;> simp_all [okO, exO, gR1, gR2] <;> omega), rfl⟩)
 refine Z44 ?_
 refine Z50 ?_
 refine Z6 ?_
 refine sM ?_
 refine Z7 Fx.fl30_0 ?_
 refine Z3 Fx.ty3 ?_
 refine Z37 ?_
 refine SeqK.onD (q_mvC rfl rfl) rfl rfl rfl rfl rfl (fun g137 => ?_) (fun g137 => ?_)
 ·
  refine Z14 ?_
  refine Z42 ?_
  refine Z6 ?_
  refine sM ?_
  refine sA ?_
  refine sA ?_
  refine Z4 ?_
  refine AW.ret ?_
  exact fin_x (x := .tup [_, _]) (H) (.tmp rfl (.tmp rfl .nil)) rfl (fun _ _ h => h) (⟨bbE (by cases L <;> cases R <;> simp_all [okO, exO, gR1, gR2] <;> omega) (by cases L <;> cases R <;> simp_all [okO, exO, gR1, gR2] <;> omega), rfl⟩)
 refine Z44 ?_
 refine Z50 ?_
 refine Z6 ?_
 refine sM ?_
 refine sA ?_
 refine sA ?_
 refine Z4 ?_
 refine AW.ret ?_
 exact fin_x (x := .tup [_, _]) (H) (.tmp rfl (.tmp rfl .nil)) rfl (fun _ _ h => h) (⟨bbE (by cases L <;> cases R <;> simp_all [okO, exO, gR1, gR2] <;> omega) (by cases L <;> cases R <;> simp_all [okO, exO, gR1, gR2] <;> omega), rfl⟩)

end Go.Proofs.YtihlgigaejhilaaGreat.W
namespace Go.Proofs.YtihlgigaejhilaaGreat.W
open Go.RowKit E
/-! fits; what a plan uses, plain: the reference's list of uses, and the program's -/

set_option maxHeartbeats 8000000 in
set_option maxRecDepth 20000 in
theorem fits_any (c : Ex) (u : Us) (ho : okE c) : Pure Tryz.prog 32 [exC c, usrC u] (.tup [bC (fit1 c u), bC (fit2 c u)]) := by
 intro H
 refine Spec.enter Tryz.func32 rfl ?_
 refine AW.wk (Wk.keep 33 [(0, .c (exC c)), (1, .c (usrC u))] [] (H) rfl ⟨rfl, rfl, trivial⟩ trivial (fun _ _ h => h) rfl) ?_
 refine sR ?_
 refine Z18 (r := [_, _, _, _, _, _, _, _]) ?_
 refine Z18 (r := [_, _, _, _, _, _, _, _, _, _, _]) ?_
 refine sA ?_
 refine sA ?_
 refine Z4 ?_
 refine AW.seq ?_
 refine sR ?_
 refine Z2 Fx.fl95_0 ?_
 refine Z0 Fx.ty4 ?_
 refine Z4 ?_
 refine AW.cond _ rfl (fun h10 => ?_) (fun h10 => ?_)
 ·
  refine sR ?_
  refine Z13 (r := .g [_, _, _, _, _, _, _, _]) Fx.ty30 ?_
  refine Z2 Fx.fl95_3 ?_
  refine Z13 (r := .g [_, _, _, _, _, _, _, _]) Fx.ty30 ?_
  refine Z35 Fx.fn12 (expr_any c u.ex ho) ?_
  refine sA ?_
  refine Z4 ?_
  refine sR ?_
  refine sM ?_
  refine sM ?_
  refine sA ?_
  refine sA ?_
  refine Z4 ?_
  refine AW.ret ?_
  exact fin_x (x := .tup [_, _]) (H) (.tmp rfl (.tmp rfl .nil)) rfl (fun _ _ h => h) (⟨bbE (by simp [fit1, h10]) (by simp [fit2, h10]), rfl⟩)
 refine AW.skip ?_
 refine sR ?_
 refine Z13 (r := .g [_, _, _, _, _, _, _, _]) Fx.ty30 ?_
 refine Z2 Fx.fl95_2 ?_
 refine Z0 Fx.ty3 ?_
 refine Z2 Fx.fl95_3 ?_
 refine Z13 (r := .g [_, _, _, _, _, _, _, _]) Fx.ty30 ?_
 refine Z2 Fx.fl95_1 ?_
 refine Z0 Fx.ty3 ?_
 refine Z35 Fx.fn68 (rgives_any c u.var u.ex u.what ho) ?_
 refine SeqK.q (q_mvT rfl rfl) rfl rfl rfl ?_
 refine Z46 ?_
 refine Z46 ?_
 refine sA ?_
 refine sA ?_
 refine Z4 ?_
 refine sR ?_
 refine sM ?_
 refine sM ?_
 refine Z52 (fun g30 => ?_) (fun g30 => ?_)
 ·
  refine Z14 ?_
  refine Z5 ?_
  refine sA ?_
  refine sA ?_
  refine Z4 ?_
  refine AW.ret ?_
  exact fin_x (x := .tup [_, _]) (H) (.tmp rfl (.tmp rfl .nil)) rfl (fun _ _ h => h) (⟨bbE (by simp [fit1, h10]) (by simp only [fit2, h10]; rw [g30]; simp), rfl⟩)
 refine Z44 ?_
 refine Z6 ?_
 refine sA ?_
 refine sA ?_
 refine Z4 ?_
 refine AW.ret ?_
 exact fin_x (x := .tup [_, _]) (H) (.tmp rfl (.tmp rfl .nil)) rfl (fun _ _ h => h) (⟨bbE (by simp [fit1, h10]) (by simp only [fit2, h10]; rw [g30]; simp), rfl⟩)

abbrev wK (p : Pl) (i : Nat) : Int := if p.k = 2 then 0 else 1 + (i : Int)
def ownK (d0 : List Tb) (b : Bd) (p : Pl) : List Ex → Nat → List Us
  | [], _ => []
  | k :: r, i => (if k.op = 0 then [] else [⟨false, wK p i, varK d0 b p i, k⟩]) ++ ownK d0 b p r (i + 1)
mutual
def rus (d0 : List Tb) (b : Bd) : Pl → List Us
  | .mk k src cols keys flt xs => ((cnj flt).map fun e => (⟨true, 0, 0, e⟩ : Us)) ++ ownK d0 b (.mk k src cols keys flt xs) keys 0 ++ russ d0 b xs
def russ (d0 : List Tb) (b : Bd) : List Pl → List Us
  | [] => []
  | p :: r => rus d0 b p ++ russ d0 b r
end
theorem russ_flat {d0 : List Tb} {b : Bd} : ∀ {l : List Pl}, russ d0 b l = l.flatMap (rus d0 b)
  | [] => by rw [russ]; rfl
  | p :: r => by rw [russ, russ_flat, List.flatMap_cons]
theorem rus_eq {d0 : List Tb} {b : Bd} (p : Pl) : rus d0 b p = ((cnj p.flt).map fun e => (⟨true, 0, 0, e⟩ : Us)) ++ ownK d0 b p p.keys 0 ++ p.args.flatMap (rus d0 b) := by
  cases p; rw [rus, russ_flat]
theorem hit_iff {gv ge : Ex → Bool} : ∀ (l : List Ex) (n : Nat) (x : Int), (x, true) ∈ hitF gv ge l n ↔ ∃ (i : Nat) (h : i < l.length), x = ((n + i : Nat) : Int) ∧ gv l[i] = true ∧ ge l[i] = true
  | [], n, x => by simp [hitF]
  | e :: r, n, x => by
    rw [hitF, List.mem_append, hit_iff r (n + 1) x]
    constructor
    · rintro (h | ⟨i, h, h1, h2⟩)
      · split at h
        · rename_i hg
          rw [List.mem_singleton] at h
          injection h with h1 h2
          exact ⟨0, by simp, by rw [h1]; rfl, hg, h2.symm⟩
        · cases h
      · exact ⟨i + 1, by simpa using h, by rw [h1]; congr 1; omega, h2⟩
    · rintro ⟨i, h, h1, h2, h3⟩
      cases i with
      | zero =>
        left
        rw [if_pos (show gv e = true from h2), List.mem_singleton, h1]
        have : ge e = true := h3
        rw [this]; rfl
      | succ i => exact .inr ⟨i, by simpa using h, by rw [h1]; congr 1; omega, h2, h3⟩
theorem hit0 {gv ge : Ex → Bool} {l : List Ex} {i : Nat} (h : i < l.length) : ((i : Int), true) ∈ hitF gv ge l 0 ↔ gv l[i] = true ∧ ge l[i] = true := by
  rw [hit_iff]
  constructor
  · rintro ⟨j, hj, h1, h2⟩
    obtain rfl : i = j := by omega
    exact h2
  · intro h2; exact ⟨i, h, by simp, h2⟩
/-- a list of obligations met, and which conjuncts they cover -/
abbrev metU (cj : List Ex) (out us : List (Int × Bool)) (l : List Us) : Prop := (∀ u ∈ l, cj.any (fit1 · u) = true) ∧ ∀ (i : Nat) (h : i < cj.length), (((i : Int), true) ∈ us ↔ ((i : Int), true) ∈ out ∨ ∃ u ∈ l, fit2 cj[i] u = true)
abbrev notU (cj : List Ex) (l : List Us) : Prop := ∃ u ∈ l, cj.any (fit1 · u) = false
theorem addC_iff {cj : List Ex} : ∀ (fs : List Ex) (out : List (Int × Bool)), match addC cj fs out with
    | some us => metU cj out us (fs.map fun e => (⟨true, 0, 0, e⟩ : Us))
    | none => notU cj (fs.map fun e => (⟨true, 0, 0, e⟩ : Us))
  | [], out => by rw [addC]; simp [metU]
  | f :: r, out => by
    rw [addC]
    have e1 : ∀ c, fit1 c ⟨true, 0, 0, f⟩ = decide (c = f) := fun c => by simp [fit1]
    have e2 : ∀ c, fit2 c ⟨true, 0, 0, f⟩ = decide (c = f) := fun c => by simp [fit2]
    by_cases h : (cj.any fun e => decide (e = f)) = true
    · rw [if_pos h]
      have ih := addC_iff (cj := cj) r (out ++ hitF (fun e => decide (e = f)) (fun _ => true) cj 0)
      split
      · rename_i us hu
        rw [hu] at ih
        refine ⟨fun u hm => ?_, fun i hi => ?_⟩
        · rw [List.map_cons] at hm
          rcases List.mem_cons.1 hm with rfl | hm
          · have e3 : (fun c => fit1 c ⟨true, 0, 0, f⟩) = fun e => decide (e = f) := funext e1
            rw [e3]; exact h
          · exact ih.1 u hm
        · rw [ih.2 i hi, List.mem_append, hit0 hi, List.map_cons, or_assoc]
          simp [e2]
      · rename_i hu
        rw [hu] at ih
        obtain ⟨u, hm, h2⟩ := ih
        exact ⟨u, by rw [List.map_cons]; simp [hm], h2⟩
    · rw [if_neg h]
      refine ⟨⟨true, 0, 0, f⟩, by simp, ?_⟩
      have : (fun c => fit1 c ⟨true, 0, 0, f⟩) = fun e => decide (e = f) := funext e1
      rw [this]; exact Bool.eq_false_iff.2 h

theorem key_fit1 {d0 : List Tb} {b : Bd} {p : Pl} {i : Nat} {k : Ex} (hk : p.k = 2 ∨ p.k = 3) (hi : p.k = 3 → i < 2) (c : Ex) : fit1 c ⟨false, wK p i, varK d0 b p i, k⟩ = gvK d0 b p i k c := by
  rw [fit1, if_neg (by simp), gvK, gvB]
  by_cases h : c.args.length = 2
  · rw [dif_pos h]
    show (decide (c.args.length = 2) && okO c.op (wK p i) (lB c _ k) (rB c _ k)) = _
    rw [decide_eq_true h, Bool.true_and, lB_eq h, rB_eq h]
    by_cases h2 : p.k = 2
    · simp only [okO, wK, ltK, rtK, if_pos h2, if_true, Bool.and_or_distrib_left]
    · have h3 : p.k = 3 := hk.resolve_left h2
      have h4 := hi h3
      by_cases h0 : i = 0
      · subst h0; simp only [okO, wK, ltK, rtK, if_neg h2]; simp
      · obtain rfl : i = 1 := by omega
        simp only [okO, wK, ltK, rtK, if_neg h2]; simp
  · rw [dif_neg h]; simp [gR1, h]
theorem key_fit2 {d0 : List Tb} {b : Bd} {p : Pl} {i : Nat} {k : Ex} (hk : p.k = 2 ∨ p.k = 3) (hi : p.k = 3 → i < 2) (c : Ex) : fit2 c ⟨false, wK p i, varK d0 b p i, k⟩ = (gvK d0 b p i k c && geK p c) := by
  rw [← key_fit1 hk hi, fit2, if_neg (by simp), fit1, if_neg (by simp)]
  by_cases h : c.args.length = 2
  · show (gR1 c _ k _ && (decide (c.args.length = 2) && exO c.op (wK p i) (lB c _ k) (rB c _ k))) = _
    show ((decide (c.args.length = 2) && okO c.op (wK p i) (lB c _ k) (rB c _ k)) && _) = ((decide (c.args.length = 2) && okO c.op (wK p i) (lB c _ k) (rB c _ k)) && _)
    rw [decide_eq_true h, Bool.true_and, Bool.true_and]
    generalize lB c _ k = L
    generalize rB c _ k = R
    by_cases h2 : p.k = 2
    · have h3 : ¬ p.k = 3 := by omega
      simp [okO, exO, wK, geK, h2]
    · have h3 : p.k = 3 := hk.resolve_left h2
      have h4 := hi h3
      have e : geK p c = decide (c.op = 15 ∨ c.op = 13) := by rw [geK, if_pos h3]
      rw [e]
      by_cases h0 : i = 0
      · subst h0
        have e1 : wK p 0 = 1 := by rw [wK, if_neg h2]; rfl
        rw [e1]
        cases L <;> cases R <;> simp [okO, exO] <;> grind
      · obtain rfl : i = 1 := by omega
        have e1 : wK p 1 = 2 := by rw [wK, if_neg h2]; rfl
        rw [e1]
        cases L <;> cases R <;> simp [okO, exO] <;> grind
  · simp [gR1, h]
theorem addK_iff {d0 : List Tb} {b : Bd} {cj : List Ex} {p : Pl} (hk : p.k = 2 ∨ p.k = 3) : ∀ (ks : List Ex) (i : Nat) (out : List (Int × Bool)), (p.k = 3 → i + ks.length ≤ 2) → match addK d0 b cj p ks i out with
    | some us => metU cj out us (ownK d0 b p ks i)
    | none => notU cj (ownK d0 b p ks i)
  | [], i, out, _ => by rw [addK]; simp [metU, ownK]
  | k :: r, i, out, hl => by
    rw [addK, ownK]
    have hl2 : p.k = 3 → i + 1 + r.length ≤ 2 := fun h => by have := hl h; rw [List.length_cons] at this; omega
    have hi : p.k = 3 → i < 2 := fun h => by have := hl h; rw [List.length_cons] at this; omega
    by_cases h0 : k.op = 0
    · rw [if_pos h0, if_pos h0, List.nil_append]
      exact addK_iff hk r (i + 1) out hl2
    · rw [if_neg h0, if_neg h0]
      by_cases h : cj.any (gvK d0 b p i k) = true
      · rw [if_pos h]
        have ih := addK_iff (d0 := d0) (b := b) (cj := cj) hk r (i + 1) (out ++ hitF (gvK d0 b p i k) (geK p) cj 0) hl2
        split
        · rename_i us hu
          rw [hu] at ih
          refine ⟨fun u hm => ?_, fun j hj => ?_⟩
          · rcases List.mem_cons.1 hm with rfl | hm
            · rw [← h]; congr 1; funext c; exact key_fit1 hk hi c
            · exact ih.1 u hm
          · rw [ih.2 j hj, List.mem_append, hit0 hj, or_assoc, ← Bool.and_eq_true, ← key_fit2 hk hi, List.singleton_append]
            simp only [List.mem_cons, exists_eq_or_imp]
        · rename_i hu
          rw [hu] at ih
          obtain ⟨u, hm, h2⟩ := ih
          exact ⟨u, List.mem_cons_of_mem _ hm, h2⟩
      · rw [if_neg h]
        refine ⟨⟨false, wK p i, varK d0 b p i, k⟩, by simp, ?_⟩
        have : (fun c => fit1 c ⟨false, wK p i, varK d0 b p i, k⟩) = gvK d0 b p i k := funext (key_fit1 hk hi)
        rw [this]; exact Bool.eq_false_iff.2 h

end Go.Proofs.YtihlgigaejhilaaGreat.W
namespace Go.Proofs.YtihlgigaejhilaaGreat.W
open Go.RowKit E
/-! the reference's valid plans are the program's -/
theorem metU_app {cj : List Ex} {o1 o2 o3 : List (Int × Bool)} {l1 l2 : List Us} (h : metU cj o1 o2 l1) (k : metU cj o2 o3 l2) : metU cj o1 o3 (l1 ++ l2) := by
  refine ⟨fun u hu => ?_, fun i hi => ?_⟩
  · rcases List.mem_append.1 hu with h1 | h1
    · exact h.1 u h1
    · exact k.1 u h1
  · rw [k.2 i hi, h.2 i hi, or_assoc]
    simp only [List.mem_append, or_and_right, exists_or]
theorem metU_mem {cj : List Ex} {o1 o2 : List (Int × Bool)} {l1 l2 : List Us} (e : ∀ u, u ∈ l1 ↔ u ∈ l2) (h : metU cj o1 o2 l1) : metU cj o1 o2 l2 :=
  ⟨fun u hu => h.1 u ((e u).2 hu), fun i hi => by rw [h.2 i hi]; simp only [e]⟩
theorem notU_mem {cj : List Ex} {l1 l2 : List Us} (e : ∀ u, u ∈ l1 → u ∈ l2) (h : notU cj l1) : notU cj l2 := h.elim fun u hu => ⟨u, e u hu.1, hu.2⟩
theorem sh_keys {d0 : List Tb} {b : Bd} {p : Pl} {l : List Int} (h : shB d0 b p l = true) : p.keys = [] ∨ ((p.k = 2 ∨ p.k = 3) ∧ (p.k = 3 → 0 + p.keys.length ≤ 2)) := by
  by_cases hl : lfK p
  · rw [shB_leaf hl] at h
    have h4 := (of_decide_eq_true h).2.2.2
    unfold lf4 at h4
    by_cases h1 : p.k = 1
    · rw [if_pos h1] at h4; exact .inl (List.length_eq_zero_iff.1 h4.2)
    · rw [if_neg h1] at h4
      refine .inr ⟨by omega, fun h3 => ?_⟩
      rw [if_neg (by omega)] at h4; omega
  · by_cases hn : npP p
    · exact .inl (List.length_eq_zero_iff.1 hn.2.2.2)
    · rw [shB_no hl hn] at h; cases h
abbrev usQ (d0 : List Tb) (b : Bd) (cj : List Ex) (p : Pl) : Prop := match usM d0 b cj p with
  | some us => metU cj [] us (rus d0 b p)
  | none => notU cj (rus d0 b p)
theorem usMs_iff {d0 : List Tb} {b : Bd} {cj : List Ex} : ∀ (xs : List Pl) (out : List (Int × Bool)), (∀ a ∈ xs, usQ d0 b cj a) → match usMs d0 b cj xs out with
    | some us => metU cj out us (xs.flatMap (rus d0 b))
    | none => notU cj (xs.flatMap (rus d0 b))
  | [], out, _ => by rw [usMs]; simp [metU]
  | a :: r, out, h => by
    rw [usMs]
    have ha := h a (by simp)
    unfold usQ at ha
    cases hu : usM d0 b cj a with
    | none =>
      rw [hu] at ha
      exact notU_mem (fun u hm => by rw [List.flatMap_cons]; exact List.mem_append_left _ hm) ha
    | some us =>
      rw [hu] at ha
      have ih := usMs_iff (d0 := d0) (b := b) (cj := cj) r (out ++ us) fun x hx => h x (by simp [hx])
      show match usMs d0 b cj r (out ++ us) with
        | some us => metU cj out us ((a :: r).flatMap (rus d0 b))
        | none => notU cj ((a :: r).flatMap (rus d0 b))
      rw [List.flatMap_cons]
      have h1 : metU cj out (out ++ us) (rus d0 b a) := ⟨ha.1, fun i hi => by rw [List.mem_append, ha.2 i hi]; simp⟩
      split
      · rename_i u2 hu2
        rw [hu2] at ih
        exact metU_app h1 ih
      · rename_i hu2
        rw [hu2] at ih
        exact notU_mem (fun u hm => List.mem_append_right _ hm) ih
theorem us_iff {d0 : List Tb} {b : Bd} {cj : List Ex} (p : Pl) : (∃ l, shB d0 b p l = true) → usQ d0 b cj p := by
  induction p using Pl.rec' with
  | h p ih =>
    rintro ⟨l, hl⟩
    unfold usQ
    rw [usM_eq, rus_eq]
    have h1 := usMs_iff (d0 := d0) (b := b) (cj := cj) p.args [] fun a ha => ih a ha (sh_arg hl ha)
    cases hu1 : usMs d0 b cj p.args [] with
    | none =>
      rw [hu1] at h1
      exact notU_mem (fun u hm => List.mem_append_right _ hm) h1
    | some o1 =>
      rw [hu1] at h1
      have h2 := addC_iff (cj := cj) (cnj p.flt) o1
      show match (addC cj (cnj p.flt) o1).bind fun o2 => addK d0 b cj p p.keys 0 o2 with
        | some us => metU cj [] us _
        | none => notU cj _
      cases hu2 : addC cj (cnj p.flt) o1 with
      | none =>
        rw [hu2] at h2
        exact notU_mem (fun u hm => List.mem_append_left _ (List.mem_append_left _ hm)) h2
      | some o2 =>
        rw [hu2] at h2
        show match addK d0 b cj p p.keys 0 o2 with
          | some us => metU cj [] us _
          | none => notU cj _
        rcases sh_keys hl with hk | ⟨hk, hi⟩
        · rw [hk, addK, ownK]
          refine metU_mem (fun u => ?_) (metU_app h1 h2)
          simp only [List.mem_append, List.not_mem_nil, or_false]; exact or_comm
        · have h3 := addK_iff (d0 := d0) (b := b) (cj := cj) hk p.keys 0 o2 hi
          split
          · rename_i us hu3
            rw [hu3] at h3
            refine metU_mem (fun u => ?_) (metU_app (metU_app h1 h2) h3)
            simp only [List.mem_append]
            rw [or_assoc, or_comm]
          · rename_i hu3
            rw [hu3] at h3
            exact notU_mem (fun u hm => List.mem_append_left _ (List.mem_append_right _ hm)) h3
/-- a valid plan, by the reference -/
abbrev rvP (d0 : List Tb) (b : Bd) (p : Pl) : Prop := shpP d0 b p ∧ (∀ j (h : j < (rus d0 b p).length), (cnj b.wh).any (fit1 · (rus d0 b p)[j]) = true) ∧ ∀ j (h : j < (cnj b.wh).length), (rus d0 b p).any (fit2 (cnj b.wh)[j]) = true
theorem rv_iff {d0 : List Tb} {b : Bd} {p : Pl} : rvP d0 b p ↔ pvP d0 b p := by
  constructor
  · rintro ⟨h1, h2, h3⟩
    refine ⟨h1, ?_⟩
    have hu := us_iff (d0 := d0) (b := b) (cj := cnj b.wh) p ⟨[], h1.1⟩
    unfold usQ at hu
    unfold uvB
    cases hq : usM d0 b (cnj b.wh) p with
    | none =>
      rw [hq] at hu
      obtain ⟨u, hm, h4⟩ := hu
      obtain ⟨j, hj, rfl⟩ := List.mem_iff_getElem.1 hm
      rw [h2 j hj] at h4; cases h4
    | some us =>
      rw [hq] at hu
      refine List.all_eq_true.2 fun j hj => ?_
      have hj := List.mem_range.1 hj
      obtain ⟨u, hm, h4⟩ := List.any_eq_true.1 (h3 j hj)
      exact List.any_eq_true.2 ⟨_, (hu.2 j hj).2 (.inr ⟨u, hm, h4⟩), by simp⟩
  · rintro ⟨h1, h2⟩
    have hu := us_iff (d0 := d0) (b := b) (cj := cnj b.wh) p ⟨[], h1.1⟩
    unfold usQ at hu
    unfold uvB at h2
    cases hq : usM d0 b (cnj b.wh) p with
    | none => rw [hq] at h2; cases h2
    | some us =>
      rw [hq] at hu h2
      refine ⟨h1, fun j hj => hu.1 _ (List.getElem_mem hj), fun j hj => ?_⟩
      have h3 := List.all_eq_true.1 h2 j (List.mem_range.2 hj)
      obtain ⟨u, hm, h4⟩ := List.any_eq_true.1 h3
      rw [Bool.and_eq_true] at h4
      have e : u = ((j : Int), true) := Prod.ext (of_decide_eq_true h4.1) h4.2
      rw [e] at hm
      rcases (hu.2 j hj).1 hm with h5 | ⟨v, hv, h5⟩
      · cases h5
      · exact List.any_eq_true.2 ⟨v, hv, h5⟩

end Go.Proofs.YtihlgigaejhilaaGreat.W
namespace Go.Proofs.YtihlgigaejhilaaGreat.W
open Go.RowKit E
/-! what a plan uses, by the reference, walked -/
theorem fi_flt {p : Pl} (h : filB p = true) : prB p.flt = true := by rw [filB_eq, Bool.and_eq_true] at h; exact h.1
theorem fi_arg {p a : Pl} (h : filB p = true) (ha : a ∈ p.args) : filB a = true := by rw [filB_eq, Bool.and_eq_true, List.all_eq_true] at h; exact h.2 a ha
abbrev F1 (e : Ex) : Us := ⟨true, 0, 0, e⟩
abbrev rusC (z : Nz) (l : List Us) : C := .a (.t (.sl z 11 (l.map usrT)))
theorem ownK_app {d0 : List Tb} {b : Bd} {p : Pl} : ∀ (x y : List Ex) (n : Nat), ownK d0 b p (x ++ y) n = ownK d0 b p x n ++ ownK d0 b p y (n + x.length)
  | [], y, n => by rw [ownK]; rfl
  | k :: r, y, n => by
    rw [List.cons_append, ownK, ownK_app r y (n + 1), ownK, List.append_assoc, List.length_cons]
    congr 3; omega
theorem ownK_take {d0 : List Tb} {b : Bd} {p : Pl} {l : List Ex} {i : Nat} (hi : i < l.length) : ownK d0 b p (l.take (i + 1)) 0 = ownK d0 b p (l.take i) 0 ++ if l[i].op = 0 then [] else [⟨false, wK p i, varK d0 b p i, l[i]⟩] := by
  rw [take_put hi, ownK_app, List.length_take, Nat.min_eq_left (by omega), Nat.zero_add, ownK, ownK, List.append_nil]
theorem ownK_le {d0 : List Tb} {b : Bd} {p : Pl} : ∀ (l : List Ex) (n : Nat), (ownK d0 b p l n).length ≤ l.length
  | [], _ => by rw [ownK]; simp
  | k :: r, n => by
    rw [ownK, List.length_append, List.length_cons]
    have := ownK_le (d0 := d0) (b := b) (p := p) r (n + 1)
    split <;> simp <;> omega
theorem rus_len {d0 : List Tb} {b : Bd} (p : Pl) : (rus d0 b p).length ≤ usN 1 p := by
  induction p using Pl.rec' with
  | h p ih =>
    rw [rus_eq, usN_eq, List.length_append, List.length_append, List.length_map]
    have h1 := ownK_le (d0 := d0) (b := b) (p := p) p.keys 0
    have key : ∀ l : List Pl, (∀ a ∈ l, (rus d0 b a).length ≤ usN 1 a) → (l.flatMap (rus d0 b)).length ≤ usNs 1 l := by
      intro l
      induction l with
      | nil => simp [usNs]
      | cons a r ih2 =>
        intro h
        have h2 := h a (by simp)
        have h3 := ih2 fun x hx => h x (by simp [hx])
        rw [List.flatMap_cons, List.length_append, usNs]; omega
    have h2 := key p.args ih
    omega
theorem offset_I (d0 : List Tb) (z : Nz) (b : Bd) (hb : okB d0 b) (v : Int) (hv : 0 ≤ v ∧ v < b.tabs.length) : Pure Tryz.prog 67 [scC z d0, bdC b, iC v] (.c (iC ((offM d0 (b.tabs.take v.toNat) : Nat) : Int))) := by
  have h := offset_any d0 z b v.toNat hb.hc hb.ht hb.hn (by omega)
  rwa [show ((v.toNat : Nat) : Int) = v by omega] at h
abbrev ownU (d0 : List Tb) (b : Bd) (p : Pl) : List Us := (cnj p.flt).map F1 ++ ownK d0 b p p.keys 0
theorem own_4 {d0 : List Tb} {b : Bd} {p : Pl} {l : List Int} (h : shB d0 b p l = true) (hk : p.k = 4) : ownU d0 b p = (cnj p.flt).map F1 := by
  rcases sh_keys h with h1 | ⟨h1, _⟩
  · rw [ownU, h1, ownK, List.append_nil]
  · omega
theorem own_lf {d0 : List Tb} {b : Bd} {p : Pl} {l : List Int} (h : lfP d0 b l p) : ownU d0 b p = ownK d0 b p p.keys 0 := by
  rw [ownU, h.1.2.2, cnj_0 rfl]; rfl
theorem few_keys {d : Nat} {p : Pl} (h : fewB d p = true) : p.keys.length ≤ 1000000 := by
  cases d with
  | zero => rw [fewB] at h; cases h
  | succ d =>
    rw [fewB_pos (by omega), Bool.and_eq_true] at h
    have := (of_decide_eq_true h.1).2.1; omega
theorem own_no {d0 : List Tb} {b : Bd} {p : Pl} {l : List Int} (h : shB d0 b p l = true) (hk : ¬ p.k = 4) (h2 : ¬ p.k = 2) (h3 : ¬ p.k = 3) : ownU d0 b p = [] := by
  rcases sh_keys h with h1 | ⟨h1, _⟩
  · by_cases hl : lfK p
    · rw [shB_leaf hl] at h
      rw [own_lf (of_decide_eq_true h), h1, ownK]
    · by_cases hn : npP p
      · by_cases h5 : p.args.length = 2
        · rw [shB_5 hn hk h5, Bool.and_eq_true] at h
          rw [ownU, of_decide_eq_true h.1, cnj_0 rfl, h1, ownK]; rfl
        · rw [shB_5n hn hk h5] at h; cases h
      · rw [shB_no hl hn] at h; cases h
  · omega

set_option maxHeartbeats 8000000 in
set_option maxRecDepth 20000 in
theorem ruses_of (d0 : List Tb) (z : Nz) (b : Bd) (hb : okB d0 b) (p : Pl) (ho : okP p) (hpr : prB p.flt = true) (hsh : ∃ l, shB d0 b p l = true) (hn : (rus d0 b p).length ≤ 100000000) (hcl : (cnj p.flt).length ≤ 1000000) (hkl : p.keys.length ≤ 1000000) (ih : ∀ a ∈ p.args, Pure Tryz.prog 31 [scC z d0, bdC b, plC a] (.c (rusC .un (rus d0 b a)))) : Pure Tryz.prog 31 [scC z d0, bdC b, plC p] (.c (rusC .un (rus d0 b p))) := by
 obtain ⟨⟨k1, k2, k3, kf, kk⟩, k5⟩ := okP_iff.1 ho
 obtain ⟨l, hl⟩ := hsh
 have hof := hb.off p.src.toNat
 intro H
 refine Spec.enter Tryz.func31 rfl ?_
 refine AW.wk (Wk.keep 115 [(0, .c (scC z d0)), (1, .c (bdC b)), (2, .c (plC p))] [] (H) rfl ⟨rfl, rfl, rfl, trivial⟩ trivial (fun _ _ h => h) rfl) ?_
 refine sR ?_
 refine Z18 (r := [_, _, _, _, _, _, _, _, _, _, _, _, _, _, _, _, _, _, _, _, _, _, _, _, _, _]) ?_
 refine Z18 (r := [_, _, _, _, _, _, _, _, _, _, _, _, _]) ?_
 refine sA ?_
 refine Z4 ?_
 refine sR ?_
 refine sA ?_
 refine Z4 ?_
 refine AW.seqM (fun s => ∃ (kt : Nat) (zs : List (List E.T)), (H kt = none ∧ zs = (ownU d0 b p).map usrT) ∧ s = ⟨115, sp [(0, .c (scC z d0)), (4, .lp 4 0), (5, .lp 5 0), (7, .c (.a (.ts kt .ne 11 zs)))], lv [(4, .box (zBd b)), (5, .box (zPl p))], upd H kt (some (.tip 95 11 zs.length))⟩) ?_ ?_
 ·
  refine AW.seq ?_
  refine AW.tip 7 95 11 rfl (fun k0 hk0 => ?_)
  refine AW.reg ?_
  refine Z2 Fx.fl35_0 ?_
  refine Z0 Fx.ty3 ?_
  refine Z4 ?_
  refine AW.block ?_
  refine sR ?_
  refine Z19 ?_
  refine sA ?_
  refine Z4 ?_
  refine AW.condD rfl (fun h15 => ?_) (fun h15 => ?_)
  ·
   refine sR ?_
   refine Z2 Fx.fl35_4 ?_
   refine Z13 (r := .g [_, _, _, _, _, _, _, _]) Fx.ty30 ?_
   refine Z35 Fx.fn11 (rconj_any p.flt kf hpr hcl) ?_
   refine sA ?_
   refine Z4 ?_
   refine sR ?_
   refine sA ?_
   refine Z4 ?_
   refine AW.block ?_
   refine AW.loop (fun (i : Nat) s => ∃ (kt : Nat) (zs : List (List E.T)), (i ≤ (cnj p.flt).length ∧ H kt = none ∧ zs = (((cnj p.flt).take i).map F1).map usrT) ∧ s = ⟨115, sp [(0, .c (scC z d0)), (4, .lp 4 0), (5, .lp 5 0), (7, .c (.a (.ts kt .ne 11 zs))), (9, iX .i64 ((i : Nat) : Int)), (8, .c (exsC .un (cnj p.flt)))], lv [(4, .box (zBd b)), (5, .box (zPl p))], upd H kt (some (.tip 95 11 zs.length))⟩) (fun i => (cnj p.flt).length - i) 0 ⟨_, Wk.keep 115 [(0, .c (scC z d0)), (4, .lp 4 0), (5, .lp 5 0), (7, .c (.a (.ts (k0) .ne 11 ([])))), (9, iX .i64 ((((0 : Nat)) : Nat) : Int)), (8, .c (exsC .un (cnj p.flt)))] [(4, .box (zBd b)), (5, .box (zPl p))] (upd H (k0) (some (.tip 95 11 ([]).length))) rfl ⟨rfl, rfl, rfl, rfl, rfl, rfl, trivial⟩ ⟨rfl, rfl, trivial⟩ (fun _ _ h => h) rfl, k0, [], ⟨Nat.zero_le _, hk0, rfl⟩, rfl⟩ (fun i s hs => ?_)
   obtain ⟨kt, zs, ⟨hi0, hkt, hzs⟩, rfl⟩ := hs
   refine AW.seq ?_
   refine sR ?_
   refine sM ?_
   refine sM ?_
   refine Z10 Fx.un28 ?_
   refine Z9 ?_
   refine Z4 ?_
   refine AW.condD rfl (fun h23 => ?_) (fun h23 => ?_)
   ·
    have hi : i < (cnj p.flt).length := by rw [List.length_map] at h23; omega
    refine AW.skip ?_
    refine AW.seq ?_
    refine AW.block ?_
    refine AW.reg ?_
    refine sM ?_
    refine sM ?_
    refine sM ?_
    refine Z8 Fx.sl28 (idx_ex hi) ?_
    refine Z11 (.g [_, _, _, _, _, _, _, _]) Fx.ty30 ?_
    refine Z38 (zs := [_, _, _, _, _, _, _, _, _, _, _]) (r := [_, _, _, _, _, _, _, _, _, _, _]) [(0, 1), (1, 1), (2, 1), (3, 8)] Fx.ze95 Fx.bp95 ?_
    refine Z39 Fx.el90 ?_
    refine SeqK.app1 rfl (hkt) rfl Fx.el90 rfl rfl (by simp only [hzs, List.length_map, List.length_append, List.length_take, List.length_cons, List.length_nil] at *; omega) rfl rfl (fun k33 hk33 => ?_)
    refine sA ?_
    refine Z4 ?_
    refine AW.reg ?_
    refine sM ?_
    refine Z1 ?_
    refine sA ?_
    refine Z4 ?_
    exact ⟨i + 1, _, Wk.keep 115 [(0, .c (scC z d0)), (4, .lp 4 0), (5, .lp 5 0), (7, .c (.a (.ts (k33) .ne 11 (zs ++ [usrT (F1 (cnj p.flt)[i])])))), (9, iX .i64 (((i + 1) : Nat) : Int)), (8, .c (exsC .un (cnj p.flt)))] [(4, .box (zBd b)), (5, .box (zPl p))] (upd H (k33) (some (.tip 95 11 (zs ++ [usrT (F1 (cnj p.flt)[i])]).length))) rfl ⟨rfl, rfl, rfl, rfl, rfl, rfl, trivial⟩ ⟨rfl, rfl, trivial⟩ (fun _ _ h => h) rfl, by omega, k33, zs ++ [usrT (F1 (cnj p.flt)[i])], ⟨hi, hk33, by rw [hzs, take_put hi, List.map_append, List.map_append]; rfl⟩, rfl⟩
   have hfin : zs = (ownU d0 b p).map usrT := by rw [hzs, own_4 hl h15, List.take_of_length_le (by rw [List.length_map] at h23; omega)]
   refine AW.exit ?_
   refine eth_e ?_
   refine eth_e ?_
   refine exit_here ?_
   first | (refine ⟨_, Wk.keep 115 [(0, .c (scC z d0)), (4, .lp 4 0), (5, .lp 5 0), (7, .c (.a (.ts kt .ne 11 zs)))] [(4, .box (zBd b)), (5, .box (zPl p))] (upd H kt (some (.tip 95 11 zs.length))) rfl ⟨rfl, rfl, rfl, rfl, trivial⟩ ⟨rfl, rfl, trivial⟩ (fun _ _ h => h) rfl, kt, zs, ⟨hkt, ?_⟩, rfl⟩; exact hfin) | (refine ⟨_, Wk.keep 115 [(0, .c (scC z d0)), (4, .lp 4 0), (5, .lp 5 0), (7, .c (.a (.ts k0 .ne 11 [])))] [(4, .box (zBd b)), (5, .box (zPl p))] (upd H k0 (some (.tip 95 11 0))) rfl ⟨rfl, rfl, rfl, rfl, trivial⟩ ⟨rfl, rfl, trivial⟩ (fun _ _ h => h) rfl, k0, [], ⟨hk0, ?_⟩, rfl⟩; exact hfin)
  refine sR ?_
  refine Z19 ?_
  refine sA ?_
  refine Z4 ?_
  refine AW.condD rfl (fun h34 => ?_) (fun h34 => ?_)
  ·
   have hs : lfP d0 b l p := by rw [shB_leaf (.inr (.inl h34))] at hl; exact of_decide_eq_true hl
   have hs4 := hs.2.2.2
   unfold lf4 at hs4
   rw [if_neg (by omega), if_pos h34] at hs4
   refine sR ?_
   refine sA ?_
   refine Z4 ?_
   refine AW.block ?_
   refine AW.loop (fun (i : Nat) s => ∃ (kt : Nat) (zs : List (List E.T)), (i ≤ p.keys.length ∧ H kt = none ∧ zs = (ownK d0 b p (p.keys.take i) 0).map usrT) ∧ s = ⟨115, sp [(0, .c (scC z d0)), (4, .lp 4 0), (5, .lp 5 0), (7, .c (.a (.ts kt .ne 11 zs))), (10, iX .i64 ((i : Nat) : Int))], lv [(4, .box (zBd b)), (5, .box (zPl p))], upd H kt (some (.tip 95 11 zs.length))⟩) (fun i => p.keys.length - i) 0 ⟨_, Wk.keep 115 [(0, .c (scC z d0)), (4, .lp 4 0), (5, .lp 5 0), (7, .c (.a (.ts (k0) .ne 11 ([])))), (10, iX .i64 ((((0 : Nat)) : Nat) : Int))] [(4, .box (zBd b)), (5, .box (zPl p))] (upd H (k0) (some (.tip 95 11 ([]).length))) rfl ⟨rfl, rfl, rfl, rfl, rfl, trivial⟩ ⟨rfl, rfl, trivial⟩ (fun _ _ h => h) rfl, k0, [], ⟨Nat.zero_le _, hk0, by rw [List.take_zero, ownK]; rfl⟩, rfl⟩ (fun i s hs => ?_)
   obtain ⟨kt, zs, ⟨hi0, hkt, hzs⟩, rfl⟩ := hs
   refine AW.seq ?_
   refine sR ?_
   refine sM ?_
   refine Z2 Fx.fl35_3 ?_
   refine Z0 Fx.ty28 ?_
   refine Z10 Fx.un28 ?_
   refine Z9 ?_
   refine Z4 ?_
   refine AW.condD rfl (fun h40 => ?_) (fun h40 => ?_)
   ·
    have hi : i < p.keys.length := by rw [List.length_map] at h40; omega
    have hic : i < p.cols.length := by omega
    have hcq := hs.2.1 i hic
    have hcn := ncol_le hb.hc (tabI b.tabs p.src)
    refine AW.skip ?_
    refine AW.seq ?_
    refine AW.block ?_
    refine AW.drawO [0, 1, 2, 3, 4, 5, 6, 7, 8, 9, 10, 11, 12, 13, 14, 15, 16, 17, 18, 19, 20] Fx.mo (by kernel_rfl) ?_
    refine Z48 ?_
    refine Z48 ?_
    refine LexO.r rfl (by kernel_rfl) (b_load (r := .g [_, _, _, _, _, _, _, _, _, _, _, _, _, _, _, _, _, _, _, _, _, _, _, _, _, _]) rfl Fx.ty51 rfl rfl rfl rfl rfl rfl) rfl ?_
    refine Z26 Fx.fl35_1 ?_
    refine Z32 Fx.ty3 ?_
    refine LexO.q rfl (by kernel_rfl) (q_call _ rfl Fx.fn67 rfl (offset_I d0 z b hb p.src hs.1.1) rfl) rfl rfl rfl ?_
    refine Z26 Fx.fl35_2 ?_
    refine Z32 Fx.ty24 ?_
    refine Z48 ?_
    refine LexO.q rfl (by kernel_rfl) (q_index _ rfl Fx.sl24 rfl rfl (by omega) (idx_map (f := i64T) hic)) rfl rfl rfl ?_
    refine LexO.q rfl (by kernel_rfl) (q_load (.a _) rfl Fx.ty3 rfl rfl rfl) rfl rfl rfl ?_
    refine LexO.q rfl (by kernel_rfl) (q_add _ rfl rfl rfl (w64 (by omega) (by omega))) rfl rfl rfl ?_
    refine Z26 Fx.fl35_3 ?_
    refine Z32 Fx.ty28 ?_
    refine Z48 ?_
    refine LexO.q rfl (by kernel_rfl) (q_index _ rfl Fx.sl28 rfl rfl (by omega) (idx_ex hi)) rfl rfl rfl ?_
    refine LexO.q rfl (by kernel_rfl) (q_load (.g [_, _, _, _, _, _, _, _]) rfl Fx.ty30 rfl rfl rfl) rfl rfl rfl ?_
    refine LexO.q rfl (by kernel_rfl) (q_build2 (zs := [_, _, _, _, _, _, _, _, _, _, _]) (r := [_, _, _, _, _, _, _, _, _, _, _]) [(0, 1), (1, 1), (2, 1), (3, 8)] _ rfl Fx.ze95 rfl Fx.bp95 rfl rfl rfl rfl) rfl rfl rfl ?_
    refine LexO.q rfl (by kernel_rfl) (q_buildSlice _ rfl Fx.el90 rfl (by decide) rfl) rfl rfl rfl ?_
    refine LexO.app1 rfl (by kernel_rfl) (by kernel_rfl) (by kernel_rfl) rfl (hkt) rfl Fx.el90 rfl rfl (by have hle := ownK_le (d0 := d0) (b := b) (p := p) (p.keys.take i) 0; rw [List.length_take] at hle; simp only [hzs, List.length_map, List.length_append, List.length_cons, List.length_nil] at *; omega) rfl rfl (fun k62 hk62 => ?_)
    refine LexO.q rfl (by kernel_rfl) (q_asC rfl rfl) rfl rfl rfl ?_
    refine LexO.nil (by kernel_rfl) ?_
    refine AW.reg ?_
    refine sM ?_
    refine Z1 ?_
    refine sA ?_
    refine Z4 ?_
    exact ⟨i + 1, _, Wk.keep 115 [(0, .c (scC z d0)), (4, .lp 4 0), (5, .lp 5 0), (7, .c (.a (.ts (k62) .ne 11 (zs ++ [usrT (⟨false, 0, (offM d0 (b.tabs.take p.src.toNat) : Int) + p.cols[i], p.keys[i]⟩ : Us)])))), (10, iX .i64 (((i + 1) : Nat) : Int))] [(4, .box (zBd b)), (5, .box (zPl p))] (upd H (k62) (some (.tip 95 11 (zs ++ [usrT (⟨false, 0, (offM d0 (b.tabs.take p.src.toNat) : Int) + p.cols[i], p.keys[i]⟩ : Us)]).length))) rfl ⟨rfl, rfl, rfl, rfl, rfl, trivial⟩ ⟨rfl, rfl, trivial⟩ (fun _ _ h => h) rfl, by omega, k62, zs ++ [usrT (⟨false, 0, (offM d0 (b.tabs.take p.src.toNat) : Int) + p.cols[i], p.keys[i]⟩ : Us)], ⟨hi, hk62, by rw [hzs, ownK_take hi, if_neg (prs_all.1 hs4.2.2 _ (List.getElem_mem hi)), List.map_append, wK, if_pos h34, varK, colK, if_pos h34, List.getD_eq_getElem?_getD, List.getElem?_eq_getElem hic]; rfl⟩, rfl⟩
   have hfin : zs = (ownU d0 b p).map usrT := by rw [hzs, own_lf hs, List.take_of_length_le (by rw [List.length_map] at h40; omega)]
   refine AW.exit ?_
   refine eth_e ?_
   refine eth_e ?_
   refine exit_here ?_
   first | (refine ⟨_, Wk.keep 115 [(0, .c (scC z d0)), (4, .lp 4 0), (5, .lp 5 0), (7, .c (.a (.ts kt .ne 11 zs)))] [(4, .box (zBd b)), (5, .box (zPl p))] (upd H kt (some (.tip 95 11 zs.length))) rfl ⟨rfl, rfl, rfl, rfl, trivial⟩ ⟨rfl, rfl, trivial⟩ (fun _ _ h => h) rfl, kt, zs, ⟨hkt, ?_⟩, rfl⟩; exact hfin) | (refine ⟨_, Wk.keep 115 [(0, .c (scC z d0)), (4, .lp 4 0), (5, .lp 5 0), (7, .c (.a (.ts k0 .ne 11 [])))] [(4, .box (zBd b)), (5, .box (zPl p))] (upd H k0 (some (.tip 95 11 0))) rfl ⟨rfl, rfl, rfl, rfl, trivial⟩ ⟨rfl, rfl, trivial⟩ (fun _ _ h => h) rfl, k0, [], ⟨hk0, ?_⟩, rfl⟩; exact hfin)
  refine sR ?_
  refine Z19 ?_
  refine sA ?_
  refine Z4 ?_
  refine AW.condD rfl (fun h63 => ?_) (fun h63 => ?_)
  ·
   have hs : lfP d0 b l p := by rw [shB_leaf (.inr (.inr h63))] at hl; exact of_decide_eq_true hl
   have hs4 := hs.2.2.2
   unfold lf4 at hs4
   rw [if_neg (by omega), if_neg (by omega)] at hs4
   refine sR ?_
   refine sA ?_
   refine Z4 ?_
   refine AW.block ?_
   refine AW.loop (fun (i : Nat) s => ∃ (kt : Nat) (zs : List (List E.T)), (i ≤ 2 ∧ H kt = none ∧ zs = (ownK d0 b p (p.keys.take i) 0).map usrT) ∧ s = ⟨115, sp [(0, .c (scC z d0)), (4, .lp 4 0), (5, .lp 5 0), (7, .c (.a (.ts kt .ne 11 zs))), (11, iX .i64 ((i : Nat) : Int))], lv [(4, .box (zBd b)), (5, .box (zPl p))], upd H kt (some (.tip 95 11 zs.length))⟩) (fun i => 2 - i) 0 ⟨_, Wk.keep 115 [(0, .c (scC z d0)), (4, .lp 4 0), (5, .lp 5 0), (7, .c (.a (.ts (k0) .ne 11 ([])))), (11, iX .i64 ((((0 : Nat)) : Nat) : Int))] [(4, .box (zBd b)), (5, .box (zPl p))] (upd H (k0) (some (.tip 95 11 ([]).length))) rfl ⟨rfl, rfl, rfl, rfl, rfl, trivial⟩ ⟨rfl, rfl, trivial⟩ (fun _ _ h => h) rfl, k0, [], ⟨Nat.zero_le _, hk0, by rw [List.take_zero, ownK]; rfl⟩, rfl⟩ (fun i s hs => ?_)
   obtain ⟨kt, zs, ⟨hi0, hkt, hzs⟩, rfl⟩ := hs
   refine AW.seq ?_
   refine sR ?_
   refine sM ?_
   refine Z9 ?_
   refine Z4 ?_
   refine AW.condD rfl (fun h66 => ?_) (fun h66 => ?_)
   ·
    have hi : i < p.keys.length := by omega
    have h0c : 0 < p.cols.length := by omega
    have hcq := hs.2.1 0 h0c
    have hcn := ncol_le hb.hc (tabI b.tabs p.src)
    refine AW.skip ?_
    refine AW.seq ?_
    refine AW.block ?_
    refine sR ?_
    refine Z2 Fx.fl35_3 ?_
    refine Z0 Fx.ty28 ?_
    refine sM ?_
    refine Z8 Fx.sl28 (idx_ex hi) ?_
    refine SeqK.q (q_fieldP _ rfl Fx.fl30_0 rfl rfl) rfl rfl rfl ?_
    refine Z11 (.a _) Fx.ty3 ?_
    refine Z51 ?_
    refine Z4 ?_
    refine AW.condD rfl (fun h75 => ?_) (fun h75 => ?_)
    ·
     refine AW.drawO [0, 1, 2, 3, 4, 5, 6, 7, 8, 9, 10, 11, 12, 13, 14, 15, 16, 17, 18, 19, 20, 21] Fx.mo (by kernel_rfl) ?_
     refine Z48 ?_
     refine Z48 ?_
     refine LexO.q rfl (by kernel_rfl) (q_add _ rfl rfl rfl (w64 (by omega) (by omega))) rfl rfl rfl ?_
     refine Z48 ?_
     refine LexO.r rfl (by kernel_rfl) (b_load (r := .g [_, _, _, _, _, _, _, _, _, _, _, _, _, _, _, _, _, _, _, _, _, _, _, _, _, _]) rfl Fx.ty51 rfl rfl rfl rfl rfl rfl) rfl ?_
     refine Z26 Fx.fl35_1 ?_
     refine Z32 Fx.ty3 ?_
     refine LexO.q rfl (by kernel_rfl) (q_call _ rfl Fx.fn67 rfl (offset_I d0 z b hb p.src hs.1.1) rfl) rfl rfl rfl ?_
     refine Z26 Fx.fl35_2 ?_
     refine Z32 Fx.ty24 ?_
     refine LexO.q rfl (by kernel_rfl) (q_index _ rfl Fx.sl24 rfl rfl (by omega) (idx_map (f := i64T) h0c)) rfl rfl rfl ?_
     refine LexO.q rfl (by kernel_rfl) (q_load (.a _) rfl Fx.ty3 rfl rfl rfl) rfl rfl rfl ?_
     refine LexO.q rfl (by kernel_rfl) (q_add _ rfl rfl rfl (w64 (by omega) (by omega))) rfl rfl rfl ?_
     refine Z26 Fx.fl35_3 ?_
     refine Z32 Fx.ty28 ?_
     refine Z48 ?_
     refine LexO.q rfl (by kernel_rfl) (q_index _ rfl Fx.sl28 rfl rfl (by omega) (idx_ex hi)) rfl rfl rfl ?_
     refine LexO.q rfl (by kernel_rfl) (q_load (.g [_, _, _, _, _, _, _, _]) rfl Fx.ty30 rfl rfl rfl) rfl rfl rfl ?_
     refine LexO.q rfl (by kernel_rfl) (q_build2 (zs := [_, _, _, _, _, _, _, _, _, _, _]) (r := [_, _, _, _, _, _, _, _, _, _, _]) [(0, 1), (1, 1), (2, 1), (3, 8)] _ rfl Fx.ze95 rfl Fx.bp95 rfl rfl rfl rfl) rfl rfl rfl ?_
     refine LexO.q rfl (by kernel_rfl) (q_buildSlice _ rfl Fx.el90 rfl (by decide) rfl) rfl rfl rfl ?_
     refine LexO.app1 rfl (by kernel_rfl) (by kernel_rfl) (by kernel_rfl) rfl (hkt) rfl Fx.el90 rfl rfl (by have hle := ownK_le (d0 := d0) (b := b) (p := p) (p.keys.take i) 0; rw [List.length_take] at hle; simp only [hzs, List.length_map, List.length_append, List.length_cons, List.length_nil] at *; omega) rfl rfl (fun k96 hk96 => ?_)
     refine LexO.q rfl (by kernel_rfl) (q_asC rfl rfl) rfl rfl rfl ?_
     refine LexO.nil (by kernel_rfl) ?_
     refine AW.reg ?_
     refine sM ?_
     refine Z1 ?_
     refine sA ?_
     refine Z4 ?_
     exact ⟨i + 1, _, Wk.keep 115 [(0, .c (scC z d0)), (4, .lp 4 0), (5, .lp 5 0), (7, .c (.a (.ts (k96) .ne 11 (zs ++ [usrT (⟨false, 1 + (i : Int), (offM d0 (b.tabs.take p.src.toNat) : Int) + p.cols[0]'(by omega), p.keys[i]'(by omega)⟩ : Us)])))), (11, iX .i64 (((i + 1) : Nat) : Int))] [(4, .box (zBd b)), (5, .box (zPl p))] (upd H (k96) (some (.tip 95 11 (zs ++ [usrT (⟨false, 1 + (i : Int), (offM d0 (b.tabs.take p.src.toNat) : Int) + p.cols[0]'(by omega), p.keys[i]'(by omega)⟩ : Us)]).length))) rfl ⟨rfl, rfl, rfl, rfl, rfl, trivial⟩ ⟨rfl, rfl, trivial⟩ (fun _ _ h => h) rfl, by omega, k96, zs ++ [usrT (⟨false, 1 + (i : Int), (offM d0 (b.tabs.take p.src.toNat) : Int) + p.cols[0]'(by omega), p.keys[i]'(by omega)⟩ : Us)], ⟨by omega, hk96, by rw [hzs, ownK_take hi, if_neg h75, List.map_append, wK, if_neg h34, varK, colK, if_neg h34, List.getD_eq_getElem?_getD, List.getElem?_eq_getElem h0c]; rfl⟩, rfl⟩
    refine AW.skip ?_
    refine AW.reg ?_
    refine sM ?_
    refine Z1 ?_
    refine sA ?_
    refine Z4 ?_
    exact ⟨i + 1, _, Wk.keep 115 [(0, .c (scC z d0)), (4, .lp 4 0), (5, .lp 5 0), (7, .c (.a (.ts (kt) .ne 11 (zs)))), (11, iX .i64 (((i + 1) : Nat) : Int))] [(4, .box (zBd b)), (5, .box (zPl p))] (upd H (kt) (some (.tip 95 11 (zs).length))) rfl ⟨rfl, rfl, rfl, rfl, rfl, trivial⟩ ⟨rfl, rfl, trivial⟩ (fun _ _ h => h) rfl, by omega, kt, zs, ⟨by omega, hkt, by rw [hzs, ownK_take hi, if_pos (by first | exact h75 | exact Classical.not_not.1 h75), List.append_nil]⟩, rfl⟩
   have hfin : zs = (ownU d0 b p).map usrT := by rw [hzs, own_lf hs, List.take_of_length_le (by omega)]
   refine AW.exit ?_
   refine eth_e ?_
   refine eth_e ?_
   refine exit_here ?_
   first | (refine ⟨_, Wk.keep 115 [(0, .c (scC z d0)), (4, .lp 4 0), (5, .lp 5 0), (7, .c (.a (.ts kt .ne 11 zs)))] [(4, .box (zBd b)), (5, .box (zPl p))] (upd H kt (some (.tip 95 11 zs.length))) rfl ⟨rfl, rfl, rfl, rfl, trivial⟩ ⟨rfl, rfl, trivial⟩ (fun _ _ h => h) rfl, kt, zs, ⟨hkt, ?_⟩, rfl⟩; exact hfin) | (refine ⟨_, Wk.keep 115 [(0, .c (scC z d0)), (4, .lp 4 0), (5, .lp 5 0), (7, .c (.a (.ts k0 .ne 11 [])))] [(4, .box (zBd b)), (5, .box (zPl p))] (upd H k0 (some (.tip 95 11 0))) rfl ⟨rfl, rfl, rfl, rfl, trivial⟩ ⟨rfl, rfl, trivial⟩ (fun _ _ h => h) rfl, k0, [], ⟨hk0, ?_⟩, rfl⟩; exact hfin)
  have hfin : ([] : List (List E.T)) = (ownU d0 b p).map usrT := by rw [own_no hl h15 h34 h63]; rfl
  refine AW.skip ?_
  first | (refine ⟨_, Wk.keep 115 [(0, .c (scC z d0)), (4, .lp 4 0), (5, .lp 5 0), (7, .c (.a (.ts kt .ne 11 zs)))] [(4, .box (zBd b)), (5, .box (zPl p))] (upd H kt (some (.tip 95 11 zs.length))) rfl ⟨rfl, rfl, rfl, rfl, trivial⟩ ⟨rfl, rfl, trivial⟩ (fun _ _ h => h) rfl, kt, zs, ⟨hkt, ?_⟩, rfl⟩; exact hfin) | (refine ⟨_, Wk.keep 115 [(0, .c (scC z d0)), (4, .lp 4 0), (5, .lp 5 0), (7, .c (.a (.ts k0 .ne 11 [])))] [(4, .box (zBd b)), (5, .box (zPl p))] (upd H k0 (some (.tip 95 11 0))) rfl ⟨rfl, rfl, rfl, rfl, trivial⟩ ⟨rfl, rfl, trivial⟩ (fun _ _ h => h) rfl, k0, [], ⟨hk0, ?_⟩, rfl⟩; exact hfin)
 rintro s ⟨kt, zs, ⟨hkt, hzs⟩, rfl⟩
 refine AW.seq ?_
 refine sR ?_
 refine sA ?_
 refine Z4 ?_
 refine AW.block ?_
 refine AW.loop (fun (i : Nat) s => ∃ (kt : Nat) (zs : List (List E.T)), (i ≤ p.args.length ∧ H kt = none ∧ zs = (ownU d0 b p ++ (p.args.take i).flatMap (rus d0 b)).map usrT) ∧ s = ⟨115, sp [(0, .c (scC z d0)), (4, .lp 4 0), (5, .lp 5 0), (7, .c (.a (.ts kt .ne 11 zs))), (12, iX .i64 ((i : Nat) : Int))], lv [(4, .box (zBd b)), (5, .box (zPl p))], upd H kt (some (.tip 95 11 zs.length))⟩) (fun i => p.args.length - i) 0 ⟨_, Wk.keep 115 [(0, .c (scC z d0)), (4, .lp 4 0), (5, .lp 5 0), (7, .c (.a (.ts (kt) .ne 11 (zs)))), (12, iX .i64 ((((0 : Nat)) : Nat) : Int))] [(4, .box (zBd b)), (5, .box (zPl p))] (upd H (kt) (some (.tip 95 11 (zs).length))) rfl ⟨rfl, rfl, rfl, rfl, rfl, trivial⟩ ⟨rfl, rfl, trivial⟩ (fun _ _ h => h) rfl, kt, zs, ⟨Nat.zero_le _, hkt, by rw [hzs]; simp⟩, rfl⟩ (fun i s hs => ?_)
 obtain ⟨kt, zs, ⟨hi0, hkt, hzs⟩, rfl⟩ := hs
 refine AW.seq ?_
 refine sR ?_
 refine sM ?_
 refine Z2 Fx.fl35_5 ?_
 refine Z0 Fx.ty33 ?_
 refine Z10 Fx.un33 ?_
 refine Z9 ?_
 refine Z4 ?_
 refine AW.condD rfl (fun h101 => ?_) (fun h101 => ?_)
 ·
  have hi : i < p.args.length := by rw [List.length_map] at h101; omega
  have hfl := flat_le (f := rus d0 b) hi
  have hrl := congrArg List.length (rus_eq (d0 := d0) (b := b) p)
  simp only [List.length_append] at hrl
  refine AW.skip ?_
  refine AW.seq ?_
  refine AW.block ?_
  refine AW.drawO [0, 1, 2, 3, 4, 5, 6, 7, 8, 9, 10] Fx.mo (by kernel_rfl) ?_
  refine Z48 ?_
  refine Z48 ?_
  refine LexO.r rfl (by kernel_rfl) (b_load (r := .g [_, _, _, _, _, _, _, _, _, _, _, _, _, _, _, _, _, _, _, _, _, _, _, _, _, _]) rfl Fx.ty51 rfl rfl rfl rfl rfl rfl) rfl ?_
  refine Z26 Fx.fl35_5 ?_
  refine Z32 Fx.ty33 ?_
  refine Z48 ?_
  refine LexO.q rfl (by kernel_rfl) (q_index _ rfl Fx.sl33 rfl rfl (by omega) (idx_pl hi)) rfl rfl rfl ?_
  refine LexO.q rfl (by kernel_rfl) (q_load (.g [_, _, _, _, _, _, _, _, _, _, _, _, _]) rfl Fx.ty35 rfl rfl rfl) rfl rfl rfl ?_
  refine LexO.q rfl (by kernel_rfl) (q_call _ rfl Fx.fn31 rfl (ih _ (List.getElem_mem hi)) rfl) rfl rfl rfl ?_
  refine LexO.app1 rfl (by kernel_rfl) (by kernel_rfl) (by kernel_rfl) rfl (hkt) rfl Fx.el90 rfl rfl (by simp only [hzs, List.length_map, List.length_append] at *; omega) rfl rfl (fun k113 hk113 => ?_)
  refine LexO.q rfl (by kernel_rfl) (q_asC rfl rfl) rfl rfl rfl ?_
  refine LexO.nil (by kernel_rfl) ?_
  refine AW.reg ?_
  refine sM ?_
  refine Z1 ?_
  refine sA ?_
  refine Z4 ?_
  exact ⟨i + 1, _, Wk.keep 115 [(0, .c (scC z d0)), (4, .lp 4 0), (5, .lp 5 0), (7, .c (.a (.ts (k113) .ne 11 (zs ++ (rus d0 b p.args[i]).map usrT)))), (12, iX .i64 (((i + 1) : Nat) : Int))] [(4, .box (zBd b)), (5, .box (zPl p))] (upd H (k113) (some (.tip 95 11 (zs ++ (rus d0 b p.args[i]).map usrT).length))) rfl ⟨rfl, rfl, rfl, rfl, rfl, trivial⟩ ⟨rfl, rfl, trivial⟩ (fun _ _ h => h) rfl, by omega, k113, zs ++ (rus d0 b p.args[i]).map usrT, ⟨hi, hk113, by rw [hzs, flat_take hi]; simp only [List.map_append, List.append_assoc]⟩, rfl⟩
 refine AW.exit ?_
 refine eth_e ?_
 refine eth_e ?_
 refine exit_here ?_
 refine AW.seq ?_
 have hzf : zs = (rus d0 b p).map usrT := by rw [hzs, rus_eq, List.take_of_length_le (by rw [List.length_map] at h101; omega)]
 refine AW.xw 7 rfl (XW.ts.trans (XW.es hzf)) ?_
 refine AW.reg ?_
 refine sM ?_
 refine sA ?_
 refine Z4 ?_
 refine AW.ret ?_
 exact fin_x (x := .c _) (H) (.tmp rfl .nil) rfl ((fun j o h => upd_sub hkt j o h)) (⟨rfl, rfl⟩)

theorem ruses_any (d0 : List Tb) (z : Nz) (b : Bd) (hb : okB d0 b) (p : Pl) : okP p → filB p = true → (∃ d, fewB d p = true) → (∃ l, shB d0 b p l = true) → usN 1 p ≤ 100000000 → Pure Tryz.prog 31 [scC z d0, bdC b, plC p] (.c (rusC .un (rus d0 b p))) := by
  induction p using Pl.rec' with
  | h p ih => exact fun ho hf hd hsh hn => ruses_of d0 z b hb p ho (fi_flt hf) hsh (Nat.le_trans (rus_len p) hn) (hd.elim fun d h => Nat.le_trans (few_flt h) (by omega)) (hd.elim fun d h => few_keys h) fun a ha => ih a ha ((okP_iff.1 ho).2 a ha) (fi_arg hf ha) (hd.elim fun d h => few_arg h ha) (hsh.elim fun l h => sh_arg h ha) (Nat.le_trans (usN_arg ha) hn)

end Go.Proofs.YtihlgigaejhilaaGreat.W
namespace Go.Proofs.YtihlgigaejhilaaGreat.W
open Go.RowKit E
/-! valid plans, by the reference, walked -/
theorem idx_us {l : List Us} {i : Nat} (h : i < l.length) : (l.map usrT)[i]? = some (usrT l[i]) := by rw [List.getElem?_map, List.getElem?_eq_getElem h]; rfl

set_option maxHeartbeats 8000000 in
set_option maxRecDepth 20000 in
theorem rvalid_any44 (d0 : List Tb) (z : Nz) (b : Bd) (hb : okB d0 b) (hw : okE b.wh) (hpr : prB b.wh = true) (hcl : (cnj b.wh).length ≤ 1000000) (p : Pl) (ho : okP p) (hs : (srM p).length ≤ 1000000) (hf : filB p = true) (hd : ∃ d, fewB d p = true) (hn : usN 1 p ≤ 100000000) : Pure Tryz.prog 10 [scC z d0, bdC b, plC p] (.c (bC (decide (rvP d0 b p)))) := by
 have hrl := Nat.le_trans (rus_len (d0 := d0) (b := b) p) hn
 intro H
 refine Spec.enter Tryz.func10 rfl ?_
 refine AW.wk (Wk.keep 92 [(0, .c (scC z d0)), (1, .c (bdC b)), (2, .c (plC p))] [] (H) rfl ⟨rfl, rfl, rfl, trivial⟩ trivial (fun _ _ h => h) rfl) ?_
 refine sR ?_
 refine Z18 (r := [_, _, _, _, _, _, _, _, _, _, _, _, _, _, _, _, _, _, _, _, _, _, _, _, _, _]) ?_
 refine Z18 (r := [_, _, _, _, _, _, _, _, _, _, _, _, _]) ?_
 refine sA ?_
 refine Z4 ?_
 refine AW.seq ?_
 refine sR ?_
 refine sM ?_
 refine Z13 (r := .g [_, _, _, _, _, _, _, _, _, _, _, _, _, _, _, _, _, _, _, _, _, _, _, _, _, _]) Fx.ty51 ?_
 refine Z13 (r := .g [_, _, _, _, _, _, _, _, _, _, _, _, _]) Fx.ty35 ?_
 refine Z35 Fx.fn14 (rshape_any d0 z b hb p ho hs) ?_
 refine Z33 ?_
 refine Z4 ?_
 refine AW.cond _ rfl (fun h23 => ?_) (fun h23 => ?_)
 ·
  refine sR ?_
  refine sA ?_
  refine Z4 ?_
  refine AW.ret ?_
  exact fin_x (x := .c _) (H) (.tmp rfl .nil) rfl (fun _ _ h => h) (⟨bCe (dF (fun h => nd_t h23 h.1)), rfl⟩)
 refine AW.skip ?_
 refine AW.seq ?_
 have hsh : shpP d0 b p := nd_f h23
 refine AW.draw Fx.mo ?_
 refine Z16 ?_
 refine Z49 (r := .g [_, _, _, _, _, _, _, _, _, _, _, _, _, _, _, _, _, _, _, _, _, _, _, _, _, _]) Fx.ty51 ?_
 refine Z49 (r := .g [_, _, _, _, _, _, _, _, _, _, _, _, _]) Fx.ty35 ?_
 refine LexK.q (q_call _ rfl Fx.fn31 rfl (ruses_any d0 z b hb p ho hf hd ⟨[], hsh.1⟩ hn) rfl) rfl rfl rfl ?_
 refine Z30 Fx.fl51_0 ?_
 refine Z30 Fx.fl47_7 ?_
 refine Z49 (r := .g [_, _, _, _, _, _, _, _]) Fx.ty30 ?_
 refine LexK.q (q_call _ rfl Fx.fn11 rfl (rconj_any b.wh hw hpr hcl) rfl) rfl rfl rfl ?_
 refine Z34 ?_
 refine Z34 ?_
 refine Z31 ?_
 refine AW.seq ?_
 refine sR ?_
 refine sA ?_
 refine Z4 ?_
 refine AW.block ?_
 refine AW.loop (fun (i : Nat) s => (i ≤ (rus d0 b p).length ∧ ∀ j (h : j < (rus d0 b p).length), j < i → (cnj b.wh).any (fit1 · (rus d0 b p)[j]) = true) ∧ s = ⟨92, sp [(6, .c (bC false)), (7, .c (rusC .un (rus d0 b p))), (8, .c (exsC .un (cnj b.wh))), (9, iX .i64 ((i : Nat) : Int))], lv [], H⟩) (fun i => (rus d0 b p).length - i) 0 ⟨_, Wk.keep 92 [(6, .c (bC false)), (7, .c (rusC .un (rus d0 b p))), (8, .c (exsC .un (cnj b.wh))), (9, iX .i64 ((((0 : Nat)) : Nat) : Int))] [] (H) rfl ⟨rfl, rfl, rfl, rfl, trivial⟩ trivial (fun _ _ h => h) rfl, ⟨Nat.zero_le _, up0⟩, rfl⟩ (fun i s hs => ?_)
 obtain ⟨⟨hi0, hU⟩, rfl⟩ := hs
 refine AW.seq ?_
 refine sR ?_
 refine sM ?_
 refine sM ?_
 refine Z10 Fx.un90 ?_
 refine Z9 ?_
 refine Z4 ?_
 refine AW.condD rfl (fun h35 => ?_) (fun h35 => ?_)
 ·
  have hi : i < (rus d0 b p).length := by rw [List.length_map] at h35; omega
  refine AW.skip ?_
  refine AW.seq ?_
  refine AW.block ?_
  refine sR ?_
  refine sA ?_
  refine Z4 ?_
  refine AW.seq ?_
  refine sR ?_
  refine sA ?_
  refine Z4 ?_
  refine AW.block ?_
  refine AW.loop (fun (j : Nat) s => ∃ (fb : Bool), (j ≤ (cnj b.wh).length ∧ fb = ((cnj b.wh).take j).any (fit1 · (rus d0 b p)[i])) ∧ s = ⟨92, sp [(6, .c (bC false)), (7, .c (rusC .un (rus d0 b p))), (8, .c (exsC .un (cnj b.wh))), (9, iX .i64 ((i : Nat) : Int)), (10, .c (bC fb)), (11, iX .i64 ((j : Nat) : Int))], lv [], H⟩) (fun j => (cnj b.wh).length - j) 0 ⟨_, Wk.keep 92 [(6, .c (bC false)), (7, .c (rusC .un (rus d0 b p))), (8, .c (exsC .un (cnj b.wh))), (9, iX .i64 ((i : Nat) : Int)), (10, .c (bC (false))), (11, iX .i64 ((((0 : Nat)) : Nat) : Int))] [] (H) rfl ⟨rfl, rfl, rfl, rfl, rfl, rfl, trivial⟩ trivial (fun _ _ h => h) rfl, false, ⟨Nat.zero_le _, rfl⟩, rfl⟩ (fun j s hs => ?_)
  obtain ⟨fb, ⟨hj0, hfb⟩, rfl⟩ := hs
  refine AW.seq ?_
  refine sR ?_
  refine sM ?_
  refine sM ?_
  refine Z10 Fx.un28 ?_
  refine Z9 ?_
  refine Z4 ?_
  refine AW.condD rfl (fun h41 => ?_) (fun h41 => ?_)
  ·
   have hj : j < (cnj b.wh).length := by rw [List.length_map] at h41; omega
   have hcj := cnj_ok b.wh hw _ (List.getElem_mem hj)
   refine AW.skip ?_
   refine AW.seq ?_
   refine AW.block ?_
   refine AW.seq ?_
   refine AW.draw Fx.mo ?_
   refine Z16 ?_
   refine Z16 ?_
   refine Z24 Fx.sl28 (idx_ex hj) ?_
   refine Z29 (.g [_, _, _, _, _, _, _, _]) Fx.ty30 ?_
   refine Z16 ?_
   refine Z16 ?_
   refine Z24 Fx.sl90 (idx_us hi) ?_
   refine Z29 (.g [_, _, _, _, _, _, _, _, _, _, _]) Fx.ty95 ?_
   refine LexK.q (q_call _ rfl Fx.fn32 rfl (fits_any (cnj b.wh)[j] (rus d0 b p)[i] hcj) rfl) rfl rfl rfl ?_
   refine LexK.q (q_mvT rfl rfl) rfl rfl rfl ?_
   refine LexK.q (q_extract _ rfl rfl rfl) rfl rfl rfl ?_
   refine LexK.q (q_extract _ rfl rfl rfl) rfl rfl rfl ?_
   refine Z34 ?_
   refine Z34 ?_
   refine Z31 ?_
   refine AW.reg ?_
   refine sM ?_
   refine Z52 (fun g57 => ?_) (fun g57 => ?_)
   ·
    refine Z44 ?_
    refine Z5 ?_
    refine sA ?_
    refine Z4 ?_
    refine AW.reg ?_
    refine sM ?_
    refine Z1 ?_
    refine sA ?_
    refine Z4 ?_
    exact ⟨j + 1, _, Wk.keep 92 [(6, .c (bC false)), (7, .c (rusC .un (rus d0 b p))), (8, .c (exsC .un (cnj b.wh))), (9, iX .i64 ((i : Nat) : Int)), (10, .c (bC (true))), (11, iX .i64 (((j + 1) : Nat) : Int))] [] (H) rfl ⟨rfl, rfl, rfl, rfl, rfl, rfl, trivial⟩ trivial (fun _ _ h => h) rfl, by omega, true, ⟨hj, by rw [anyTk hj, ← hfb, g57]; rfl⟩, rfl⟩
   refine Z14 ?_
   refine Z6 ?_
   refine sA ?_
   refine Z4 ?_
   refine AW.reg ?_
   refine sM ?_
   refine Z1 ?_
   refine sA ?_
   refine Z4 ?_
   exact ⟨j + 1, _, Wk.keep 92 [(6, .c (bC false)), (7, .c (rusC .un (rus d0 b p))), (8, .c (exsC .un (cnj b.wh))), (9, iX .i64 ((i : Nat) : Int)), (10, .c (bC ((fit1 (cnj b.wh)[j] (rus d0 b p)[i])))), (11, iX .i64 (((j + 1) : Nat) : Int))] [] (H) rfl ⟨rfl, rfl, rfl, rfl, rfl, rfl, trivial⟩ trivial (fun _ _ h => h) rfl, by omega, (fit1 (cnj b.wh)[j] (rus d0 b p)[i]), ⟨hj, by rw [anyTk hj, ← hfb, g57, Bool.false_or]⟩, rfl⟩
  refine AW.exit ?_
  refine eth_e ?_
  refine eth_e ?_
  refine exit_here ?_
  refine AW.seq ?_
  have hfA : fb = (cnj b.wh).any (fit1 · (rus d0 b p)[i]) := by rw [hfb, List.take_of_length_le (by rw [List.length_map] at h41; omega)]
  refine AW.reg ?_
  refine sM ?_
  refine Z33 ?_
  refine Z4 ?_
  refine AW.cond _ rfl (fun h61 => ?_) (fun h61 => ?_)
  ·
   refine sR ?_
   refine sA ?_
   refine Z4 ?_
   refine AW.ret ?_
   exact fin_x (x := .c _) (H) (.tmp rfl .nil) rfl (fun _ _ h => h) (⟨bCe (dF (fun h => by have h9 := h.2.1 i hi; rw [← hfA] at h9; rw [h9] at h61; cases h61)), rfl⟩)
  refine AW.skip ?_
  refine AW.reg ?_
  refine sM ?_
  refine Z1 ?_
  refine sA ?_
  refine Z4 ?_
  exact ⟨i + 1, _, Wk.keep 92 [(6, .c (bC false)), (7, .c (rusC .un (rus d0 b p))), (8, .c (exsC .un (cnj b.wh))), (9, iX .i64 (((i + 1) : Nat) : Int))] [] (H) rfl ⟨rfl, rfl, rfl, rfl, trivial⟩ trivial (fun _ _ h => h) rfl, by omega, ⟨hi, upS (Q := fun j h => (cnj b.wh).any (fit1 · (rus d0 b p)[j]) = true) hi hU (by rw [← hfA]; simpa using h61)⟩, rfl⟩
 refine AW.exit ?_
 refine eth_e ?_
 refine eth_e ?_
 refine exit_here ?_
 refine AW.seq ?_
 refine AW.seq ?_
 have hA := upE hU (by rw [List.length_map] at h35; omega)
 refine AW.reg ?_
 refine sA ?_
 refine Z4 ?_
 refine AW.block ?_
 refine AW.loop (fun (i : Nat) s => (i ≤ (cnj b.wh).length ∧ ∀ j (h : j < (cnj b.wh).length), j < i → (rus d0 b p).any (fit2 (cnj b.wh)[j]) = true) ∧ s = ⟨92, sp [(6, .c (bC false)), (7, .c (rusC .un (rus d0 b p))), (8, .c (exsC .un (cnj b.wh))), (14, iX .i64 ((i : Nat) : Int))], lv [], H⟩) (fun i => (cnj b.wh).length - i) 0 ⟨_, Wk.keep 92 [(6, .c (bC false)), (7, .c (rusC .un (rus d0 b p))), (8, .c (exsC .un (cnj b.wh))), (14, iX .i64 ((((0 : Nat)) : Nat) : Int))] [] (H) rfl ⟨rfl, rfl, rfl, rfl, trivial⟩ trivial (fun _ _ h => h) rfl, ⟨Nat.zero_le _, up0⟩, rfl⟩ (fun i s hs => ?_)
 obtain ⟨⟨hi0, hV⟩, rfl⟩ := hs
 refine AW.seq ?_
 refine sR ?_
 refine sM ?_
 refine sM ?_
 refine Z10 Fx.un28 ?_
 refine Z9 ?_
 refine Z4 ?_
 refine AW.condD rfl (fun h65 => ?_) (fun h65 => ?_)
 ·
  have hi : i < (cnj b.wh).length := by rw [List.length_map] at h65; omega
  refine AW.skip ?_
  refine AW.seq ?_
  refine AW.block ?_
  refine sR ?_
  refine sA ?_
  refine Z4 ?_
  refine AW.seq ?_
  refine sR ?_
  refine sA ?_
  refine Z4 ?_
  refine AW.block ?_
  refine AW.loop (fun (j : Nat) s => ∃ (fb : Bool), (j ≤ (rus d0 b p).length ∧ fb = ((rus d0 b p).take j).any (fit2 (cnj b.wh)[i])) ∧ s = ⟨92, sp [(6, .c (bC false)), (7, .c (rusC .un (rus d0 b p))), (8, .c (exsC .un (cnj b.wh))), (14, iX .i64 ((i : Nat) : Int)), (15, .c (bC fb)), (16, iX .i64 ((j : Nat) : Int))], lv [], H⟩) (fun j => (rus d0 b p).length - j) 0 ⟨_, Wk.keep 92 [(6, .c (bC false)), (7, .c (rusC .un (rus d0 b p))), (8, .c (exsC .un (cnj b.wh))), (14, iX .i64 ((i : Nat) : Int)), (15, .c (bC (false))), (16, iX .i64 ((((0 : Nat)) : Nat) : Int))] [] (H) rfl ⟨rfl, rfl, rfl, rfl, rfl, rfl, trivial⟩ trivial (fun _ _ h => h) rfl, false, ⟨Nat.zero_le _, rfl⟩, rfl⟩ (fun j s hs => ?_)
  obtain ⟨fb, ⟨hj0, hfb⟩, rfl⟩ := hs
  refine AW.seq ?_
  refine sR ?_
  refine sM ?_
  refine sM ?_
  refine Z10 Fx.un90 ?_
  refine Z9 ?_
  refine Z4 ?_
  refine AW.condD rfl (fun h71 => ?_) (fun h71 => ?_)
  ·
   have hj : j < (rus d0 b p).length := by rw [List.length_map] at h71; omega
   have hcj := cnj_ok b.wh hw _ (List.getElem_mem hi)
   refine AW.skip ?_
   refine AW.seq ?_
   refine AW.block ?_
   refine AW.seq ?_
   refine AW.draw Fx.mo ?_
   refine Z16 ?_
   refine Z16 ?_
   refine Z24 Fx.sl28 (idx_ex hi) ?_
   refine Z29 (.g [_, _, _, _, _, _, _, _]) Fx.ty30 ?_
   refine Z16 ?_
   refine Z16 ?_
   refine Z24 Fx.sl90 (idx_us hj) ?_
   refine Z29 (.g [_, _, _, _, _, _, _, _, _, _, _]) Fx.ty95 ?_
   refine LexK.q (q_call _ rfl Fx.fn32 rfl (fits_any (cnj b.wh)[i] (rus d0 b p)[j] hcj) rfl) rfl rfl rfl ?_
   refine LexK.q (q_mvT rfl rfl) rfl rfl rfl ?_
   refine LexK.q (q_extract _ rfl rfl rfl) rfl rfl rfl ?_
   refine LexK.q (q_extract _ rfl rfl rfl) rfl rfl rfl ?_
   refine Z34 ?_
   refine Z34 ?_
   refine Z31 ?_
   refine AW.reg ?_
   refine sM ?_
   refine Z52 (fun g87 => ?_) (fun g87 => ?_)
   ·
    refine Z44 ?_
    refine Z5 ?_
    refine sA ?_
    refine Z4 ?_
    refine AW.reg ?_
    refine sM ?_
    refine Z1 ?_
    refine sA ?_
    refine Z4 ?_
    exact ⟨j + 1, _, Wk.keep 92 [(6, .c (bC false)), (7, .c (rusC .un (rus d0 b p))), (8, .c (exsC .un (cnj b.wh))), (14, iX .i64 ((i : Nat) : Int)), (15, .c (bC (true))), (16, iX .i64 (((j + 1) : Nat) : Int))] [] (H) rfl ⟨rfl, rfl, rfl, rfl, rfl, rfl, trivial⟩ trivial (fun _ _ h => h) rfl, by omega, true, ⟨hj, by rw [anyTk hj, ← hfb, g87]; rfl⟩, rfl⟩
   refine Z14 ?_
   refine Z6 ?_
   refine sA ?_
   refine Z4 ?_
   refine AW.reg ?_
   refine sM ?_
   refine Z1 ?_
   refine sA ?_
   refine Z4 ?_
   exact ⟨j + 1, _, Wk.keep 92 [(6, .c (bC false)), (7, .c (rusC .un (rus d0 b p))), (8, .c (exsC .un (cnj b.wh))), (14, iX .i64 ((i : Nat) : Int)), (15, .c (bC ((fit2 (cnj b.wh)[i] (rus d0 b p)[j])))), (16, iX .i64 (((j + 1) : Nat) : Int))] [] (H) rfl ⟨rfl, rfl, rfl, rfl, rfl, rfl, trivial⟩ trivial (fun _ _ h => h) rfl, by omega, (fit2 (cnj b.wh)[i] (rus d0 b p)[j]), ⟨hj, by rw [anyTk hj, ← hfb, g87, Bool.false_or]⟩, rfl⟩
  refine AW.exit ?_
  refine eth_e ?_
  refine eth_e ?_
  refine exit_here ?_
  refine AW.seq ?_
  have hfA : fb = (rus d0 b p).any (fit2 (cnj b.wh)[i]) := by rw [hfb, List.take_of_length_le (by rw [List.length_map] at h71; omega)]
  refine AW.reg ?_
  refine sM ?_
  refine Z33 ?_
  refine Z4 ?_
  refine AW.cond _ rfl (fun h91 => ?_) (fun h91 => ?_)
  ·
   refine sR ?_
   refine sA ?_
   refine Z4 ?_
   refine AW.ret ?_
   exact fin_x (x := .c _) (H) (.tmp rfl .nil) rfl (fun _ _ h => h) (⟨bCe (dF (fun h => by have h9 := h.2.2 i hi; rw [← hfA] at h9; rw [h9] at h91; cases h91)), rfl⟩)
  refine AW.skip ?_
  refine AW.reg ?_
  refine sM ?_
  refine Z1 ?_
  refine sA ?_
  refine Z4 ?_
  exact ⟨i + 1, _, Wk.keep 92 [(6, .c (bC false)), (7, .c (rusC .un (rus d0 b p))), (8, .c (exsC .un (cnj b.wh))), (14, iX .i64 (((i + 1) : Nat) : Int))] [] (H) rfl ⟨rfl, rfl, rfl, rfl, trivial⟩ trivial (fun _ _ h => h) rfl, by omega, ⟨hi, upS (Q := fun j h => (rus d0 b p).any (fit2 (cnj b.wh)[j]) = true) hi hV (by rw [← hfA]; simpa using h91)⟩, rfl⟩
 refine AW.exit ?_
 refine eth_e ?_
 refine eth_e ?_
 refine exit_here ?_
 refine AW.seq ?_
 have hB := upE hV (by rw [List.length_map] at h65; omega)
 refine AW.reg ?_
 refine sA ?_
 refine Z4 ?_
 refine AW.ret ?_
 exact fin_x (x := .c _) (H) (.tmp rfl .nil) rfl (fun _ _ h => h) (⟨bCe (dT ⟨hsh, hA, hB⟩), rfl⟩)

end Go.Proofs.YtihlgigaejhilaaGreat.W
namespace Go.Proofs.YtihlgigaejhilaaGreat.W
open Go.RowKit E
/-! the law of Valid, walked -/
theorem okF.us1 {p : Pl} (h : okF p) : usN 1 p ≤ 100000000 := by
  obtain ⟨d, hd, h⟩ := h
  have h1 := few_us 1 d p h
  have h2 : 4 ^ d ≤ 4 ^ 7 := Nat.pow_le_pow_right (by omega) hd
  have h3 : 410 * 1 * 4 ^ d ≤ 410 * 1 * 4 ^ 7 := Nat.mul_le_mul_left _ h2
  exact Nat.le_trans h1 (Nat.le_trans h3 (by decide))
theorem few_F {p : Pl} (h : fewL p = true) : okF p ∧ filB p = true := by
  rw [fewL, Bool.and_eq_true] at h; exact ⟨⟨7, by omega, h.1⟩, h.2⟩

set_option maxHeartbeats 16000000 in
set_option maxRecDepth 20000 in
theorem planValid_walk (c : Cs) (ho : okC c) (p : Pl) (hp : okP p) : Pure Tryz.prog 3 [csC c, plC p] (.c (bC true)) := by
 intro H
 refine Spec.enter Tryz.func3 rfl ?_
 refine AW.wk (Wk.keep 35 [(0, .c (csC c)), (1, .c (plC p))] [] (H) rfl ⟨rfl, rfl, trivial⟩ trivial (fun _ _ h => h) rfl) ?_
 refine sR ?_
 refine Z18 (r := [_, _, _, _, _, _, _, _, _, _, _]) ?_
 refine Z18 (r := [_, _, _, _, _, _, _, _, _, _, _, _, _]) ?_
 refine sA ?_
 refine Z4 ?_
 refine sR ?_
 refine Z13 (r := .g [_, _, _, _, _, _, _, _, _, _, _]) Fx.ty32 ?_
 refine SeqK.callE rfl rfl rfl rfl Fx.fn6 rfl (bound_any H c ho) (fun _ _ ⟨⟨_, h, _⟩, _⟩ => by rw [h]; rfl) (fun x9 H9 q9 => ?_)
 obtain ⟨⟨b, rfl, hok⟩, hHs⟩ := q9
 replace hHs := hHs.symm
 subst hHs
 refine SeqK.q (q_mvT rfl rfl) rfl rfl rfl ?_
 refine Z46 ?_
 refine Z46 ?_
 refine Z25 (r := [_, _, _, _, _, _, _, _, _, _, _, _, _, _, _, _, _, _, _, _, _, _, _, _, _, _]) Fx.ze51 ?_
 refine Z15 (r := [_, _, _, _, _, _, _, _, _, _, _, _, _, _, _, _, _, _, _, _, _, _, _, _, _, _]) Fx.ty51 ?_
 refine sA ?_
 refine Z4 ?_
 refine AW.seq ?_
 refine sR ?_
 refine SeqK.r (g_call rfl Fx.fn7 rfl (awake_any H) rfl rfl rfl) rfl ?_
 refine Z33 ?_
 refine Z52 (fun g14 => ?_) (fun g14 => ?_)
 ·
  iterate 2 refine SeqK.off rfl rfl rfl rfl rfl rfl ?_
  refine Z5 ?_
  refine sM ?_
  iterate 3 refine SeqK.off rfl rfl rfl rfl rfl rfl ?_
  refine Z5 ?_
  refine Z4 ?_
  refine AW.condT rfl ?_
  refine sR ?_
  refine SeqK.r (g_call rfl Fx.fn7 rfl (awake_any H) rfl rfl rfl) rfl ?_
  refine sA ?_
  refine Z4 ?_
  refine AW.ret ?_
  exact fin_x (x := .c _) (H) (.tmp rfl .nil) rfl (fun _ _ h => h) (⟨by first | rfl | exact bCe (decide_eq_true (decide_eq_decide.2 rv_iff.symm)), rfl⟩)
 refine Z14 ?_
 refine SeqK.on (q_not rfl rfl) rfl rfl rfl rfl rfl ?_
 refine Z6 ?_
 refine Z52 (fun g18 => ?_) (fun g18 => ?_)
 ·
  iterate 3 refine SeqK.off rfl rfl rfl rfl rfl rfl ?_
  refine Z5 ?_
  refine Z4 ?_
  refine AW.condT rfl ?_
  refine sR ?_
  refine SeqK.r (g_call rfl Fx.fn7 rfl (awake_any H) rfl rfl rfl) rfl ?_
  refine sA ?_
  refine Z4 ?_
  refine AW.ret ?_
  exact fin_x (x := .c _) (H) (.tmp rfl .nil) rfl (fun _ _ h => h) (⟨by first | rfl | exact bCe (decide_eq_true (decide_eq_decide.2 rv_iff.symm)), rfl⟩)
 refine Z47 (r := .g [_, _, _, _, _, _, _, _, _, _, _, _, _]) Fx.ty35 ?_
 refine SeqK.on (q_call _ rfl Fx.fn8 rfl (few44_any p hp) rfl) rfl rfl rfl rfl rfl ?_
 refine SeqK.on (q_not rfl rfl) rfl rfl rfl rfl rfl ?_
 refine Z6 ?_
 refine Z4 ?_
 refine AW.cond _ rfl (fun h22 => ?_) (fun h22 => ?_)
 ·
  refine sR ?_
  refine SeqK.r (g_call rfl Fx.fn7 rfl (awake_any H) rfl rfl rfl) rfl ?_
  refine sA ?_
  refine Z4 ?_
  refine AW.ret ?_
  exact fin_x (x := .c _) (H) (.tmp rfl .nil) rfl (fun _ _ h => h) (⟨by first | rfl | exact bCe (decide_eq_true (decide_eq_decide.2 rv_iff.symm)), rfl⟩)
 refine AW.skip ?_
 refine AW.seq ?_
 have hbp : bndP c := nd_f g18
 obtain rfl := hok hbp
 have hbk := bnd_okB ho hbp
 have hcl : (cnj (bdM c).wh).length ≤ 1000 := Nat.le_trans (bin_len 8 c.wh hbp.1.2.2) (by decide)
 have hpr : prB (bdM c).wh = true := bin_pr 8 c.wh hbp.1.2.2
 obtain ⟨hF, hfl⟩ := few_F (by simpa using h22)
 refine AW.draw Fx.mo ?_
 refine Z30 Fx.fl32_0 ?_
 refine Z23 Fx.ty23 ?_
 refine Z49 (r := .g [_, _, _, _, _, _, _, _, _, _, _, _, _, _, _, _, _, _, _, _, _, _, _, _, _, _]) Fx.ty51 ?_
 refine Z49 (r := .g [_, _, _, _, _, _, _, _, _, _, _, _, _]) Fx.ty35 ?_
 refine LexK.r (g_call rfl Fx.fn9 rfl (pvalid_any H c.sch (bdM c) hbk ho.wh hcl p hp hF) rfl rfl rfl) rfl ?_
 refine Z30 Fx.fl32_0 ?_
 refine Z23 Fx.ty23 ?_
 refine Z49 (r := .g [_, _, _, _, _, _, _, _, _, _, _, _, _, _, _, _, _, _, _, _, _, _, _, _, _, _]) Fx.ty51 ?_
 refine Z49 (r := .g [_, _, _, _, _, _, _, _, _, _, _, _, _]) Fx.ty35 ?_
 refine LexK.q (q_call _ rfl Fx.fn10 rfl (rvalid_any44 c.sch .un (bdM c) hbk ho.wh hpr (by omega) p hp hF.src hfl (hF.elim fun d h => ⟨d, h.2⟩) hF.us1) rfl) rfl rfl rfl ?_
 refine LexK.q (q_eqlB rfl Fx.un4 rfl rfl) rfl rfl rfl ?_
 refine Z34 ?_
 refine Z31 ?_
 refine AW.ret ?_
 exact fin_x (x := .c _) (H) (.tmp rfl .nil) rfl (fun _ _ h => h) (⟨by first | rfl | exact bCe (decide_eq_true (decide_eq_decide.2 rv_iff.symm)), rfl⟩)

end Go.Proofs.YtihlgigaejhilaaGreat.W
/- The readers of the laws' arguments: data to trees. -/
namespace Go.Proofs.YtihlgigaejhilaaGreat.W
open Go.RowKit E
theorem rd30 (N : Nat) : Reads Tryz.prog N 30 8 exT' okE := by
  induction N using Nat.strongRecOn with
  | ind N ih =>
    exact (Reads.struct Tryz.underlying30 (ReadsF.cons rfl (by kernel_rfl) (fun _ _ => Reads.int Tryz.underlying3) (ReadsF.cons rfl (by kernel_rfl) (fun _ _ => Reads.string Tryz.underlying9) (ReadsF.cons rfl (by kernel_rfl) (fun _ _ => Reads.string Tryz.underlying9) (ReadsF.cons rfl (by kernel_rfl) (fun _ _ => Reads.int Tryz.underlying3) (ReadsF.cons rfl (by kernel_rfl) (fun _ _ => Reads.struct Tryz.underlying27 (ReadsF.cons rfl (by kernel_rfl) (fun _ _ => Reads.int Tryz.underlying3) (ReadsF.cons rfl (by kernel_rfl) (fun _ _ => Reads.int Tryz.underlying2) (ReadsF.cons rfl (by kernel_rfl) (fun _ _ => Reads.string Tryz.underlying9) .nil)))) (ReadsF.cons rfl (by kernel_rfl) (fun M2 hM2 => Reads.slice Tryz.underlying28 (by kernel_rfl) (by decide) (fun M3 hM3 => ih M3 (by omega))) .nil))))))).conv
        (fun p => Ex.mk p.1 p.2.1 p.2.2.1 p.2.2.2.1 p.2.2.2.2.1.1 p.2.2.2.2.1.2.1 p.2.2.2.2.1.2.2.1 p.2.2.2.2.2.1) (fun p _ => by rw [exT_eq]; rfl) (fun p h => by
          obtain ⟨h1, h2, h3, h4, h5, h6, _⟩ := h
          rw [okE_iff]
          refine ⟨⟨?_, ?_, ?_, ?_⟩, h6.2.2⟩
          · show p.2.1.size ≤ _; omega
          · show p.2.2.1.size ≤ _; omega
          · have := h5.2.2.1; show p.2.2.2.2.1.2.2.1.size ≤ _; omega
          · have := h6.1
            rw [show Tryz.prog.bytesOf 30 = 104 from by kernel_rfl] at this
            show p.2.2.2.2.2.1.length ≤ _; omega)
abbrev ok119 (s : Co) : Prop := (fun s : ByteArray => s.size ≤ 140737488351232) s.nm ∧ (fun i : Int => (Lit.int .i64 i).wf = true) s.ty ∧ (fun i : Int => (Lit.int .i64 i).wf = true) s.lo ∧ (fun i : Int => (Lit.int .i64 i).wf = true) s.hi ∧ (fun i : Int => (Lit.int .i64 i).wf = true) s.mx ∧ (fun _ : Bool => True) s.nn ∧ True
theorem rd119 (N : Nat) : Reads Tryz.prog N 119 6 coT ok119 :=
  (Reads.struct Tryz.underlying119 (ReadsF.cons rfl (by kernel_rfl) (fun M _ => (Reads.string Tryz.underlying9)) (ReadsF.cons rfl (by kernel_rfl) (fun M _ => (Reads.int Tryz.underlying3)) (ReadsF.cons rfl (by kernel_rfl) (fun M _ => (Reads.int Tryz.underlying2)) (ReadsF.cons rfl (by kernel_rfl) (fun M _ => (Reads.int Tryz.underlying2)) (ReadsF.cons rfl (by kernel_rfl) (fun M _ => (Reads.int Tryz.underlying3)) (ReadsF.cons rfl (by kernel_rfl) (fun M _ => (Reads.bool Tryz.underlying4)) .nil))))))).conv (fun p => (⟨p.1, p.2.1, p.2.2.1, p.2.2.2.1, p.2.2.2.2.1, p.2.2.2.2.2.1⟩ : Co)) (fun _ _ => rfl) (fun _ h => h)
abbrev ok36 (l : List Co) : Prop := l.length * 56 ≤ 140737488351232 ∧ l.length ≤ maxLen ∧ ∀ x ∈ l, ok119 x
theorem rd36 (N : Nat) : Reads Tryz.prog N 36 1 (fun x : List Co => ([.sl .un 6 (x.map coT)] : List T)) ok36 :=
  (Reads.slice Tryz.underlying36 (by kernel_rfl) (by decide) (fun M _ => (rd119 M))).conv id (fun _ _ => rfl) (fun _ h => by rw [show Tryz.prog.bytesOf 119 = 56 from by kernel_rfl] at h; exact h)
abbrev ok24 (l : List Int) : Prop := l.length * 8 ≤ 140737488351232 ∧ l.length ≤ maxLen ∧ ∀ x ∈ l, (fun i : Int => (Lit.int .i64 i).wf = true) x
theorem rd24 (N : Nat) : Reads Tryz.prog N 24 1 (fun x : List Int => ([.sl .un 1 (x.map (fun x : Int => ([.v (.int .i64 x)] : List T)))] : List T)) ok24 :=
  (Reads.slice Tryz.underlying24 (by kernel_rfl) (by decide) (fun M _ => (Reads.int Tryz.underlying3))).conv id (fun _ _ => rfl) (fun _ h => by rw [show Tryz.prog.bytesOf 3 = 8 from by kernel_rfl] at h; exact h)
abbrev ok69 (l : List (List Int)) : Prop := l.length * 24 ≤ 140737488351232 ∧ l.length ≤ maxLen ∧ ∀ x ∈ l, ok24 x
theorem rd69 (N : Nat) : Reads Tryz.prog N 69 1 (fun x : List (List Int) => ([.sl .un 1 (x.map (fun x : List Int => ([.sl .un 1 (x.map (fun x : Int => ([.v (.int .i64 x)] : List T)))] : List T)))] : List T)) ok69 :=
  (Reads.slice Tryz.underlying69 (by kernel_rfl) (by decide) (fun M _ => (rd24 M))).conv id (fun _ _ => rfl) (fun _ h => by rw [show Tryz.prog.bytesOf 24 = 24 from by kernel_rfl] at h; exact h)
abbrev ok112 (s : Fk) : Prop := ok24 s.cols ∧ (fun i : Int => (Lit.int .i64 i).wf = true) s.tab ∧ (fun i : Int => (Lit.int .i64 i).wf = true) s.key ∧ True
theorem rd112 (N : Nat) : Reads Tryz.prog N 112 3 fkT ok112 :=
  (Reads.struct Tryz.underlying112 (ReadsF.cons rfl (by kernel_rfl) (fun M _ => (rd24 M)) (ReadsF.cons rfl (by kernel_rfl) (fun M _ => (Reads.int Tryz.underlying3)) (ReadsF.cons rfl (by kernel_rfl) (fun M _ => (Reads.int Tryz.underlying3)) .nil)))).conv (fun p => (⟨p.1, p.2.1, p.2.2.1⟩ : Fk)) (fun _ _ => rfl) (fun _ h => h)
abbrev ok70 (l : List Fk) : Prop := l.length * 40 ≤ 140737488351232 ∧ l.length ≤ maxLen ∧ ∀ x ∈ l, ok112 x
theorem rd70 (N : Nat) : Reads Tryz.prog N 70 1 (fun x : List Fk => ([.sl .un 3 (x.map fkT)] : List T)) ok70 :=
  (Reads.slice Tryz.underlying70 (by kernel_rfl) (by decide) (fun M _ => (rd112 M))).conv id (fun _ _ => rfl) (fun _ h => by rw [show Tryz.prog.bytesOf 112 = 40 from by kernel_rfl] at h; exact h)
abbrev ok28 (l : List Ex) : Prop := l.length * 104 ≤ 140737488351232 ∧ l.length ≤ maxLen ∧ ∀ x ∈ l, okE x
theorem rd28 (N : Nat) : Reads Tryz.prog N 28 1 (fun x : List Ex => ([.sl .un 8 (x.map exT')] : List T)) ok28 :=
  (Reads.slice Tryz.underlying28 (by kernel_rfl) (by decide) (fun M _ => (rd30 M))).conv id (fun _ _ => rfl) (fun _ h => by rw [show Tryz.prog.bytesOf 30 = 104 from by kernel_rfl] at h; exact h)
theorem rd72 (N : Nat) : Reads Tryz.prog N 72 5 tbT okT :=
  (Reads.struct Tryz.underlying72 (ReadsF.cons rfl (by kernel_rfl) (fun M _ => (Reads.string Tryz.underlying9)) (ReadsF.cons rfl (by kernel_rfl) (fun M _ => (rd36 M)) (ReadsF.cons rfl (by kernel_rfl) (fun M _ => (rd69 M)) (ReadsF.cons rfl (by kernel_rfl) (fun M _ => (rd70 M)) (ReadsF.cons rfl (by kernel_rfl) (fun M _ => (rd28 M)) .nil)))))).conv (fun p => (⟨p.1, p.2.1, p.2.2.1, p.2.2.2.1, p.2.2.2.2.1⟩ : Tb)) (fun _ _ => rfl) (fun p h => by
    obtain ⟨h1, h2, h3, h4, h5, _⟩ := h
    refine ⟨?_, ?_, fun c hc => ?_, ?_, fun k hk => ?_, ?_, fun f hf => ?_, ?_, h5.2.2⟩
    · show p.1.size ≤ _; omega
    · have := h2.1; show p.2.1.length ≤ _; omega
    · have := (h2.2.2 c hc).1; show c.nm.size ≤ _; omega
    · have := h3.1; show p.2.2.1.length ≤ _; omega
    · have := (h3.2.2 k hk).1; omega
    · have := h4.1; show p.2.2.2.1.length ≤ _; omega
    · have := (h4.2.2 f hf).1.1; omega
    · have := h5.1; show p.2.2.2.2.1.length ≤ _; omega)
theorem rdp35 (N : Nat) : Reads Tryz.prog N 35 13 plT' okP := by
  induction N using Nat.strongRecOn with
  | ind N ih =>
    exact (Reads.struct Tryz.underlying35 (ReadsF.cons rfl (by kernel_rfl) (fun M _ => (Reads.int Tryz.underlying3)) (ReadsF.cons rfl (by kernel_rfl) (fun M _ => (Reads.int Tryz.underlying3)) (ReadsF.cons rfl (by kernel_rfl) (fun M _ => (rd24 M)) (ReadsF.cons rfl (by kernel_rfl) (fun M _ => (rd28 M)) (ReadsF.cons rfl (by kernel_rfl) (fun M _ => (rd30 M)) (ReadsF.cons rfl (by kernel_rfl) (fun M2 hM2 => Reads.slice Tryz.underlying33 (by kernel_rfl) (by decide) (fun M3 hM3 => ih M3 (by omega))) .nil))))))).conv
        (fun p => Pl.mk p.1 p.2.1 p.2.2.1 p.2.2.2.1 p.2.2.2.2.1 p.2.2.2.2.2.1) (fun p _ => by
          show _ = [_] ++ ([_] ++ ([_] ++ ([_] ++ (exT' p.2.2.2.2.1 ++ ([E.T.sl .un 13 (p.2.2.2.2.2.1.map plT')] ++ [])))))
          rw [plT_eq, exT_eq]; rfl) (fun p h => by
          obtain ⟨h1, h2, h3, h4, h5, h6, _⟩ := h
          rw [okP_iff]
          refine ⟨⟨?_, ?_, ?_, h5, h4.2.2⟩, h6.2.2⟩
          · have := h3.1; show p.2.2.1.length ≤ _; omega
          · have := h4.1; show p.2.2.2.1.length ≤ _; omega
          · have := h6.1
            rw [show Tryz.prog.bytesOf 35 = 192 from by kernel_rfl] at this
            show p.2.2.2.2.2.1.length ≤ _; omega)
theorem rd35 (N : Nat) : Reads Tryz.prog N 35 13 (fun p : Pl => plL p) okP := (rdp35 N).conv id (fun x _ => (plT_eq x).symm) (fun _ h => h)
abbrev ok23 (l : List Tb) : Prop := l.length * 112 ≤ 140737488351232 ∧ l.length ≤ maxLen ∧ ∀ x ∈ l, okT x
theorem rd23 (N : Nat) : Reads Tryz.prog N 23 1 (fun x : List Tb => ([.sl .un 5 (x.map tbT)] : List T)) ok23 :=
  (Reads.slice Tryz.underlying23 (by kernel_rfl) (by decide) (fun M _ => (rd72 M))).conv id (fun _ _ => rfl) (fun _ h => by rw [show Tryz.prog.bytesOf 72 = 112 from by kernel_rfl] at h; exact h)
abbrev ok25 (l : List ByteArray) : Prop := l.length * 16 ≤ 140737488351232 ∧ l.length ≤ maxLen ∧ ∀ x ∈ l, (fun s : ByteArray => s.size ≤ 140737488351232) x
theorem rd25 (N : Nat) : Reads Tryz.prog N 25 1 (fun x : List ByteArray => ([.sl .un 1 (x.map (fun x : ByteArray => ([.v (.string x)] : List T)))] : List T)) ok25 :=
  (Reads.slice Tryz.underlying25 (by kernel_rfl) (by decide) (fun M _ => (Reads.string Tryz.underlying9))).conv id (fun _ _ => rfl) (fun _ h => by rw [show Tryz.prog.bytesOf 9 = 16 from by kernel_rfl] at h; exact h)
abbrev csL (c : Cs) : List E.T := [.sl .un 5 (c.sch.map tbT), .sl .un 1 (c.frm.map i64T), .sl .un 1 (c.al.map sT)] ++ exL c.wh
theorem rd32 (N : Nat) : Reads Tryz.prog N 32 11 csL okC :=
  (Reads.struct Tryz.underlying32 (ReadsF.cons rfl (by kernel_rfl) (fun M _ => (rd23 M)) (ReadsF.cons rfl (by kernel_rfl) (fun M _ => (rd24 M)) (ReadsF.cons rfl (by kernel_rfl) (fun M _ => (rd25 M)) (ReadsF.cons rfl (by kernel_rfl) (fun M _ => (rd30 M)) .nil))))).conv (fun p => (⟨p.1, p.2.1, p.2.2.1, p.2.2.2.1⟩ : Cs)) (fun p _ => by
    show _ = [_] ++ ([_] ++ ([_] ++ (exT' p.2.2.2.1 ++ [])))
    rw [exT_eq]; rfl) (fun p h => by
    obtain ⟨h1, h2, h3, h4, _⟩ := h
    refine ⟨?_, h1.2.2, ?_, ?_, fun s hs => ?_, h4⟩
    · have := h1.1; show p.1.length ≤ _; omega
    · have := h2.1; show p.2.1.length ≤ _; omega
    · have := h3.1; show p.2.2.1.length ≤ _; omega
    · have := h3.2.2 s hs; omega)
end Go.Proofs.YtihlgigaejhilaaGreat.W
