import Derived.Test.YtnnoafgdjjpidaaGreatDoorM23
set_option maxRecDepth 20000
set_option maxHeartbeats 16000000
set_option linter.unusedSectionVars false
set_option linter.unusedSimpArgs false
set_option linter.unusedVariables false
namespace Go.Proofs.YtnnoafgdjjpidaaGreatDoor.W
open Go.RowKit E M
theorem at_any (r : List RV) (z : Nz) (v : Int) (hv0 : 0 ≤ v) (hL : r.length ≤ 1000000000000000000) : Pure Tryz.prog 52 [rowC z r, iC v] (.c (rvC (atR r v))) := by
 intro H
 refine Spec.enter Tryz.func52 rfl ?_
 refine AW.wk (Wk.keep 14 [(0, .c (rowC z r)), (1, .c (iC v))] [] (H) rfl ⟨rfl, rfl, trivial⟩ trivial (fun _ _ h => h) rfl) ?_
 refine sR (Z16 (r := [_, _, _]) Fx.ze23 ?_)
 refine Z7 (AW.seq (sR (sM ?_)))
 refine sM ?_
 refine Z22 Fx.un45 ?_
 refine Z30 ?_
 refine Z7 ?_
 refine cD ?_ ?_ <;> intro h8
 ·
  have hv : v.toNat < r.length := by rw [List.length_map] at *; omega
  have hg : atR r v = r[v.toNat] := by simp [atR, List.getD_eq_getElem?_getD, List.getElem?_eq_getElem hv]
  refine sR (sM ?_)
  refine sM ?_
  refine Z24 Fx.sl45 (idx_map (f := rvT) hv) ?_
  refine Z28 (.g [_, _, _]) Fx.ty23 ?_
  refine Z2 (r := [_, _, _]) Fx.ty23 ?_
  refine Z7 (AW.ret ?_)
  exact f1 (.cellL rfl rfl Fx.ty23 rfl rfl .nil) (⟨by rw [hg]; rfl, rfl⟩)
 have hg : atR r v = ⟨0, 0, ⟨#[]⟩⟩ := by rw [atR, List.getD_eq_getElem?_getD, List.getElem?_eq_none (by rw [List.length_map] at h8; omega)]; rfl
 refine AW.skip (sR (Z11 (zs := [_, _, _]) (r := [_, _, _]) [(0, 1), (1, 1), (2, 1)] Fx.ze23 Fx.bp23 ?_))
 refine Z2 (r := [_, _, _]) Fx.ty23 ?_
 refine Z7 (AW.ret ?_)
 exact f1 (.cellL rfl rfl Fx.ty23 rfl rfl .nil) (⟨by rw [hg]; rfl, rfl⟩)
theorem neB {a b : Bool} : decide (a ≠ b) = (a != b) := by cases a <;> cases b <;> rfl
theorem eqB {a b : Bool} : decide (a = b) = (a == b) := by cases a <;> cases b <;> rfl
theorem psX0 {k : Int} {t s : ByteArray} (h : k = 0) : psB strLt lkS k t s = decide (s = t) := by rw [psB, if_pos h]
theorem psX1 {k : Int} {t s : ByteArray} (h0 : ¬ k = 0) (h : k = 1) : psB strLt lkS k t s = lkS s t := by rw [psB, if_neg h0, if_pos h]
theorem psX2 {k : Int} {t s : ByteArray} (h0 : ¬ k = 0) (h1 : ¬ k = 1) (h : k = 2) : psB strLt lkS k t s = strLt s t := by rw [psB, if_neg h0, if_neg h1, if_pos h]
theorem psX3 {k : Int} {t s : ByteArray} (h0 : ¬ k = 0) (h1 : ¬ k = 1) (h2 : ¬ k = 2) (h : k = 3) : psB strLt lkS k t s = (strLt s t || decide (s = t)) := by rw [psB, if_neg h0, if_neg h1, if_neg h2, if_pos h]
theorem psX4 {k : Int} {t s : ByteArray} (h0 : ¬ k = 0) (h1 : ¬ k = 1) (h2 : ¬ k = 2) (h : ¬ k = 3) : psB strLt lkS k t s = false := by rw [psB, if_neg h0, if_neg h1, if_neg h2, if_neg h]
theorem passes_any (k : Int) (n : Bool) (t u : ByteArray) (hu : u.size ≤ 1000000000000000) (ht : t.size ≤ 1000000) : Pure Tryz.prog 53 [tsC k n t, sC u] (.c (bC (psB strLt lkS k t u != n))) := by
 intro H
 refine Spec.enter Tryz.func53 rfl ?_
 refine AW.wk (Wk.keep 36 [(0, .c (tsC k n t)), (1, .c (sC u))] [] (H) rfl ⟨rfl, rfl, trivial⟩ trivial (fun _ _ h => h) rfl) ?_
 refine sR (Z20 (r := [_, _, _, _]) ?_)
 refine sB ?_
 refine sR (sB ?_)
 refine AW.seq (sR (Z1 Fx.fl34_1 ?_))
 refine Z0 Fx.ty3 ?_
 refine Z7 (AW.block (sR (Z9 ?_)))
 refine sB ?_
 refine cD ?_ ?_ <;> intro h8
 ·
  refine AW.reg (sM ?_)
  refine Z1 Fx.fl34_3 ?_
  refine Z0 Fx.ty9 ?_
  refine SeqK.q (q_eqlS rfl rfl rfl) rfl rfl rfl ?_
  refine sB ?_
  refine sR (sM ?_)
  refine Z1 Fx.fl34_2 ?_
  refine Z0 Fx.ty4 ?_
  refine SeqK.q (q_neqB rfl Fx.un4 rfl rfl) rfl rfl rfl ?_
  refine sB ?_
  exact aR (f1 (q := ⟨bCe (neB.trans (by first | rw [psX0 (by assumption)] | rw [psX1 (by assumption) (by assumption)] | rw [psX2 (by assumption) (by assumption) (by assumption)] | rw [psX3 (by assumption) (by assumption) (by assumption) (by assumption)] | rw [psX4 (by assumption) (by assumption) (by assumption) (by assumption)])), rfl⟩))
 refine sR (Z9 ?_)
 refine sB ?_
 refine cD ?_ ?_ <;> intro h14
 ·
  refine AW.reg (sM ?_)
  refine Z1 Fx.fl34_3 ?_
  refine Z0 Fx.ty9 ?_
  refine Z12 Fx.fn80 (D.evlike_any _ _ hu ht) ?_
  refine sB ?_
  refine sR (sM ?_)
  refine Z1 Fx.fl34_2 ?_
  refine Z0 Fx.ty4 ?_
  refine SeqK.q (q_neqB rfl Fx.un4 rfl rfl) rfl rfl rfl ?_
  refine sB ?_
  exact aR (f1 (q := ⟨bCe (neB.trans (by first | rw [psX0 (by assumption)] | rw [psX1 (by assumption) (by assumption)] | rw [psX2 (by assumption) (by assumption) (by assumption)] | rw [psX3 (by assumption) (by assumption) (by assumption) (by assumption)] | rw [psX4 (by assumption) (by assumption) (by assumption) (by assumption)])), rfl⟩))
 refine sR (Z9 ?_)
 refine sB ?_
 refine cD ?_ ?_ <;> intro h20
 ·
  refine AW.reg (sM ?_)
  refine Z1 Fx.fl34_3 ?_
  refine Z0 Fx.ty9 ?_
  refine SeqK.q (q_lssS rfl rfl rfl) rfl rfl rfl ?_
  refine sB ?_
  refine sR (sM ?_)
  refine Z1 Fx.fl34_2 ?_
  refine Z0 Fx.ty4 ?_
  refine SeqK.q (q_neqB rfl Fx.un4 rfl rfl) rfl rfl rfl ?_
  refine sB ?_
  exact aR (f1 (q := ⟨bCe (neB.trans (by first | rw [psX0 (by assumption)] | rw [psX1 (by assumption) (by assumption)] | rw [psX2 (by assumption) (by assumption) (by assumption)] | rw [psX3 (by assumption) (by assumption) (by assumption) (by assumption)] | rw [psX4 (by assumption) (by assumption) (by assumption) (by assumption)])), rfl⟩))
 refine sR (Z9 ?_)
 refine sB ?_
 refine cD ?_ ?_ <;> intro h26
 ·
  refine AW.reg (sM ?_)
  refine Z1 Fx.fl34_3 ?_
  refine Z0 Fx.ty9 ?_
  refine SeqK.q (q_leqS rfl rfl rfl) rfl rfl rfl ?_
  refine sB ?_
  refine sR (sM ?_)
  refine Z1 Fx.fl34_2 ?_
  refine Z0 Fx.ty4 ?_
  refine SeqK.q (q_neqB rfl Fx.un4 rfl rfl) rfl rfl rfl ?_
  refine sB ?_
  exact aR (f1 (q := ⟨bCe (neB.trans (by first | rw [psX0 (by assumption)] | rw [psX1 (by assumption) (by assumption)] | rw [psX2 (by assumption) (by assumption) (by assumption)] | rw [psX3 (by assumption) (by assumption) (by assumption) (by assumption)] | rw [psX4 (by assumption) (by assumption) (by assumption) (by assumption)])), rfl⟩))
 refine AW.skip (sR (sM ?_))
 refine Z1 Fx.fl34_2 ?_
 refine Z0 Fx.ty4 ?_
 refine SeqK.q (q_neqB rfl Fx.un4 rfl rfl) rfl rfl rfl ?_
 refine sB ?_
 exact aR (f1 (q := ⟨bCe (neB.trans (by first | rw [psX0 (by assumption)] | rw [psX1 (by assumption) (by assumption)] | rw [psX2 (by assumption) (by assumption) (by assumption)] | rw [psX3 (by assumption) (by assumption) (by assumption) (by assumption)] | rw [psX4 (by assumption) (by assumption) (by assumption) (by assumption)])), rfl⟩))
section
variable {lt lk : ByteArray → ByteArray → Bool} {r : List RV} {a : At}
theorem haX0 (h : a.k = 0) : haB lt lk r a = decide ((atR r a.v).k = 0) := by rw [haB, if_pos h]
theorem haX1 (h : a.k = 1) : haB lt lk r a = decide ((atR r a.v).k ≠ 0) := by rw [haB, if_neg (by omega), if_pos h]
theorem haX5 (h : a.k = 5) : haB lt lk r a = (decide ((atR r a.v).k = 2) && (psB lt lk a.tk a.ts (atR r a.v).s != a.tn)) := by rw [haB, if_neg (by omega), if_neg (by omega), if_pos h]
theorem haX6 (h : a.k = 6 ∨ a.k = 7) : haB lt lk r a = (decide ((atR r a.v).k = 2) && decide ((atR r a.o).k = 2) && (decide ((atR r a.v).s = (atR r a.o).s) == decide (a.k = 6))) := by rw [haB, if_neg (by omega), if_neg (by omega), if_neg (by omega), if_pos h]
theorem haX2 (h : a.k = 2) : haB lt lk r a = ((valT r a.t).2 && decide ((valT r a.t).1 ≤ 0)) := by rw [haB, if_neg (by omega), if_neg (by omega), if_neg (by omega), if_neg (by omega), if_pos h]
theorem haX3 (h : a.k = 3) : haB lt lk r a = ((valT r a.t).2 && decide ((valT r a.t).1 = 0)) := by rw [haB, if_neg (by omega), if_neg (by omega), if_neg (by omega), if_neg (by omega), if_neg (by omega), if_pos h]
theorem haX4 (h : a.k = 4) : haB lt lk r a = ((valT r a.t).2 && decide ((valT r a.t).1 ≠ 0)) := by rw [haB, if_neg (by omega), if_neg (by omega), if_neg (by omega), if_neg (by omega), if_neg (by omega), if_neg (by omega)]
end
theorem av_v {l : List Vr} {a : At} (h : avP l a) : 0 ≤ a.v := by
  by_cases h0 : a.k = 0 ∨ a.k = 1
  · exact (av01 h0 h).1.1
  · by_cases h1 : a.k = 2 ∨ a.k = 3 ∨ a.k = 4
    · rw [(av234 h1 h).1]; exact Int.le_refl _
    · by_cases h2 : a.k = 5
      · exact (htB_rng (av5 h2 h).1).1
      · by_cases h3 : a.k = 6 ∨ a.k = 7
        · exact (htB_rng (av67 h3 h).1).1
        · exact (av_no h0 h1 h2 h3 h).elim
theorem holdsA_any (a : At) (r : List RV) (z : Nz) (l : List Vr) (hL : r.length ≤ 1000000000000000000) (hr : rowR r) (hav : avP l a) (hc : a.t.cnt ≤ 100000) : Pure Tryz.prog 28 [atC a, rowC z r] (.c (bC (haB strLt lkS r a))) := by
 have hv0 := av_v hav
 intro H
 refine Spec.enter Tryz.func28 rfl ?_
 refine AW.wk (Wk.keep 91 [(0, .c (atC a)), (1, .c (rowC z r))] [] (H) rfl ⟨rfl, rfl, trivial⟩ trivial (fun _ _ h => h) rfl) ?_
 refine sR (Z20 (r := [_, _, _, _, _, _, _, _, _]) ?_)
 refine sB ?_
 refine sR (sM ?_)
 refine Z1 Fx.fl36_1 ?_
 refine Z0 Fx.ty3 ?_
 refine SeqK.q (q_call _ rfl Fx.fn52 rfl (at_any r z _ (by assumption) hL) rfl) rfl rfl rfl ?_
 refine Z16 (r := [_, _, _]) Fx.ze23 ?_
 refine Z2 (r := [_, _, _]) Fx.ty23 ?_
 refine Z7 (AW.seq (sR (Z1 Fx.fl36_0 ?_)))
 refine Z0 Fx.ty3 ?_
 refine Z7 (AW.block (sR (Z9 ?_)))
 refine sB ?_
 refine cD ?_ ?_ <;> intro h15
 ·
  refine sR (Z1 Fx.fl23_0 ?_)
  refine Z0 Fx.ty3 ?_
  refine Z9 ?_
  refine sB ?_
  exact aR (f1 (q := ⟨bCe (by rw [haX0 (by assumption)]), rfl⟩))
 refine sR (Z9 ?_)
 refine sB ?_
 refine cD ?_ ?_ <;> intro h20
 ·
  refine sR (Z1 Fx.fl23_0 ?_)
  refine Z0 Fx.ty3 ?_
  refine Z26 ?_
  refine sB ?_
  exact aR (f1 (q := ⟨bCe (by rw [haX1 (by assumption)]), rfl⟩))
 refine sR (Z9 ?_)
 refine sB ?_
 refine cD ?_ ?_ <;> intro h25
 ·
  refine AW.seq ?_
  obtain ⟨_, _, _, htk, htv, htx⟩ := av5 (by omega) hav
  have hpas : Pure Tryz.prog 53 [.g [.t (.v (.int .i64 a.tv)), .t (.v (.int .i64 a.tk)), .t (.v (.bool a.tn)), .t (.v (.string a.ts))], sC (atR r a.v).s] (.c (bC (psB strLt lkS a.tk a.ts (atR r a.v).s != a.tn))) := by rw [htv]; exact passes_any a.tk a.tn a.ts _ (by have := (atR_ok hr a.v).2; omega) (by have := htx.2; omega)
  refine AW.reg (Z1 Fx.fl23_0 ?_)
  refine Z0 Fx.ty3 ?_
  refine Z9 ?_
  refine Z17 ?_ ?_ <;> intro g30
  ·
   refine Z5 Fx.fl36_4 ?_
   refine Z25 (r := .g [_, _, _, _]) Fx.ty34 ?_
   refine Z5 Fx.fl23_2 ?_
   refine Z3 Fx.ty9 ?_
   refine Z35 Fx.fn53 (hpas) ?_
   refine Z8 ?_
   refine sB ?_
   exact aR (f1 (q := ⟨bCe (by rw [haX5 (by assumption)]; first | (rw [decide_eq_true g30]; rfl) | (rw [decide_eq_false g30]; rfl)), rfl⟩))
  iterate 5 refine oF ?_
  refine Z4 ?_
  refine sB ?_
  exact aR (f1 (q := ⟨bCe (by rw [haX5 (by assumption)]; first | (rw [decide_eq_true g30]; rfl) | (rw [decide_eq_false g30]; rfl)), rfl⟩))
 refine AW.seq (sR (Z9 ?_))
 refine sB ?_
 refine cD ?_ ?_ <;> intro h37
 ·
  refine AW.skip ?_
  refine AW.condD rfl (fun _ => ?_) (fun hq => absurd h37 hq)
  refine AW.seq ?_
  have k67 : a.k = 6 ∨ a.k = 7 := by omega
  have ho0 : 0 ≤ a.o := (htB_rng (av67 k67 hav).2.1).1
  refine AW.reg (sM ?_)
  refine Z1 Fx.fl36_2 ?_
  refine Z0 Fx.ty3 ?_
  refine SeqK.q (q_call _ rfl Fx.fn52 rfl (at_any r z _ (by assumption) hL) rfl) rfl rfl rfl ?_
  refine Z16 (r := [_, _, _]) Fx.ze23 ?_
  refine Z2 (r := [_, _, _]) Fx.ty23 ?_
  refine Z7 (sR (Z1 Fx.fl23_0 ?_))
  refine Z0 Fx.ty3 ?_
  refine Z9 ?_
  refine Z17 ?_ ?_ <;> intro g47
  ·
   refine Z5 Fx.fl23_0 ?_
   refine Z3 Fx.ty3 ?_
   refine Z21 ?_
   refine Z8 ?_
   refine Z17 ?_ ?_ <;> intro g52
   ·
    refine Z5 Fx.fl23_2 ?_
    refine Z3 Fx.ty9 ?_
    refine Z5 Fx.fl23_2 ?_
    refine Z3 Fx.ty9 ?_
    refine SeqK.on (q_eqlS rfl rfl rfl) rfl rfl rfl rfl rfl ?_
    refine Z5 Fx.fl36_0 ?_
    refine Z3 Fx.ty3 ?_
    refine Z21 ?_
    refine SeqK.on (q_eqlB rfl Fx.un4 rfl rfl) rfl rfl rfl rfl rfl ?_
    refine Z8 ?_
    refine sB ?_
    exact aR (f1 (q := ⟨bCe (by rw [haX6 k67]; first | (rw [decide_eq_true g47, decide_eq_true g52]; exact eqB) | (rw [decide_eq_true g47, decide_eq_false g52]; rfl) | (rw [decide_eq_false g47]; rfl)), rfl⟩))
   iterate 9 refine oF ?_
   refine Z4 ?_
   refine sB ?_
   exact aR (f1 (q := ⟨bCe (by rw [haX6 k67]; first | (rw [decide_eq_true g47, decide_eq_true g52]; exact eqB) | (rw [decide_eq_true g47, decide_eq_false g52]; rfl) | (rw [decide_eq_false g47]; rfl)), rfl⟩))
  iterate 3 refine oF ?_
  refine Z4 ?_
  refine sM ?_
  iterate 9 refine oF ?_
  refine Z4 ?_
  refine sB ?_
  exact aR (f1 (q := ⟨bCe (by rw [haX6 k67]; first | (rw [decide_eq_true g47, decide_eq_true g52]; exact eqB) | (rw [decide_eq_true g47, decide_eq_false g52]; rfl) | (rw [decide_eq_false g47]; rfl)), rfl⟩))
 refine AW.reg (Z9 ?_)
 refine sB ?_
 refine cD ?_ ?_ <;> intro h37
 ·
  refine AW.seq ?_
  have k67 : a.k = 6 ∨ a.k = 7 := by omega
  have ho0 : 0 ≤ a.o := (htB_rng (av67 k67 hav).2.1).1
  refine AW.reg (sM ?_)
  refine Z1 Fx.fl36_2 ?_
  refine Z0 Fx.ty3 ?_
  refine SeqK.q (q_call _ rfl Fx.fn52 rfl (at_any r z _ (by assumption) hL) rfl) rfl rfl rfl ?_
  refine Z16 (r := [_, _, _]) Fx.ze23 ?_
  refine Z2 (r := [_, _, _]) Fx.ty23 ?_
  refine Z7 (sR (Z1 Fx.fl23_0 ?_))
  refine Z0 Fx.ty3 ?_
  refine Z9 ?_
  refine Z17 ?_ ?_ <;> intro g47
  ·
   refine Z5 Fx.fl23_0 ?_
   refine Z3 Fx.ty3 ?_
   refine Z21 ?_
   refine Z8 ?_
   refine Z17 ?_ ?_ <;> intro g52
   ·
    refine Z5 Fx.fl23_2 ?_
    refine Z3 Fx.ty9 ?_
    refine Z5 Fx.fl23_2 ?_
    refine Z3 Fx.ty9 ?_
    refine SeqK.on (q_eqlS rfl rfl rfl) rfl rfl rfl rfl rfl ?_
    refine Z5 Fx.fl36_0 ?_
    refine Z3 Fx.ty3 ?_
    refine Z21 ?_
    refine SeqK.on (q_eqlB rfl Fx.un4 rfl rfl) rfl rfl rfl rfl rfl ?_
    refine Z8 ?_
    refine sB ?_
    exact aR (f1 (q := ⟨bCe (by rw [haX6 k67]; first | (rw [decide_eq_true g47, decide_eq_true g52]; exact eqB) | (rw [decide_eq_true g47, decide_eq_false g52]; rfl) | (rw [decide_eq_false g47]; rfl)), rfl⟩))
   iterate 9 refine oF ?_
   refine Z4 ?_
   refine sB ?_
   exact aR (f1 (q := ⟨bCe (by rw [haX6 k67]; first | (rw [decide_eq_true g47, decide_eq_true g52]; exact eqB) | (rw [decide_eq_true g47, decide_eq_false g52]; rfl) | (rw [decide_eq_false g47]; rfl)), rfl⟩))
  iterate 3 refine oF ?_
  refine Z4 ?_
  refine sM ?_
  iterate 9 refine oF ?_
  refine Z4 ?_
  refine sB ?_
  exact aR (f1 (q := ⟨bCe (by rw [haX6 k67]; first | (rw [decide_eq_true g47, decide_eq_true g52]; exact eqB) | (rw [decide_eq_true g47, decide_eq_false g52]; rfl) | (rw [decide_eq_false g47]; rfl)), rfl⟩))
 refine AW.skip (AW.seq ?_)
 have k234 : a.k = 2 ∨ a.k = 3 ∨ a.k = 4 := Classical.byContradiction fun k => av_no (by omega) k (by omega) (by omega) hav
 have hvv := (av234 k234 hav).2.2.2.1
 refine AW.reg (Z1 Fx.fl36_3 ?_)
 refine Z10 (r := .g [_, _]) Fx.ty32 ?_
 refine sM ?_
 refine Z12 Fx.fn54 (value_any r z a.t hvv hc) ?_
 refine Z39 ?_
 refine Z6 ?_
 refine Z6 ?_
 refine sA ?_
 refine sB ?_
 refine AW.seq (sR (Z1 Fx.fl36_0 ?_))
 refine Z0 Fx.ty3 ?_
 refine Z7 (AW.block (sR (Z9 ?_)))
 refine sB ?_
 refine cD ?_ ?_ <;> intro h72
 ·
  refine sR (sM ?_)
  refine Z36 ?_ ?_ <;> intro g75
  ·
   refine Z14 ?_
   refine SeqK.on (q_leq rfl rfl rfl) rfl rfl rfl rfl rfl ?_
   refine Z8 ?_
   refine sB ?_
   exact aR (f1 (q := ⟨bCe (by rw [haX2 (by assumption), g75]; rfl), rfl⟩))
  iterate 2 refine oF ?_
  refine Z4 ?_
  refine sB ?_
  exact aR (f1 (q := ⟨bCe (by rw [haX2 (by assumption), g75]; rfl), rfl⟩))
 refine sR (Z9 ?_)
 refine sB ?_
 refine cD ?_ ?_ <;> intro h79
 ·
  refine sR (sM ?_)
  refine Z36 ?_ ?_ <;> intro g82
  ·
   refine Z14 ?_
   refine Z21 ?_
   refine Z8 ?_
   refine sB ?_
   exact aR (f1 (q := ⟨bCe (by rw [haX3 (by assumption), g82]; rfl), rfl⟩))
  iterate 2 refine oF ?_
  refine Z4 ?_
  refine sB ?_
  exact aR (f1 (q := ⟨bCe (by rw [haX3 (by assumption), g82]; rfl), rfl⟩))
 refine AW.skip (sR (sM ?_))
 refine Z36 ?_ ?_ <;> intro g87
 ·
  refine Z14 ?_
  refine Z42 ?_
  refine Z8 ?_
  refine sB ?_
  exact aR (f1 (q := ⟨bCe (by rw [haX4 (by omega), g87]; rfl), rfl⟩))
 iterate 2 refine oF ?_
 refine Z4 ?_
 refine sB ?_
 exact aR (f1 (q := ⟨bCe (by rw [haX4 (by omega), g87]; rfl), rfl⟩))
theorem hclos0 (H : Heap) (k3 : Nat) (r : List RV) (z : Nz) (hp : H k3 = some (.box [.t (.sl z 3 (r.map rvT))])) (f : Fm) (b : Bool) (hv : Pure Tryz.prog 13 [fmC f, rowC z r] (.c (bC b))) : E.Spec Tryz.prog 26 [fmC f, .a (.bp k3 0)] H fun x H' => x = .c (bC (!b)) ∧ H' = H := by
 refine Spec.enter Tryz.func26 rfl ?_
 refine AW.wk (Wk.keep 8 [(0, .c (fmC f)), (1, .c (.a (.bp k3 0)))] [] (H) rfl ⟨rfl, rfl, trivial⟩ trivial (fun _ _ h => h) rfl) ?_
 refine sR (Z20 (r := [_, _, _, _, _, _, _, _, _, _, _]) ?_)
 refine sB ?_
 refine sR (Z10 (r := .g [_, _, _, _, _, _, _, _, _, _, _]) Fx.ty39 ?_)
 refine Z38 Fx.ty45 ?_
 refine Z12 Fx.fn13 (hv) ?_
 refine Z49 ?_
 refine sB ?_
 exact aR (f1 (q := ⟨rfl, rfl⟩))
theorem hclos1 (H : Heap) (k3 : Nat) (r : List RV) (z : Nz) (hp : H k3 = some (.box [.t (.sl z 3 (r.map rvT))])) (f : Fm) (b : Bool) (hv : Pure Tryz.prog 13 [fmC f, rowC z r] (.c (bC b))) : E.Spec Tryz.prog 27 [fmC f, .a (.bp k3 0)] H fun x H' => x = .c (bC (b)) ∧ H' = H := by
 refine Spec.enter Tryz.func27 rfl ?_
 refine AW.wk (Wk.keep 7 [(0, .c (fmC f)), (1, .c (.a (.bp k3 0)))] [] (H) rfl ⟨rfl, rfl, trivial⟩ trivial (fun _ _ h => h) rfl) ?_
 refine sR (Z20 (r := [_, _, _, _, _, _, _, _, _, _, _]) ?_)
 refine sB ?_
 refine sR (Z10 (r := .g [_, _, _, _, _, _, _, _, _, _, _]) Fx.ty39 ?_)
 refine Z38 Fx.ty45 ?_
 refine Z12 Fx.fn13 (hv) ?_
 refine sB ?_
 exact aR (f1 (q := ⟨rfl, rfl⟩))
theorem all_nn {α : Type} {p : α → Bool} : ∀ l : List α, (!l.any fun g => !p g) = l.all p
  | [] => rfl
  | g :: r => by rw [List.any_cons, List.all_cons, ← all_nn r]; cases p g <;> simp
theorem hoX0 {lt lk : ByteArray → ByteArray → Bool} {r : List RV} {f : Fm} (h : f.kind = 0) : (!f.args.any fun g => !hoB lt lk r g) = hoB lt lk r f := by rw [hoB_eq lt lk r f, if_pos h, all_nn]
theorem hoX1 {lt lk : ByteArray → ByteArray → Bool} {r : List RV} {f : Fm} (h0 : ¬ f.kind = 0) (h : f.kind = 1) : (f.args.any fun g => hoB lt lk r g) = hoB lt lk r f := by rw [hoB_eq lt lk r f, if_neg h0, if_pos h]
theorem hoX2 {lt lk : ByteArray → ByteArray → Bool} {r : List RV} {f : Fm} (h0 : ¬ f.kind = 0) (h : ¬ f.kind = 1) : haB lt lk r f.fa = hoB lt lk r f := by rw [hoB_eq lt lk r f, if_neg h0, if_neg h]
theorem holds_f (f : Fm) (r : List RV) (z : Nz) (l : List Vr) (hL : r.length ≤ 1000000000000000000) (hr : rowR r) (h : fvB l f = true) (hc : f.fa.t.cnt ≤ 100000) (hal : f.args.length ≤ 1000000) (ih : ∀ g ∈ f.args, Pure Tryz.prog 13 [fmC g, rowC z r] (.c (bC (hoB strLt lkS r g)))) : Pure Tryz.prog 13 [fmC f, rowC z r] (.c (bC (hoB strLt lkS r f))) := by
 intro H
 refine Spec.enter Tryz.func13 rfl ?_
 refine AW.wk (Wk.keep 24 [(0, .c (fmC f)), (1, .c (rowC z r))] [] (H) rfl ⟨rfl, rfl, trivial⟩ trivial (fun _ _ h => h) rfl) ?_
 refine sR (Z20 (r := [_, _, _, _, _, _, _, _, _, _, _]) ?_)
 refine SeqK.newBox (r := [_]) rfl rfl rfl rfl rfl rfl (fun k3 hk3 => ?_)
 refine sB ?_
 refine AW.seq (sR (Z1 Fx.fl39_0 ?_))
 refine Z0 Fx.ty3 ?_
 refine Z7 (AW.block (sR (Z9 ?_)))
 refine sB ?_
 refine cD ?_ ?_ <;> intro h7
 ·
  refine sR (Z1 Fx.fl39_2 ?_)
  refine Z0 Fx.ty37 ?_
  refine SeqK.q (q_mkFn rfl rfl rfl) rfl rfl rfl ?_
  refine SeqK.r (g_call rfl Fx.fn22 rfl (anyF_fm (upd H k3 (some (.box [.t (.sl z 3 (r.map rvT))]))) 26 [.bp k3 0] (fun g => !hoB strLt lkS r g) f.args .un Fx.fn26 (by omega) (fun g hg H1 h1 => hclos0 H1 k3 r z (h1 _ _ (upd_same _ _ _)) g _ (ih g hg))) rfl rfl rfl) rfl ?_
  refine Z49 ?_
  refine sB ?_
  exact aR (fin_x (x := .c _) (H) (.tmp rfl .nil) rfl ((fun j o h => upd_sub hk3 j o h)) (⟨bCe (hoX0 (by assumption)), rfl⟩))
 refine sR (Z9 ?_)
 refine sB ?_
 refine cD ?_ ?_ <;> intro h14
 ·
  refine sR (Z1 Fx.fl39_2 ?_)
  refine Z0 Fx.ty37 ?_
  refine SeqK.q (q_mkFn rfl rfl rfl) rfl rfl rfl ?_
  refine SeqK.r (g_call rfl Fx.fn22 rfl (anyF_fm (upd H k3 (some (.box [.t (.sl z 3 (r.map rvT))]))) 27 [.bp k3 0] (fun g => hoB strLt lkS r g) f.args .un Fx.fn27 (by omega) (fun g hg H1 h1 => hclos1 H1 k3 r z (h1 _ _ (upd_same _ _ _)) g _ (ih g hg))) rfl rfl rfl) rfl ?_
  refine sB ?_
  exact aR (fin_x (x := .c _) (H) (.tmp rfl .nil) rfl ((fun j o h => upd_sub hk3 j o h)) (⟨bCe (hoX1 (by assumption) (by assumption)), rfl⟩))
 refine AW.skip (AW.seq ?_)
 have hk2 : f.kind = 2 := Classical.byContradiction fun k => fv_no h k (by omega)
 obtain ⟨_, hav⟩ := fv_2 h hk2
 refine AW.reg (Z1 Fx.fl39_1 ?_)
 refine Z10 (r := .g [_, _, _, _, _, _, _, _, _]) Fx.ty36 ?_
 refine Z38 Fx.ty45 ?_
 refine Z12 Fx.fn28 (holdsA_any f.fa r z l hL hr hav hc) ?_
 refine sB ?_
 exact aR (fin_x (x := .c _) (H) (.tmp rfl .nil) rfl ((fun j o h => upd_sub hk3 j o h)) (⟨bCe (hoX2 (by omega) (by omega)), rfl⟩))
theorem holds_any (r : List RV) (z : Nz) (l : List Vr) (hL : r.length ≤ 1000000000000000000) (hr : rowR r) (f : Fm) : fvB l f = true → fcB f = true → Pure Tryz.prog 13 [fmC f, rowC z r] (.c (bC (hoB strLt lkS r f))) := by
  induction f using Fm.ind with
  | h f ih =>
    intro h hc
    have hc' := (fcB_iff f).1 hc
    have hal := hc'.1.2
    refine holds_f f r z l hL hr h hc'.1.1 hal fun g hg => ih g hg ?_ (hc'.2 g hg)
    by_cases h2 : f.kind = 2
    · have := (fv_2 h h2).1
      rw [List.length_eq_zero_iff.1 this] at hg; cases hg
    · by_cases h01 : f.kind = 0 ∨ f.kind = 1
      · exact (fv_01 h h01).2 g hg
      · exact (fv_no h h2 h01).elim
theorem ins_row {r : List RV} {l : List Vr} (hd : D.domB l = true) (h : D.insP r l) : rowR r := fun v hv => by
  obtain ⟨j, hj, rfl⟩ := List.mem_iff_getElem.1 hv
  rw [D.domB, Bool.and_eq_true] at hd
  have hd1 := of_decide_eq_true hd.1
  have hf := h.2 j hj
  have hj2 : j < l.length := h.1 ▸ hj
  have hx := hd1 j hj2
  rw [List.getD_eq_getElem?_getD, List.getElem?_eq_getElem hj2, Option.getD_some] at hf
  obtain ⟨hv, hf⟩ := hf
  rcases hv with ⟨a, b, c⟩ | ⟨a, b⟩ | ⟨a, b, c, d⟩
  · rw [b, c]; decide
  · rw [b]
    refine ⟨?_, by decide⟩
    rcases hf with ⟨k, _⟩ | ⟨k, k1, k2, k3⟩ | ⟨k, _⟩
    · omega
    · rcases hx with ⟨_, x1, x2⟩ | ⟨x1, _⟩
      · have : (2 : Nat) ^ 31 = 2147483648 := by decide
        omega
      · omega
    · omega
  · rw [b]; exact ⟨by decide, d⟩
abbrev noE (e : Ex) : Ex := ⟨20, ⟨#[]⟩, ⟨#[]⟩, 0, 0, 0, ⟨#[]⟩, [e]⟩
theorem no_rq {e : Ex} (h : rgQ e) : rgQ (noE e) := (rgQ_eq _).2 ⟨⟨by show R64 0; decide, by show R64 0; decide, by show (0 : Nat) ≤ _; omega, by show (1 : Nat) ≤ _; omega⟩, fun a ha => by rw [List.mem_singleton.1 ha]; exact h⟩
theorem no_sh {e : Ex} (h : shP 12 e) : shP 13 (noE e) := ⟨by simp, fun a ha => by rw [List.mem_singleton.1 ha]; exact h⟩
theorem no_cd {l : List Vr} {e : Ex} (h : Cd l e) : Cd l (noE e) := .not _ e rfl rfl h
theorem no_tr (l : List Vr) (e : Ex) (m : Int) : trE strLt lkS l (noE e) m = trE strLt lkS l e (ngM m) := (tr_not (e := noE e) rfl (by simp)).symm
theorem noT (e : Ex) (l : List Vr) (z : Nz) (hL : l.length ≤ 17592186044000) (hr : rgQ e) (hsh : shP 12 e) (hc : Cd l e) : Pure Tryz.prog 7 [exC (noE e), vsC z l] (fmX (trE strLt lkS l e 1)) := by
  rw [show (1 : Int) = ngM 0 from rfl, ← no_tr]; exact when_true _ l z hL (no_rq hr) (no_sh hsh) (no_cd hc)
theorem noF (e : Ex) (l : List Vr) (z : Nz) (hL : l.length ≤ 17592186044000) (hr : rgQ e) (hsh : shP 12 e) (hc : Cd l e) : Pure Tryz.prog 8 [exC (noE e), vsC z l] (fmX (trE strLt lkS l e 0)) := by
  rw [show (0 : Int) = ngM 1 from rfl, ← no_tr]; exact when_false _ l z hL (no_rq hr) (no_sh hsh) (no_cd hc)
theorem exc_law0 (e : Ex) (l : List Vr) (r : List RV) (z z2 : Nz) (hL : l.length ≤ 17592186044000) (hr : rgQ e) (hR : r.length ≤ 17592186044000) (hs : ∀ v ∈ r, v.s.size ≤ 1000000000000000) : Pure Tryz.prog 4 [exC e, vsC z l, rowC z2 r] (.c (bC true)) := by
 intro H
 refine Spec.enter Tryz.func4 rfl ?_
 refine AW.wk (Wk.keep 96 [(0, .c (exC e)), (1, .c (vsC z l)), (2, .c (rowC z2 r))] [] (H) rfl ⟨rfl, rfl, rfl, trivial⟩ trivial (fun _ _ h => h) rfl) ?_
 refine sR (Z20 (r := [_, _, _, _, _, _, _, _]) ?_)
 refine sB ?_
 refine AW.seq (sR (Z12 Fx.fn5 (awake_t) ?_))
 refine Z49 ?_
 refine Z36 ?_ ?_ <;> intro g18
 ·
  cases g18
 refine Z25 (r := .g [_, _, _, _, _, _, _, _]) Fx.ty26 ?_
 refine Z14 ?_
 refine relOn Fx.fn6 (usual_any e l z hL hr _) ?_
 intro b21 q21
 refine Z41 ?_
 refine Z4 ?_
 refine Z36 ?_ ?_ <;> intro g24
 ·
  iterate 4 refine oF ?_
  refine Z8 ?_
  refine Z7 (AW.condT rfl ?_)
  refine sR (Z12 Fx.fn5 (awake_t) ?_)
  refine sB ?_
  refine AW.ret ?_
  exact f1 (q := ⟨by first | rfl | exact bt (by
   cases hb : hoB strLt lkS r (trE strLt lkS l e 1).1 with
   | false => rfl
   | true => exact (tr_excl hrw hcd k0 k1 (bnf g90) hb).elim), rfl⟩)
 obtain ⟨hdom, hcd, hsh⟩ := q21 (bnf g24)
 refine Z14 ?_
 refine Z14 ?_
 refine SeqK.on (q_call _ rfl Fx.fn11 rfl (D.inside_any r l z2 z hR (by omega) hs) rfl) rfl rfl rfl rfl rfl ?_
 refine Z41 ?_
 refine Z4 ?_
 refine Z7 ?_
 refine AW.cond _ rfl (fun h29 => ?_) (fun h29 => ?_)
 ·
  refine sR (Z12 Fx.fn5 (awake_t) ?_)
  refine sB ?_
  refine AW.ret ?_
  exact f1 (q := ⟨by first | rfl | exact bt (by
   cases hb : hoB strLt lkS r (trE strLt lkS l e 1).1 with
   | false => rfl
   | true => exact (tr_excl hrw hcd k0 k1 (bnf g90) hb).elim), rfl⟩)
 have hin : D.insP r l := of_decide_eq_true (bnf h29)
 have hrw := ins_row hdom hin
 refine AW.skip (sR (Z10 (r := .g [_, _, _, _, _, _, _, _]) Fx.ty26 ?_))
 refine Z27 Fx.el24 ?_
 refine SeqK.xw 32 rfl (XW.es (show _ = [e].map exT' by rw [List.map_singleton, exT_eq])) ?_
 refine Z11 (zs := [_, _, _, _, _, _, _, _]) (r := [_, _, _, _, _, _, _, _]) [(0, 1), (1, 1), (2, 1), (3, 1), (4, 3), (7, 1)] Fx.ze26 Fx.bp26 ?_
 refine Z16 (r := [_, _, _, _, _, _, _, _]) Fx.ze26 ?_
 refine Z2 (r := [_, _, _, _, _, _, _, _]) Fx.ty26 ?_
 refine Z7 (sR (Z10 (r := .g [_, _, _, _, _, _, _, _]) Fx.ty26 ?_))
 refine sM ?_
 refine Z12 Fx.fn7 (when_true e l z hL hr (sh_up hsh) hcd) ?_
 refine Z39 ?_
 refine Z6 ?_
 refine Z6 ?_
 refine Z16 (r := [_, _, _, _, _, _, _, _, _, _, _]) Fx.ze39 ?_
 refine Z2 (r := [_, _, _, _, _, _, _, _, _, _, _]) Fx.ty39 ?_
 refine sB ?_
 refine sR (Z10 (r := .g [_, _, _, _, _, _, _, _]) Fx.ty26 ?_)
 refine sM ?_
 refine Z12 Fx.fn8 (when_false e l z hL hr (sh_up hsh) hcd) ?_
 refine Z39 ?_
 refine Z6 ?_
 refine Z6 ?_
 refine Z16 (r := [_, _, _, _, _, _, _, _, _, _, _]) Fx.ze39 ?_
 refine Z2 (r := [_, _, _, _, _, _, _, _, _, _, _]) Fx.ty39 ?_
 refine sB ?_
 refine sR (Z10 (r := .g [_, _, _, _, _, _, _, _]) Fx.ty26 ?_)
 refine sM ?_
 refine Z12 Fx.fn7 (noT e l z hL hr hsh hcd) ?_
 refine Z39 ?_
 refine Z6 ?_
 refine Z6 ?_
 refine Z16 (r := [_, _, _, _, _, _, _, _, _, _, _]) Fx.ze39 ?_
 refine Z2 (r := [_, _, _, _, _, _, _, _, _, _, _]) Fx.ty39 ?_
 refine sB ?_
 refine sR (Z10 (r := .g [_, _, _, _, _, _, _, _]) Fx.ty26 ?_)
 refine sM ?_
 refine Z12 Fx.fn8 (noF e l z hL hr hsh hcd) ?_
 refine Z39 ?_
 refine Z6 ?_
 refine Z6 ?_
 refine Z16 (r := [_, _, _, _, _, _, _, _, _, _, _]) Fx.ze39 ?_
 refine Z2 (r := [_, _, _, _, _, _, _, _, _, _, _]) Fx.ty39 ?_
 refine sB ?_
 refine AW.seq (sR (sM ?_))
 refine sM ?_
 refine Z26 ?_
 refine Z17 ?_ ?_ <;> intro g61
 ·
  exact absurd rfl g61
 refine Z14 ?_
 refine Z14 ?_
 refine Z42 ?_
 refine Z4 ?_
 refine Z17 ?_ ?_ <;> intro g66
 ·
  exact absurd rfl g66
 refine Z25 (r := .g [_, _, _, _, _, _, _, _, _, _, _]) Fx.ty39 ?_
 refine Z25 (r := .g [_, _, _, _, _, _, _, _, _, _, _]) Fx.ty39 ?_
 refine Z35 Fx.fn12 (sameF_any _ (tr_cnt l e hsh _)) ?_
 refine Z41 ?_
 refine Z4 ?_
 refine Z36 ?_ ?_ <;> intro g72
 ·
  first | cases g72 | (simp at g72; done)
 refine Z25 (r := .g [_, _, _, _, _, _, _, _, _, _, _]) Fx.ty39 ?_
 refine Z25 (r := .g [_, _, _, _, _, _, _, _, _, _, _]) Fx.ty39 ?_
 refine Z35 Fx.fn12 (sameF_any _ (tr_cnt l e hsh _)) ?_
 refine Z41 ?_
 refine Z4 ?_
 refine Z7 ?_
 refine AW.cond _ rfl (fun h77 => ?_) (fun h77 => ?_)
 ·
  first | cases h77 | (simp at h77; done)
 refine AW.skip (sR (sM ?_))
 refine Z26 ?_
 refine Z17 ?_ ?_ <;> intro g80
 ·
  iterate 2 refine oF ?_
  refine Z8 ?_
  refine sM ?_
  iterate 4 refine oF ?_
  refine Z8 ?_
  refine sM ?_
  iterate 4 refine oF ?_
  refine Z8 ?_
  refine sB ?_
  refine AW.ret ?_
  exact f1 (q := ⟨by first | rfl | exact bt (by
   cases hb : hoB strLt lkS r (trE strLt lkS l e 1).1 with
   | false => rfl
   | true => exact (tr_excl hrw hcd k0 k1 (bnf g90) hb).elim), rfl⟩)
 have k0 : (trE strLt lkS l e 0).2 = 0 := Classical.not_not.1 g80
 refine Z14 ?_
 refine Z42 ?_
 refine Z4 ?_
 refine Z17 ?_ ?_ <;> intro g84
 ·
  iterate 4 refine oF ?_
  refine Z8 ?_
  refine sM ?_
  iterate 4 refine oF ?_
  refine Z8 ?_
  refine sB ?_
  refine AW.ret ?_
  exact f1 (q := ⟨by first | rfl | exact bt (by
   cases hb : hoB strLt lkS r (trE strLt lkS l e 1).1 with
   | false => rfl
   | true => exact (tr_excl hrw hcd k0 k1 (bnf g90) hb).elim), rfl⟩)
 have k1 : (trE strLt lkS l e 1).2 = 0 := Classical.not_not.1 g84
 refine Z25 (r := .g [_, _, _, _, _, _, _, _, _, _, _]) Fx.ty39 ?_
 refine Z14 ?_
 refine SeqK.on (q_call _ rfl Fx.fn13 rfl (holds_any r z2 l (by omega) hrw _ (tr_valid hcd _ (by assumption)) (tr_cnt l e hsh _)) rfl) rfl rfl rfl rfl rfl ?_
 refine Z41 ?_
 refine Z4 ?_
 refine Z36 ?_ ?_ <;> intro g90
 ·
  iterate 4 refine oF ?_
  refine Z8 ?_
  refine sB ?_
  refine AW.ret ?_
  exact f1 (q := ⟨by first | rfl | exact bt (by
   cases hb : hoB strLt lkS r (trE strLt lkS l e 1).1 with
   | false => rfl
   | true => exact (tr_excl hrw hcd k0 k1 (bnf g90) hb).elim), rfl⟩)
 refine Z25 (r := .g [_, _, _, _, _, _, _, _, _, _, _]) Fx.ty39 ?_
 refine Z14 ?_
 refine SeqK.on (q_call _ rfl Fx.fn13 rfl (holds_any r z2 l (by omega) hrw _ (tr_valid hcd _ (by assumption)) (tr_cnt l e hsh _)) rfl) rfl rfl rfl rfl rfl ?_
 refine Z41 ?_
 refine Z4 ?_
 refine sB ?_
 refine AW.ret ?_
 exact f1 (q := ⟨by first | rfl | exact bt (by
  cases hb : hoB strLt lkS r (trE strLt lkS l e 1).1 with
  | false => rfl
  | true => exact (tr_excl hrw hcd k0 k1 (bnf g90) hb).elim), rfl⟩)
theorem exc_law (e : Ex) (l : List Vr) (r : List RV) (z z2 : Nz) (hL : l.length ≤ 17592186044000) (hr : rgQ e) (hR : r.length ≤ 17592186044000 ∧ ∀ v ∈ r, v.s.size ≤ 1000000000000000) (H : Heap) : E.Spec Tryz.prog 4 [exC e, vsC z l, rowC z2 r] H fun x H' => x = bX true := fun c w vs h1 h2 =>
  (exc_law0 e l r z z2 hL hr hR.1 hR.2 H c w vs h1 h2).mono fun _ _ ⟨v, x, H', c', e, q, r, hc, hx⟩ => ⟨v, x, H', c', e, q.1, r, hc, hx⟩
abbrev ok66 (s : Vr) : Prop := (fun i : Int => (Lit.int .i64 i).wf = true) s.ty ∧ (fun i : Int => (Lit.int .i64 i).wf = true) s.lo ∧ (fun i : Int => (Lit.int .i64 i).wf = true) s.hi ∧ (fun i : Int => (Lit.int .i64 i).wf = true) s.mx ∧ (fun _ : Bool => True) s.nu ∧ True
theorem rd66 (N : Nat) : Reads Tryz.prog N 66 5 vrT ok66 :=
  (Reads.struct Tryz.underlying66 (ReadsF.cons rfl (by kernel_rfl) (fun M _ => (Reads.int Tryz.underlying3)) (ReadsF.cons rfl (by kernel_rfl) (fun M _ => (Reads.int Tryz.underlying2)) (ReadsF.cons rfl (by kernel_rfl) (fun M _ => (Reads.int Tryz.underlying2)) (ReadsF.cons rfl (by kernel_rfl) (fun M _ => (Reads.int Tryz.underlying3)) (ReadsF.cons rfl (by kernel_rfl) (fun M _ => (Reads.bool Tryz.underlying4)) .nil)))))).conv (fun p => (⟨p.1, p.2.1, p.2.2.1, p.2.2.2.1, p.2.2.2.2.1⟩ : Vr)) (fun _ _ => rfl) (fun _ h => h)
abbrev ok27 (l : List Vr) : Prop := l.length * 40 ≤ 140737488351232 ∧ l.length ≤ maxLen ∧ ∀ x ∈ l, ok66 x
theorem rd27 (N : Nat) : Reads Tryz.prog N 27 1 (fun x : List Vr => ([.sl .un 5 (x.map vrT)] : List T)) ok27 :=
  (Reads.slice Tryz.underlying27 (by kernel_rfl) (by decide) (fun M _ => (rd66 M))).conv id (fun _ _ => rfl) (fun _ h => by rw [show Tryz.prog.bytesOf 66 = 40 from by kernel_rfl] at h; exact h)
abbrev ok23 (s : RV) : Prop := (fun i : Int => (Lit.int .i64 i).wf = true) s.k ∧ (fun i : Int => (Lit.int .i64 i).wf = true) s.n ∧ (fun s : ByteArray => s.size ≤ 140737488351232) s.s ∧ True
theorem rd23 (N : Nat) : Reads Tryz.prog N 23 3 rvT ok23 :=
  (Reads.struct Tryz.underlying23 (ReadsF.cons rfl (by kernel_rfl) (fun M _ => (Reads.int Tryz.underlying3)) (ReadsF.cons rfl (by kernel_rfl) (fun M _ => (Reads.int Tryz.underlying2)) (ReadsF.cons rfl (by kernel_rfl) (fun M _ => (Reads.string Tryz.underlying9)) .nil)))).conv (fun p => (⟨p.1, p.2.1, p.2.2.1⟩ : RV)) (fun _ _ => rfl) (fun _ h => h)
abbrev ok45 (l : List RV) : Prop := l.length * 32 ≤ 140737488351232 ∧ l.length ≤ maxLen ∧ ∀ x ∈ l, ok23 x
theorem rd45 (N : Nat) : Reads Tryz.prog N 45 1 (fun x : List RV => ([.sl .un 3 (x.map rvT)] : List T)) ok45 :=
  (Reads.slice Tryz.underlying45 (by kernel_rfl) (by decide) (fun M _ => (rd23 M))).conv id (fun _ _ => rfl) (fun _ h => by rw [show Tryz.prog.bytesOf 23 = 32 from by kernel_rfl] at h; exact h)
theorem rd_dom {l : List Vr} (h : ok27 l) : l.length ≤ 17592186044000 := by have := h.1; omega
theorem rd_row {r : List RV} (h : ok45 r) : r.length ≤ 17592186044000 ∧ ∀ v ∈ r, v.s.size ≤ 1000000000000000 := ⟨by have := h.1; omega, fun v hv => by have := (h.2.2 v hv).2.2.1; dsimp only at this; omega⟩
theorem rgi {i : Int} (h : (Lit.int .i64 i).wf = true) : -9223372036854775808 ≤ i ∧ i ≤ 9223372036854775807 := ⟨of_decide_eq_true (Bool.and_eq_true_iff.1 h).1, of_decide_eq_true (Bool.and_eq_true_iff.1 h).2⟩
theorem ex_fun : exT' = fun e : Ex => exL e := funext exT_eq
theorem rd26 (N : Nat) : Reads Tryz.prog N 26 8 (fun e : Ex => exL e) rgQ := by
  induction N using Nat.strongRecOn with
  | ind N ih =>
    exact (Reads.struct Tryz.underlying26 (ReadsF.cons rfl (by kernel_rfl) (fun _ _ => Reads.int Tryz.underlying3) (ReadsF.cons rfl (by kernel_rfl) (fun _ _ => Reads.string Tryz.underlying9) (ReadsF.cons rfl (by kernel_rfl) (fun _ _ => Reads.string Tryz.underlying9) (ReadsF.cons rfl (by kernel_rfl) (fun _ _ => Reads.int Tryz.underlying3) (ReadsF.cons rfl (by kernel_rfl) (fun _ _ => (Reads.struct Tryz.underlying23 (ReadsF.cons rfl (by kernel_rfl) (fun _ _ => Reads.int Tryz.underlying3) (ReadsF.cons rfl (by kernel_rfl) (fun _ _ => Reads.int Tryz.underlying2) (ReadsF.cons rfl (by kernel_rfl) (fun _ _ => Reads.string Tryz.underlying9) .nil))))) (ReadsF.cons rfl (by kernel_rfl) (fun M2 hM2 => Reads.slice Tryz.underlying24 (by kernel_rfl) (by decide) (fun M3 hM3 => ih M3 (by omega))) .nil))))))).conv
        (fun p => Ex.mk p.1 p.2.1 p.2.2.1 p.2.2.2.1 p.2.2.2.2.1.1 p.2.2.2.2.1.2.1 p.2.2.2.2.1.2.2.1 p.2.2.2.2.2.1) (fun p _ => by
          show [_, _, _, _, _, _, _, T.sl .un 8 (p.2.2.2.2.2.1.map exT')] = _
          rw [ex_fun]; rfl) (fun p h => by
          obtain ⟨h1, h2, h3, h4, h5, h6, _⟩ := h
          rw [rgQ_eq]
          refine ⟨⟨rgi h4, rgi h5.2.1, ?_, ?_⟩, h6.2.2⟩
          · have := h5.2.2.1
            show p.2.2.2.2.1.2.2.1.size ≤ _
            omega
          · have := h6.1
            rw [show Tryz.prog.bytesOf 26 = 104 from by kernel_rfl] at this
            show p.2.2.2.2.2.1.length ≤ _
            omega)
end Go.Proofs.YtnnoafgdjjpidaaGreatDoor.W
