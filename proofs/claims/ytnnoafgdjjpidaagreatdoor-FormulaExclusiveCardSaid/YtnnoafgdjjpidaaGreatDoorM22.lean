import Derived.Test.YtnnoafgdjjpidaaGreatDoorM21
set_option maxRecDepth 20000
set_option maxHeartbeats 16000000
set_option linter.unusedSectionVars false
set_option linter.unusedSimpArgs false
set_option linter.unusedVariables false
namespace Go.Proofs.YtnnoafgdjjpidaaGreatDoor.W
open Go.RowKit E M
abbrev atC (a : At) : C := .g [.t (.v (.int .i64 a.k)), .t (.v (.int .i64 a.v)), .t (.v (.int .i64 a.o)), .t (.v (.int .i64 a.t.c)), .t (.sl .un 5 (a.t.ps.map ptT)), .t (.v (.int .i64 a.tv)), .t (.v (.int .i64 a.tk)), .t (.v (.bool a.tn)), .t (.v (.string a.ts))]
mutual
def fmT' : Fm → List E.T
  | .mk k a args => [.v (.int .i64 k), .v (.int .i64 a.k), .v (.int .i64 a.v), .v (.int .i64 a.o), .v (.int .i64 a.t.c), .sl .un 5 (a.t.ps.map ptT), .v (.int .i64 a.tv), .v (.int .i64 a.tk), .v (.bool a.tn), .v (.string a.ts), .sl .un 11 (fmTs args)]
def fmTs : List Fm → List (List E.T)
  | [] => []
  | f :: r => fmT' f :: fmTs r
end
theorem fmTs_map : ∀ l, fmTs l = l.map fmT'
  | [] => rfl
  | f :: r => by rw [fmTs, fmTs_map r, List.map_cons]
abbrev fmL (f : Fm) : List E.T := [.v (.int .i64 f.kind), .v (.int .i64 f.fa.k), .v (.int .i64 f.fa.v), .v (.int .i64 f.fa.o), .v (.int .i64 f.fa.t.c), .sl .un 5 (f.fa.t.ps.map ptT), .v (.int .i64 f.fa.tv), .v (.int .i64 f.fa.tk), .v (.bool f.fa.tn), .v (.string f.fa.ts), .sl .un 11 (f.args.map fmT')]
theorem fmT_eq (f : Fm) : fmT' f = fmL f := by cases f; rw [fmT', fmTs_map]
abbrev fmC (f : Fm) : C := .g [.t (.v (.int .i64 f.kind)), .t (.v (.int .i64 f.fa.k)), .t (.v (.int .i64 f.fa.v)), .t (.v (.int .i64 f.fa.o)), .t (.v (.int .i64 f.fa.t.c)), .t (.sl .un 5 (f.fa.t.ps.map ptT)), .t (.v (.int .i64 f.fa.tv)), .t (.v (.int .i64 f.fa.tk)), .t (.v (.bool f.fa.tn)), .t (.v (.string f.fa.ts)), .t (.sl .un 11 (f.args.map fmT'))]
abbrev fsC (z : Nz) (l : List Fm) : C := .a (.t (.sl z 11 (l.map fmT')))
abbrev prC (p : PR) : C := .g [.t (.v (.bool p.kn)), .t (.v (.bool p.vl)), .t (.v (.int .i64 p.a.k)), .t (.v (.int .i64 p.a.v)), .t (.v (.int .i64 p.a.o)), .t (.v (.int .i64 p.a.t.c)), .t (.sl .un 5 (p.a.t.ps.map ptT)), .t (.v (.int .i64 p.a.tv)), .t (.v (.int .i64 p.a.tk)), .t (.v (.bool p.a.tn)), .t (.v (.string p.a.ts))]
abbrev tsC (k : Int) (n : Bool) (t : ByteArray) : C := .g [.t (.v (.int .i64 0)), .t (.v (.int .i64 k)), .t (.v (.bool n)), .t (.v (.string t))]
theorem idx_fm {l : List Fm} {i : Nat} (h : i < l.length) : (l.map fmT')[i]? = some (fmL l[i]) := by rw [List.getElem?_map, List.getElem?_eq_getElem h, Option.map_some, fmT_eq]
theorem XW.atN {a b c d e f g h : A} : XW (.c (.g [a, b, c, d, .t (.v (.slice none 0 0)), e, f, g, h])) (.c (.g [a, b, c, d, .t (.sl .un 5 []), e, f, g, h])) :=
  XW.g (.cons XW.reA (.cons XW.reA (.cons XW.reA (.cons XW.reA (.cons XW.nilU XWs.re)))))
theorem XW.prN {a b c d e f g h i j : A} : XW (.c (.g [a, b, c, d, e, f, .t (.v (.slice none 0 0)), g, h, i, j])) (.c (.g [a, b, c, d, e, f, .t (.sl .un 5 []), g, h, i, j])) :=
  XW.g (.cons XW.reA (.cons XW.reA (.cons XW.reA (.cons XW.reA (.cons XW.reA (.cons XW.reA (.cons XW.nilU XWs.re)))))))
theorem XW.fmN {a b c d e f g h i j : A} : XW (.c (.g [a, b, c, d, e, .t (.v (.slice none 0 0)), f, g, h, i, j])) (.c (.g [a, b, c, d, e, .t (.sl .un 5 []), f, g, h, i, j])) :=
  XW.g (.cons XW.reA (.cons XW.reA (.cons XW.reA (.cons XW.reA (.cons XW.reA (.cons XW.nilU XWs.re))))))
theorem XW.fmA {a b c d e f g h i j : A} : XW (.c (.g [a, b, c, d, e, f, g, h, i, j, .t (.v (.slice none 0 0))])) (.c (.g [a, b, c, d, e, f, g, h, i, j, .t (.sl .un 11 [])])) :=
  XW.g (.cons XW.reA (.cons XW.reA (.cons XW.reA (.cons XW.reA (.cons XW.reA (.cons XW.reA (.cons XW.reA (.cons XW.reA (.cons XW.reA (.cons XW.reA (.cons XW.nilU .nil)))))))))))
theorem XW.fmZ {a b c d e f g h i j : A} {z : Nz} {n : Nat} {es : List (List E.T)} : XW (.c (.g [a, b, c, d, e, f, g, h, i, j, .t (.sl z n es)])) (.c (.g [a, b, c, d, e, f, g, h, i, j, .t (.sl .un n es)])) :=
  XW.g (.cons XW.reA (.cons XW.reA (.cons XW.reA (.cons XW.reA (.cons XW.reA (.cons XW.reA (.cons XW.reA (.cons XW.reA (.cons XW.reA (.cons XW.reA (.cons XW.un .nil)))))))))))
theorem iCe2 {a b : Int} (h : a = b) : X.c (iC a) = .c (iC b) := by rw [h]
theorem fmCe {f g : Fm} (h : f = g) : X.c (fmC f) = .c (fmC g) := by rw [h]
theorem prCe {f g : PR} (h : f = g) : X.c (prC f) = .c (prC g) := by rw [h]
theorem lsF_ne {k : Int} {l : List Fm} (h : l.length ≠ 1) : lsF k l = .mk k at0 l := by
  match l, h with
  | [], _ => rfl
  | [x], h => exact absurd rfl h
  | x :: y :: r, _ => rfl
theorem lsF_one {k : Int} {l : List Fm} (h : l.length = 1) (h0 : 0 < l.length) : lsF k l = l[0] := by
  match l, h with
  | [x], _ => rfl
theorem positive_any (m : Int) : Pure Tryz.prog 37 [iC m] (.c (bC (poM m))) := by
 intro H
 refine Spec.enter Tryz.func37 rfl ?_
 refine AW.wk (Wk.keep 9 [(0, .c (iC m))] [] (H) rfl ⟨rfl, trivial⟩ trivial (fun _ _ h => h) rfl) ?_
 refine sR (sB ?_)
 refine sR (sM ?_)
 refine Z9 ?_
 refine Z17 ?_ ?_ <;> intro g5
 ·
  iterate 2 refine oF ?_
  refine Z8 ?_
  refine sB ?_
  exact aR (f1 (q := ⟨bCe (by first | exact (decide_eq_true (by omega)).symm | exact (decide_eq_false (by omega)).symm | exact dcE (by omega)), rfl⟩))
 refine Z14 ?_
 refine Z21 ?_
 refine Z4 ?_
 refine sB ?_
 exact aR (f1 (q := ⟨bCe (by first | exact (decide_eq_true (by omega)).symm | exact (decide_eq_false (by omega)).symm | exact dcE (by omega)), rfl⟩))
theorem weak_any (m : Int) : Pure Tryz.prog 44 [iC m] (.c (bC (wkM m))) := by
 intro H
 refine Spec.enter Tryz.func44 rfl ?_
 refine AW.wk (Wk.keep 9 [(0, .c (iC m))] [] (H) rfl ⟨rfl, trivial⟩ trivial (fun _ _ h => h) rfl) ?_
 refine sR (sB ?_)
 refine sR (sM ?_)
 refine Z9 ?_
 refine Z17 ?_ ?_ <;> intro g5
 ·
  iterate 2 refine oF ?_
  refine Z8 ?_
  refine sB ?_
  exact aR (f1 (q := ⟨bCe (by first | exact (decide_eq_true (by omega)).symm | exact (decide_eq_false (by omega)).symm | exact dcE (by omega)), rfl⟩))
 refine Z14 ?_
 refine Z21 ?_
 refine Z4 ?_
 refine sB ?_
 exact aR (f1 (q := ⟨bCe (by first | exact (decide_eq_true (by omega)).symm | exact (decide_eq_false (by omega)).symm | exact dcE (by omega)), rfl⟩))
theorem negated_0  : Pure Tryz.prog 38 [iC 0] (.c (iC (ngM 0))) := by
 intro H
 refine Spec.enter Tryz.func38 rfl ?_
 refine AW.wk (Wk.keep 6 [(0, .c (iC 0))] [] (H) rfl ⟨rfl, trivial⟩ trivial (fun _ _ h => h) rfl) ?_
 refine sR (sB ?_)
 refine sR (Z11 (zs := [_, _, _, _]) (r := [_, _, _, _]) [(0, 1), (1, 1), (2, 1), (3, 1)] Fx.ze108 Fx.bp108 ?_)
 refine sM ?_
 refine SeqK.q (q_indexA _ rfl Fx.ar108 Fx.ty59 rfl rfl (by decide) (by decide) rfl (by decide)) rfl rfl rfl ?_
 refine sB ?_
 exact aR (f1 (q := ⟨rfl, rfl⟩))
theorem negated_1  : Pure Tryz.prog 38 [iC 1] (.c (iC (ngM 1))) := by
 intro H
 refine Spec.enter Tryz.func38 rfl ?_
 refine AW.wk (Wk.keep 6 [(0, .c (iC 1))] [] (H) rfl ⟨rfl, trivial⟩ trivial (fun _ _ h => h) rfl) ?_
 refine sR (sB ?_)
 refine sR (Z11 (zs := [_, _, _, _]) (r := [_, _, _, _]) [(0, 1), (1, 1), (2, 1), (3, 1)] Fx.ze108 Fx.bp108 ?_)
 refine sM ?_
 refine SeqK.q (q_indexA _ rfl Fx.ar108 Fx.ty59 rfl rfl (by decide) (by decide) rfl (by decide)) rfl rfl rfl ?_
 refine sB ?_
 exact aR (f1 (q := ⟨rfl, rfl⟩))
theorem negated_2  : Pure Tryz.prog 38 [iC 2] (.c (iC (ngM 2))) := by
 intro H
 refine Spec.enter Tryz.func38 rfl ?_
 refine AW.wk (Wk.keep 6 [(0, .c (iC 2))] [] (H) rfl ⟨rfl, trivial⟩ trivial (fun _ _ h => h) rfl) ?_
 refine sR (sB ?_)
 refine sR (Z11 (zs := [_, _, _, _]) (r := [_, _, _, _]) [(0, 1), (1, 1), (2, 1), (3, 1)] Fx.ze108 Fx.bp108 ?_)
 refine sM ?_
 refine SeqK.q (q_indexA _ rfl Fx.ar108 Fx.ty59 rfl rfl (by decide) (by decide) rfl (by decide)) rfl rfl rfl ?_
 refine sB ?_
 exact aR (f1 (q := ⟨rfl, rfl⟩))
theorem negated_3  : Pure Tryz.prog 38 [iC 3] (.c (iC (ngM 3))) := by
 intro H
 refine Spec.enter Tryz.func38 rfl ?_
 refine AW.wk (Wk.keep 6 [(0, .c (iC 3))] [] (H) rfl ⟨rfl, trivial⟩ trivial (fun _ _ h => h) rfl) ?_
 refine sR (sB ?_)
 refine sR (Z11 (zs := [_, _, _, _]) (r := [_, _, _, _]) [(0, 1), (1, 1), (2, 1), (3, 1)] Fx.ze108 Fx.bp108 ?_)
 refine sM ?_
 refine SeqK.q (q_indexA _ rfl Fx.ar108 Fx.ty59 rfl rfl (by decide) (by decide) rfl (by decide)) rfl rfl rfl ?_
 refine sB ?_
 exact aR (f1 (q := ⟨rfl, rfl⟩))
theorem negated_any (m : Int) (h : 0 ≤ m ∧ m < 4) : Pure Tryz.prog 38 [iC m] (.c (iC (ngM m))) := by
  rcases (show m = 0 ∨ m = 1 ∨ m = 2 ∨ m = 3 by omega) with rfl | rfl | rfl | rfl
  · exact negated_0
  · exact negated_1
  · exact negated_2
  · exact negated_3
theorem decided_any (b : Bool) : Pure Tryz.prog 134 [bC b] (.c (prC (dcd b))) := by
 intro H
 refine Spec.enter Tryz.func134 rfl ?_
 refine AW.wk (Wk.keep 5 [(0, .c (bC b))] [] (H) rfl ⟨rfl, trivial⟩ trivial (fun _ _ h => h) rfl) ?_
 refine sR (Z16 (r := [_, _, _, _, _, _, _, _, _, _, _]) Fx.ze114 ?_)
 refine Z7 (sR (sM ?_))
 refine Z11 (zs := [_, _, _, _, _, _, _, _, _, _, _]) (r := [_, _, _, _, _, _, _, _, _, _, _]) [(0, 1), (1, 1), (2, 9)] Fx.ze114 Fx.bp114 ?_
 refine Z47 4 XW.prN ?_
 refine Z2 (r := [_, _, _, _, _, _, _, _, _, _, _]) Fx.ty114 ?_
 refine Z7 (AW.ret ?_)
 exact f1 (.cellL rfl rfl Fx.ty114 rfl rfl .nil) (⟨rfl, rfl⟩)
theorem opposite_any (op : Int) : Pure Tryz.prog 97 [iC op] (.c (iC (opO op))) := by
 intro H
 refine Spec.enter Tryz.func97 rfl ?_
 refine AW.wk (Wk.keep 14 [(0, .c (iC op))] [] (H) rfl ⟨rfl, trivial⟩ trivial (fun _ _ h => h) rfl) ?_
 refine sR (sB ?_)
 refine AW.seq (sR (sM ?_))
 refine Z7 (AW.block (sR (Z9 ?_)))
 refine sB ?_
 refine cD ?_ ?_ <;> intro h4
 ·
  refine sR (sB ?_)
  exact aR (f1 (q := ⟨iCe2 (by simp only [opO]; repeat (first | rw [if_pos (by assumption)] | rw [if_neg (by assumption)])), rfl⟩))
 refine sR (Z9 ?_)
 refine sB ?_
 refine cD ?_ ?_ <;> intro h6
 ·
  refine sR (sB ?_)
  exact aR (f1 (q := ⟨iCe2 (by simp only [opO]; repeat (first | rw [if_pos (by assumption)] | rw [if_neg (by assumption)])), rfl⟩))
 refine sR (Z9 ?_)
 refine sB ?_
 refine cD ?_ ?_ <;> intro h8
 ·
  refine sR (sB ?_)
  exact aR (f1 (q := ⟨iCe2 (by simp only [opO]; repeat (first | rw [if_pos (by assumption)] | rw [if_neg (by assumption)])), rfl⟩))
 refine sR (Z9 ?_)
 refine sB ?_
 refine cD ?_ ?_ <;> intro h10
 ·
  refine sR (sB ?_)
  exact aR (f1 (q := ⟨iCe2 (by simp only [opO]; repeat (first | rw [if_pos (by assumption)] | rw [if_neg (by assumption)])), rfl⟩))
 refine sR (Z9 ?_)
 refine sB ?_
 refine cD ?_ ?_ <;> intro h12
 ·
  refine sR (sB ?_)
  exact aR (f1 (q := ⟨iCe2 (by simp only [opO]; repeat (first | rw [if_pos (by assumption)] | rw [if_neg (by assumption)])), rfl⟩))
 refine AW.skip (sR (sB ?_))
 exact aR (f1 (q := ⟨iCe2 (by simp only [opO]; repeat (first | rw [if_pos (by assumption)] | rw [if_neg (by assumption)])), rfl⟩))
theorem reversed_any (op : Int) : Pure Tryz.prog 136 [iC op] (.c (iC (opR op))) := by
 intro H
 refine Spec.enter Tryz.func136 rfl ?_
 refine AW.wk (Wk.keep 13 [(0, .c (iC op))] [] (H) rfl ⟨rfl, trivial⟩ trivial (fun _ _ h => h) rfl) ?_
 refine sR (sB ?_)
 refine AW.seq (sR (sM ?_))
 refine Z7 (AW.block (sR (Z9 ?_)))
 refine sB ?_
 refine cD ?_ ?_ <;> intro h4
 ·
  refine sR (sB ?_)
  exact aR (f1 (q := ⟨iCe2 (by simp only [opR]; repeat (first | rw [if_pos (by assumption)] | rw [if_neg (by assumption)])), rfl⟩))
 refine sR (Z9 ?_)
 refine sB ?_
 refine cD ?_ ?_ <;> intro h6
 ·
  refine sR (sB ?_)
  exact aR (f1 (q := ⟨iCe2 (by simp only [opR]; repeat (first | rw [if_pos (by assumption)] | rw [if_neg (by assumption)])), rfl⟩))
 refine sR (Z9 ?_)
 refine sB ?_
 refine cD ?_ ?_ <;> intro h8
 ·
  refine sR (sB ?_)
  exact aR (f1 (q := ⟨iCe2 (by simp only [opR]; repeat (first | rw [if_pos (by assumption)] | rw [if_neg (by assumption)])), rfl⟩))
 refine sR (Z9 ?_)
 refine sB ?_
 refine cD ?_ ?_ <;> intro h10
 ·
  refine sR (sB ?_)
  exact aR (f1 (q := ⟨iCe2 (by simp only [opR]; repeat (first | rw [if_pos (by assumption)] | rw [if_neg (by assumption)])), rfl⟩))
 refine AW.skip (sR (sM ?_))
 refine sB ?_
 exact aR (f1 (q := ⟨iCe2 (by simp only [opR]; repeat (first | rw [if_pos (by assumption)] | rw [if_neg (by assumption)])), rfl⟩))
theorem compares_any (op c : Int) : Pure Tryz.prog 135 [iC op, iC c] (.c (bC (cpB op c))) := by
 intro H
 refine Spec.enter Tryz.func135 rfl ?_
 refine AW.wk (Wk.keep 28 [(0, .c (iC op)), (1, .c (iC c))] [] (H) rfl ⟨rfl, rfl, trivial⟩ trivial (fun _ _ h => h) rfl) ?_
 refine sR (sB ?_)
 refine AW.seq (sR (sM ?_))
 refine Z7 (AW.block (sR (Z9 ?_)))
 refine sB ?_
 refine cD ?_ ?_ <;> intro h6
 ·
  refine sR (sM ?_)
  refine Z9 ?_
  refine sB ?_
  exact aR (f1 (q := ⟨bCe (by simp only [cpB]; repeat (first | rw [if_pos (by assumption)] | rw [if_neg (by assumption)])), rfl⟩))
 refine sR (Z9 ?_)
 refine sB ?_
 refine cD ?_ ?_ <;> intro h10
 ·
  refine sR (sM ?_)
  refine Z26 ?_
  refine sB ?_
  exact aR (f1 (q := ⟨bCe (by simp only [cpB]; repeat (first | rw [if_pos (by assumption)] | rw [if_neg (by assumption)])), rfl⟩))
 refine sR (Z9 ?_)
 refine sB ?_
 refine cD ?_ ?_ <;> intro h14
 ·
  refine sR (sM ?_)
  refine Z30 ?_
  refine sB ?_
  exact aR (f1 (q := ⟨bCe (by simp only [cpB]; repeat (first | rw [if_pos (by assumption)] | rw [if_neg (by assumption)])), rfl⟩))
 refine sR (Z9 ?_)
 refine sB ?_
 refine cD ?_ ?_ <;> intro h18
 ·
  refine sR (sM ?_)
  refine SeqK.q (q_leq rfl rfl rfl) rfl rfl rfl ?_
  refine sB ?_
  exact aR (f1 (q := ⟨bCe (by simp only [cpB]; repeat (first | rw [if_pos (by assumption)] | rw [if_neg (by assumption)])), rfl⟩))
 refine sR (Z9 ?_)
 refine sB ?_
 refine cD ?_ ?_ <;> intro h22
 ·
  refine sR (sM ?_)
  refine Z43 ?_
  refine sB ?_
  exact aR (f1 (q := ⟨bCe (by simp only [cpB]; repeat (first | rw [if_pos (by assumption)] | rw [if_neg (by assumption)])), rfl⟩))
 refine AW.skip (sR (sM ?_))
 refine SeqK.q (q_geq rfl rfl rfl) rfl rfl rfl ?_
 refine sB ?_
 exact aR (f1 (q := ⟨bCe (by simp only [cpB]; repeat (first | rw [if_pos (by assumption)] | rw [if_neg (by assumption)])), rfl⟩))
theorem sign_any (n : Int) : Pure Tryz.prog 141 [iC n] (.c (iC (sgI n))) := by
 intro H
 refine Spec.enter Tryz.func141 rfl ?_
 refine AW.wk (Wk.keep 9 [(0, .c (iC n))] [] (H) rfl ⟨rfl, trivial⟩ trivial (fun _ _ h => h) rfl) ?_
 refine sR (sB ?_)
 refine AW.seq (AW.block (sR (sM ?_)))
 refine Z30 ?_
 refine sB ?_
 refine cD ?_ ?_ <;> intro h3
 ·
  refine sR (sB ?_)
  exact aR (f1 (q := ⟨iCe2 (by simp only [sgI]; (repeat (first | rw [if_pos (by omega)] | rw [if_neg (by omega)]))), rfl⟩))
 refine sR (sM ?_)
 refine Z43 ?_
 refine sB ?_
 refine cD ?_ ?_ <;> intro h6
 ·
  refine sR (sB ?_)
  exact aR (f1 (q := ⟨iCe2 (by simp only [sgI]; (repeat (first | rw [if_pos (by omega)] | rw [if_neg (by omega)]))), rfl⟩))
 refine AW.skip (sR (sB ?_))
 exact aR (f1 (q := ⟨iCe2 (by simp only [sgI]; (repeat (first | rw [if_pos (by omega)] | rw [if_neg (by omega)]))), rfl⟩))
theorem tsCe {k k' : Int} {n n' : Bool} {t : ByteArray} (h : k = k') (h2 : n = n') : X.c (tsC k n t) = .c (tsC k' n' t) := by rw [h, h2]
theorem test_any (op : Int) (t : ByteArray) : Pure Tryz.prog 137 [iC op, sC t] (.c (tsC (tkI op) (tnI op) t)) := by
 intro H
 refine Spec.enter Tryz.func137 rfl ?_
 refine AW.wk (Wk.keep 28 [(0, .c (iC op)), (1, .c (sC t))] [] (H) rfl ⟨rfl, rfl, trivial⟩ trivial (fun _ _ h => h) rfl) ?_
 refine sR (Z16 (r := [_, _, _, _]) Fx.ze34 ?_)
 refine Z7 (AW.seq (sR (sM ?_)))
 refine Z7 (AW.block (sR (Z9 ?_)))
 refine sB ?_
 refine cD ?_ ?_ <;> intro h6
 ·
  refine sR (sM ?_)
  refine Z11 (zs := [_, _, _, _]) (r := [_, _, _, _]) [(0, 1), (1, 1), (2, 1), (3, 1)] Fx.ze34 Fx.bp34 ?_
  refine Z2 (r := [_, _, _, _]) Fx.ty34 ?_
  refine Z7 (AW.ret ?_)
  exact f1 (.cellL rfl rfl Fx.ty34 rfl rfl .nil) (⟨tsCe (by simp only [tkI]; (repeat (first | rw [if_pos (by omega)] | rw [if_neg (by omega)]))) (by simp only [tnI]; first | (rw [decide_eq_true (by omega)]; rfl) | (rw [decide_eq_false (by omega)]; rfl)), rfl⟩)
 refine sR (Z9 ?_)
 refine sB ?_
 refine cD ?_ ?_ <;> intro h10
 ·
  refine sR (sM ?_)
  refine Z11 (zs := [_, _, _, _]) (r := [_, _, _, _]) [(0, 1), (1, 1), (2, 1), (3, 1)] Fx.ze34 Fx.bp34 ?_
  refine Z2 (r := [_, _, _, _]) Fx.ty34 ?_
  refine Z7 (AW.ret ?_)
  exact f1 (.cellL rfl rfl Fx.ty34 rfl rfl .nil) (⟨tsCe (by simp only [tkI]; (repeat (first | rw [if_pos (by omega)] | rw [if_neg (by omega)]))) (by simp only [tnI]; first | (rw [decide_eq_true (by omega)]; rfl) | (rw [decide_eq_false (by omega)]; rfl)), rfl⟩)
 refine sR (Z9 ?_)
 refine sB ?_
 refine cD ?_ ?_ <;> intro h14
 ·
  refine sR (sM ?_)
  refine Z11 (zs := [_, _, _, _]) (r := [_, _, _, _]) [(0, 1), (1, 1), (2, 1), (3, 1)] Fx.ze34 Fx.bp34 ?_
  refine Z2 (r := [_, _, _, _]) Fx.ty34 ?_
  refine Z7 (AW.ret ?_)
  exact f1 (.cellL rfl rfl Fx.ty34 rfl rfl .nil) (⟨tsCe (by simp only [tkI]; (repeat (first | rw [if_pos (by omega)] | rw [if_neg (by omega)]))) (by simp only [tnI]; first | (rw [decide_eq_true (by omega)]; rfl) | (rw [decide_eq_false (by omega)]; rfl)), rfl⟩)
 refine sR (Z9 ?_)
 refine sB ?_
 refine cD ?_ ?_ <;> intro h18
 ·
  refine sR (sM ?_)
  refine Z11 (zs := [_, _, _, _]) (r := [_, _, _, _]) [(0, 1), (1, 1), (2, 1), (3, 1)] Fx.ze34 Fx.bp34 ?_
  refine Z2 (r := [_, _, _, _]) Fx.ty34 ?_
  refine Z7 (AW.ret ?_)
  exact f1 (.cellL rfl rfl Fx.ty34 rfl rfl .nil) (⟨tsCe (by simp only [tkI]; (repeat (first | rw [if_pos (by omega)] | rw [if_neg (by omega)]))) (by simp only [tnI]; first | (rw [decide_eq_true (by omega)]; rfl) | (rw [decide_eq_false (by omega)]; rfl)), rfl⟩)
 refine sR (Z9 ?_)
 refine sB ?_
 refine cD ?_ ?_ <;> intro h22
 ·
  refine sR (sM ?_)
  refine Z11 (zs := [_, _, _, _]) (r := [_, _, _, _]) [(0, 1), (1, 1), (2, 1), (3, 1)] Fx.ze34 Fx.bp34 ?_
  refine Z2 (r := [_, _, _, _]) Fx.ty34 ?_
  refine Z7 (AW.ret ?_)
  exact f1 (.cellL rfl rfl Fx.ty34 rfl rfl .nil) (⟨tsCe (by simp only [tkI]; (repeat (first | rw [if_pos (by omega)] | rw [if_neg (by omega)]))) (by simp only [tnI]; first | (rw [decide_eq_true (by omega)]; rfl) | (rw [decide_eq_false (by omega)]; rfl)), rfl⟩)
 refine AW.skip (sR (sM ?_))
 refine Z11 (zs := [_, _, _, _]) (r := [_, _, _, _]) [(0, 1), (1, 1), (2, 1), (3, 1)] Fx.ze34 Fx.bp34 ?_
 refine Z2 (r := [_, _, _, _]) Fx.ty34 ?_
 refine Z7 (AW.ret ?_)
 exact f1 (.cellL rfl rfl Fx.ty34 rfl rfl .nil) (⟨tsCe (by simp only [tkI]; (repeat (first | rw [if_pos (by omega)] | rw [if_neg (by omega)]))) (by simp only [tnI]; first | (rw [decide_eq_true (by omega)]; rfl) | (rw [decide_eq_false (by omega)]; rfl)), rfl⟩)
theorem constant_any (b : Bool) : Pure Tryz.prog 40 [bC b] (.c (fmC (cst b))) := by
 intro H
 refine Spec.enter Tryz.func40 rfl ?_
 refine AW.wk (Wk.keep 6 [(0, .c (bC b))] [] (H) rfl ⟨rfl, trivial⟩ trivial (fun _ _ h => h) rfl) ?_
 refine sR (Z16 (r := [_, _, _, _, _, _, _, _, _, _, _]) Fx.ze39 ?_)
 refine Z7 (AW.seq (sR (sM ?_)))
 refine Z7 ?_
 refine AW.cond _ rfl (fun h3 => ?_) (fun h3 => ?_)
 ·
  refine sR (Z11 (zs := [_, _, _, _, _, _, _, _, _, _, _]) (r := [_, _, _, _, _, _, _, _, _, _, _]) [(0, 1), (1, 9), (10, 1)] Fx.ze39 Fx.bp39 ?_)
  refine Z47 4 XW.fmN ?_
  refine Z47 4 XW.fmA ?_
  refine Z2 (r := [_, _, _, _, _, _, _, _, _, _, _]) Fx.ty39 ?_
  refine Z7 (AW.ret ?_)
  exact f1 (.cellL rfl rfl Fx.ty39 rfl rfl .nil) (⟨by obtain rfl : b = true := h3; rfl, rfl⟩)
 refine AW.skip (sR (Z11 (zs := [_, _, _, _, _, _, _, _, _, _, _]) (r := [_, _, _, _, _, _, _, _, _, _, _]) [(0, 1), (1, 9), (10, 1)] Fx.ze39 Fx.bp39 ?_))
 refine Z47 5 XW.fmN ?_
 refine Z47 5 XW.fmA ?_
 refine Z2 (r := [_, _, _, _, _, _, _, _, _, _, _]) Fx.ty39 ?_
 refine Z7 (AW.ret ?_)
 exact f1 (.cellL rfl rfl Fx.ty39 rfl rfl .nil) (⟨by obtain rfl : b = false := h3; rfl, rfl⟩)
theorem atomic_any (a : At) : Pure Tryz.prog 65 [atC a] (.c (fmC (atF a))) := by
 intro H
 refine Spec.enter Tryz.func65 rfl ?_
 refine AW.wk (Wk.keep 5 [(0, .c (atC a))] [] (H) rfl ⟨rfl, trivial⟩ trivial (fun _ _ h => h) rfl) ?_
 refine sR (Z20 (r := [_, _, _, _, _, _, _, _, _]) ?_)
 refine Z16 (r := [_, _, _, _, _, _, _, _, _, _, _]) Fx.ze39 ?_
 refine Z7 (sR (Z10 (r := .g [_, _, _, _, _, _, _, _, _]) Fx.ty36 ?_))
 refine Z11 (zs := [_, _, _, _, _, _, _, _, _, _, _]) (r := [_, _, _, _, _, _, _, _, _, _, _]) [(0, 1), (1, 9), (10, 1)] Fx.ze39 Fx.bp39 ?_
 refine Z47 4 XW.fmA ?_
 refine Z2 (r := [_, _, _, _, _, _, _, _, _, _, _]) Fx.ty39 ?_
 refine Z7 (AW.ret ?_)
 exact f1 (.cellL rfl rfl Fx.ty39 rfl rfl .nil) (⟨rfl, rfl⟩)
theorem list_any (k : Int) (l : List Fm) (z : Nz) (hl : l.length ≤ 1000000000000000000) : Pure Tryz.prog 41 [iC k, fsC z l] (.c (fmC (lsF k l))) := by
 intro H
 refine Spec.enter Tryz.func41 rfl ?_
 refine AW.wk (Wk.keep 14 [(0, .c (iC k)), (1, .c (fsC z l))] [] (H) rfl ⟨rfl, rfl, trivial⟩ trivial (fun _ _ h => h) rfl) ?_
 refine sR (Z16 (r := [_, _, _, _, _, _, _, _, _, _, _]) Fx.ze39 ?_)
 refine Z7 (AW.seq (sR (sM ?_)))
 refine Z22 Fx.un37 ?_
 refine Z9 ?_
 refine Z7 ?_
 refine cD ?_ ?_ <;> intro h7
 ·
  have hln : l.length = 1 := by rw [List.length_map] at h7; omega
  have h0 : 0 < l.length := by omega
  refine sR (sM ?_)
  refine Z24 Fx.sl37 (idx_fm h0) ?_
  refine Z28 (.g [_, _, _, _, _, _, _, _, _, _, _]) Fx.ty39 ?_
  refine Z2 (r := [_, _, _, _, _, _, _, _, _, _, _]) Fx.ty39 ?_
  refine Z7 (AW.ret ?_)
  exact f1 (.cellL rfl rfl Fx.ty39 rfl rfl .nil) (⟨fmCe (lsF_one hln h0).symm, rfl⟩)
 refine AW.skip (sR (sM ?_))
 refine sM ?_
 refine Z11 (zs := [_, _, _, _, _, _, _, _, _, _, _]) (r := [_, _, _, _, _, _, _, _, _, _, _]) [(0, 1), (1, 9), (10, 1)] Fx.ze39 Fx.bp39 ?_
 refine Z47 13 XW.fmN ?_
 refine Z47 13 XW.fmZ ?_
 refine Z2 (r := [_, _, _, _, _, _, _, _, _, _, _]) Fx.ty39 ?_
 refine Z7 (AW.ret ?_)
 exact f1 (.cellL rfl rfl Fx.ty39 rfl rfl .nil) (⟨fmCe (lsF_ne (by rw [List.length_map] at h7; omega)).symm, rfl⟩)
abbrev FB (f : FuncId) (cs : List A) (H : Heap) (c : C) (b : Bool) : Prop := ∀ H' : Heap, (∀ j o, H j = some o → H' j = some o) → E.Spec Tryz.prog f (c :: cs.map C.a) H' fun x H'' => x = .c (bC b) ∧ H'' = H'
theorem bI {p : Prop} {b : Bool} [Decidable p] (h : b = true ↔ p) : b = decide p := by
  by_cases hp : p
  · rw [decide_eq_true hp]; exact h.2 hp
  · rw [decide_eq_false hp]; cases b with
    | false => rfl
    | true => exact absurd (h.1 rfl) hp
def ixF {α : Type} (p : α → Bool) : List α → Nat → Int
  | [], _ => -1
  | a :: r, i => if p a = true then (i : Int) else ixF p r (i + 1)
theorem ixF_hit {α : Type} {p : α → Bool} {l : List α} {i : Nat} (hi : i < l.length) (h : p l[i] = true) : ixF p (l.drop i) i = i := by
  rw [List.drop_eq_getElem_cons hi, ixF, if_pos h]
theorem ixF_miss {α : Type} {p : α → Bool} {l : List α} {i : Nat} (hi : i < l.length) (h : p l[i] = false) : ixF p (l.drop i) i = ixF p (l.drop (i + 1)) (i + 1) := by
  rw [List.drop_eq_getElem_cons hi, ixF, if_neg (by rw [h]; simp)]
theorem ixF_any {α : Type} {p : α → Bool} : ∀ (l : List α) (i : Nat), 0 ≤ ixF p l i ↔ l.any p = true
  | [], i => by simp [ixF]
  | a :: r, i => by
    rw [ixF]
    by_cases h : p a = true
    · rw [if_pos h]; simp [h]
    · rw [if_neg h, ixF_any r (i + 1)]; simp [h]
theorem idxF_fm (H : Heap) (f : FuncId) (cs : List A) (gv : Fm → Bool) (l : List Fm) (z : Nz) (hfn : fnB Tryz.prog f = true) (hl : l.length ≤ 1000000000000000000) (hcall : ∀ x ∈ l, FB f cs H (fmC x) (gv x)) : E.Spec Tryz.prog 51 [fsC z l, .a (.fn f cs)] H fun x H' => x = .c (iC (ixF gv l 0)) ∧ H' = H := by
 refine Spec.enter Tryz.func51 rfl ?_
 refine AW.wk (Wk.keep 19 [(0, .c (fsC z l)), (1, .c (.a (.fn f cs)))] [] (H) rfl ⟨rfl, rfl, trivial⟩ trivial (fun _ _ h => h) rfl) ?_
 refine sR (sB ?_)
 refine AW.seq (sR (sM ?_))
 refine Z22 Fx.un37 ?_
 refine sM ?_
 refine Z7 (AW.block ?_)
 refine AW.loop (fun (i : Nat) s => (i ≤ l.length ∧ ixF gv (l.drop i) i = ixF gv l 0) ∧ s = ⟨19, sp [(0, .c (fsC z l)), (1, .c (.a (.fn f cs))), (4, .c (iC 0)), (7, iX .i64 (((l.map fmT').length : Nat) : Int)), (8, iX .i64 ((i : Nat) : Int))], lv [], H⟩) (fun i => l.length - i) 0 ⟨_, by exact Wk.keep 19 _ _ _ rfl ⟨rfl, rfl, rfl, rfl, rfl, trivial⟩ trivial (fun _ _ h => h) rfl, ⟨Nat.zero_le _, rfl⟩, rfl⟩ (fun i s hs => ?_)
 obtain ⟨⟨hi0, hI⟩, rfl⟩ := hs
 refine sR (Z30 ?_)
 refine Z7 (AW.seq ?_)
 refine cD ?_ ?_ <;> intro h9
 ·
  have hi : i < l.length := by rw [List.length_map] at h9; omega
  refine AW.skip (AW.seq (AW.block (sR (sM ?_))))
  refine sB ?_
  refine sR (sM ?_)
  refine sM ?_
  refine sM ?_
  refine Z24 Fx.sl37 (idx_fm hi) ?_
  refine Z28 (.g [_, _, _, _, _, _, _, _, _, _, _]) Fx.ty39 ?_
  refine SeqK.r (g_callV (f := f) (cs := cs) rfl rfl hfn rfl (hcall _ (List.getElem_mem hi) _ (fun _ _ h => h)) rfl rfl rfl) rfl ?_
  refine Z7 ?_
  refine AW.cond _ rfl (fun h16 => ?_) (fun h16 => ?_)
  ·
   refine sR (sM ?_)
   refine sB ?_
   exact aR (f1 (q := ⟨iCe2 (by rw [← hI, ixF_hit hi h16]), rfl⟩))
  refine AW.skip (AW.reg (Z13 ?_))
  refine sM ?_
  refine Z7 ?_
  exact ⟨i + 1, _, by exact Wk.keep 19 _ _ _ rfl ⟨rfl, rfl, rfl, rfl, rfl, trivial⟩ trivial (fun _ _ h => h) rfl, by omega, ⟨hi, by rw [← hI, ixF_miss hi h16]⟩, rfl⟩
 refine AW.exit ?_
 refine eth_e ?_
 refine eth_e ?_
 refine exit_here ?_
 refine sR (sB ?_)
 exact aR (f1 (q := ⟨iCe2 (by rw [← hI, List.drop_eq_nil_of_le (by rw [List.length_map] at h9; omega), ixF]), rfl⟩))
theorem anyF_fm (H : Heap) (f : FuncId) (cs : List A) (gv : Fm → Bool) (l : List Fm) (z : Nz) (hfn : fnB Tryz.prog f = true) (hl : l.length ≤ 1000000000000000000) (hcall : ∀ x ∈ l, FB f cs H (fmC x) (gv x)) : E.Spec Tryz.prog 22 [fsC z l, .a (.fn f cs)] H fun x H' => x = .c (bC (l.any gv)) ∧ H' = H := by
 refine Spec.enter Tryz.func22 rfl ?_
 refine AW.wk (Wk.keep 9 [(0, .c (fsC z l)), (1, .c (.a (.fn f cs)))] [] (H) rfl ⟨rfl, rfl, trivial⟩ trivial (fun _ _ h => h) rfl) ?_
 refine sR (sB ?_)
 refine sR (sM ?_)
 refine sM ?_
 refine SeqK.r (g_call rfl Fx.fn51 rfl (idxF_fm H f cs gv l z hfn hl hcall) rfl rfl rfl) rfl ?_
 refine SeqK.q (q_geq rfl rfl rfl) rfl rfl rfl ?_
 refine sB ?_
 exact aR (f1 (q := ⟨bCe (bI (ixF_any l 0).symm).symm, rfl⟩))
theorem idxF_ex (H : Heap) (f : FuncId) (cs : List A) (gv : Ex → Bool) (l : List Ex) (z : Nz) (hfn : fnB Tryz.prog f = true) (hl : l.length ≤ 1000000000000000000) (hcall : ∀ x ∈ l, FB f cs H (exC x) (gv x)) : E.Spec Tryz.prog 93 [.a (.t (.sl z 8 (l.map exT'))), .a (.fn f cs)] H fun x H' => x = .c (iC (ixF gv l 0)) ∧ H' = H := by
 refine Spec.enter Tryz.func93 rfl ?_
 refine AW.wk (Wk.keep 19 [(0, .c (.a (.t (.sl z 8 (l.map exT'))))), (1, .c (.a (.fn f cs)))] [] (H) rfl ⟨rfl, rfl, trivial⟩ trivial (fun _ _ h => h) rfl) ?_
 refine sR (sB ?_)
 refine AW.seq (sR (sM ?_))
 refine Z22 Fx.un24 ?_
 refine sM ?_
 refine Z7 (AW.block ?_)
 refine AW.loop (fun (i : Nat) s => (i ≤ l.length ∧ ixF gv (l.drop i) i = ixF gv l 0) ∧ s = ⟨19, sp [(0, .c (.a (.t (.sl z 8 (l.map exT'))))), (1, .c (.a (.fn f cs))), (4, .c (iC 0)), (7, iX .i64 (((l.map exT').length : Nat) : Int)), (8, iX .i64 ((i : Nat) : Int))], lv [], H⟩) (fun i => l.length - i) 0 ⟨_, by exact Wk.keep 19 _ _ _ rfl ⟨rfl, rfl, rfl, rfl, rfl, trivial⟩ trivial (fun _ _ h => h) rfl, ⟨Nat.zero_le _, rfl⟩, rfl⟩ (fun i s hs => ?_)
 obtain ⟨⟨hi0, hI⟩, rfl⟩ := hs
 refine sR (Z30 ?_)
 refine Z7 (AW.seq ?_)
 refine cD ?_ ?_ <;> intro h9
 ·
  have hi : i < l.length := by rw [List.length_map] at h9; omega
  refine AW.skip (AW.seq (AW.block (sR (sM ?_))))
  refine sB ?_
  refine sR (sM ?_)
  refine sM ?_
  refine sM ?_
  refine Z24 Fx.sl24 (idx_ex hi) ?_
  refine Z28 (.g [_, _, _, _, _, _, _, _]) Fx.ty26 ?_
  refine SeqK.r (g_callV (f := f) (cs := cs) rfl rfl hfn rfl (hcall _ (List.getElem_mem hi) _ (fun _ _ h => h)) rfl rfl rfl) rfl ?_
  refine Z7 ?_
  refine AW.cond _ rfl (fun h16 => ?_) (fun h16 => ?_)
  ·
   refine sR (sM ?_)
   refine sB ?_
   exact aR (f1 (q := ⟨iCe2 (by rw [← hI, ixF_hit hi h16]), rfl⟩))
  refine AW.skip (AW.reg (Z13 ?_))
  refine sM ?_
  refine Z7 ?_
  exact ⟨i + 1, _, by exact Wk.keep 19 _ _ _ rfl ⟨rfl, rfl, rfl, rfl, rfl, trivial⟩ trivial (fun _ _ h => h) rfl, by omega, ⟨hi, by rw [← hI, ixF_miss hi h16]⟩, rfl⟩
 refine AW.exit ?_
 refine eth_e ?_
 refine eth_e ?_
 refine exit_here ?_
 refine sR (sB ?_)
 exact aR (f1 (q := ⟨iCe2 (by rw [← hI, List.drop_eq_nil_of_le (by rw [List.length_map] at h9; omega), ixF]), rfl⟩))
theorem anyF_ex (H : Heap) (f : FuncId) (cs : List A) (gv : Ex → Bool) (l : List Ex) (z : Nz) (hfn : fnB Tryz.prog f = true) (hl : l.length ≤ 1000000000000000000) (hcall : ∀ x ∈ l, FB f cs H (exC x) (gv x)) : E.Spec Tryz.prog 64 [.a (.t (.sl z 8 (l.map exT'))), .a (.fn f cs)] H fun x H' => x = .c (bC (l.any gv)) ∧ H' = H := by
 refine Spec.enter Tryz.func64 rfl ?_
 refine AW.wk (Wk.keep 9 [(0, .c (.a (.t (.sl z 8 (l.map exT'))))), (1, .c (.a (.fn f cs)))] [] (H) rfl ⟨rfl, rfl, trivial⟩ trivial (fun _ _ h => h) rfl) ?_
 refine sR (sB ?_)
 refine sR (sM ?_)
 refine sM ?_
 refine SeqK.r (g_call rfl Fx.fn93 rfl (idxF_ex H f cs gv l z hfn hl hcall) rfl rfl rfl) rfl ?_
 refine SeqK.q (q_geq rfl rfl rfl) rfl rfl rfl ?_
 refine sB ?_
 exact aR (f1 (q := ⟨bCe (bI (ixF_any l 0).symm).symm, rfl⟩))
theorem index_it (l : List Int) (z : Nz) (n : Int) (hl : l.length ≤ 1000000000000000000) : Pure Tryz.prog 103 [iL z l, iC n] (.c (iC (ixF (fun x => decide (n = x)) l 0))) := by
 intro H
 refine Spec.enter Tryz.func103 rfl ?_
 refine AW.wk (Wk.keep 19 [(0, .c (iL z l)), (1, .c (iC n))] [] (H) rfl ⟨rfl, rfl, trivial⟩ trivial (fun _ _ h => h) rfl) ?_
 refine sR (sB ?_)
 refine AW.seq (sR (sM ?_))
 refine Z22 Fx.un80 ?_
 refine sM ?_
 refine Z7 (AW.block ?_)
 refine AW.loop (fun (i : Nat) s => (i ≤ l.length ∧ ixF (fun x => decide (n = x)) (l.drop i) i = ixF (fun x => decide (n = x)) l 0) ∧ s = ⟨19, sp [(0, .c (iL z l)), (1, .c (iC n)), (4, .c (iC 0)), (7, iX .i64 (((l.map i64T).length : Nat) : Int)), (8, iX .i64 ((i : Nat) : Int))], lv [], H⟩) (fun i => l.length - i) 0 ⟨_, by exact Wk.keep 19 _ _ _ rfl ⟨rfl, rfl, rfl, rfl, rfl, trivial⟩ trivial (fun _ _ h => h) rfl, ⟨Nat.zero_le _, rfl⟩, rfl⟩ (fun i s hs => ?_)
 obtain ⟨⟨hi0, hI⟩, rfl⟩ := hs
 refine sR (Z30 ?_)
 refine Z7 (AW.seq ?_)
 refine cD ?_ ?_ <;> intro h9
 ·
  have hi : i < l.length := by rw [List.length_map] at h9; omega
  refine AW.skip (AW.seq (AW.block (sR (sM ?_))))
  refine sB ?_
  refine sR (sM ?_)
  refine sM ?_
  refine sM ?_
  refine Z24 Fx.sl80 (idx_map (f := i64T) hi) ?_
  refine Z28 (.a _) Fx.ty3 ?_
  refine Z9 ?_
  refine Z7 ?_
  refine cD ?_ ?_ <;> intro h16
  ·
   refine sR (sM ?_)
   refine sB ?_
   exact aR (f1 (q := ⟨iCe2 (by rw [← hI, ixF_hit hi (decide_eq_true h16)]), rfl⟩))
  refine AW.skip (AW.reg (Z13 ?_))
  refine sM ?_
  refine Z7 ?_
  exact ⟨i + 1, _, by exact Wk.keep 19 _ _ _ rfl ⟨rfl, rfl, rfl, rfl, rfl, trivial⟩ trivial (fun _ _ h => h) rfl, by omega, ⟨hi, by rw [← hI, ixF_miss hi (decide_eq_false h16)]⟩, rfl⟩
 refine AW.exit ?_
 refine eth_e ?_
 refine eth_e ?_
 refine exit_here ?_
 refine sR (sB ?_)
 exact aR (f1 (q := ⟨iCe2 (by rw [← hI, List.drop_eq_nil_of_le (by rw [List.length_map] at h9; omega), ixF]), rfl⟩))
theorem cont_it (l : List Int) (z : Nz) (n : Int) (hl : l.length ≤ 1000000000000000000) : Pure Tryz.prog 72 [iL z l, iC n] (.c (bC (decide (n ∈ l)))) := by
 intro H
 refine Spec.enter Tryz.func72 rfl ?_
 refine AW.wk (Wk.keep 9 [(0, .c (iL z l)), (1, .c (iC n))] [] (H) rfl ⟨rfl, rfl, trivial⟩ trivial (fun _ _ h => h) rfl) ?_
 refine sR (sB ?_)
 refine sR (sM ?_)
 refine sM ?_
 refine Z12 Fx.fn103 (index_it l z n hl) ?_
 refine SeqK.q (q_geq rfl rfl rfl) rfl rfl rfl ?_
 refine sB ?_
 exact aR (f1 (q := ⟨bCe (by simp only [decide_eq_decide]; exact (ixF_any l 0).trans (by simp)), rfl⟩))
theorem lit_of (e : Ex) (hl : e.args.length ≤ 1000000000000000000) (ih : ∀ a ∈ e.args, Pure Tryz.prog 39 [exC a] (.c (bC (nulB a)))) : Pure Tryz.prog 39 [exC e] (.c (bC (nulB e))) := by
 intro H
 refine Spec.enter Tryz.func39 rfl ?_
 refine AW.wk (Wk.keep 17 [(0, .c (exC e))] [] (H) rfl ⟨rfl, trivial⟩ trivial (fun _ _ h => h) rfl) ?_
 refine sR (Z20 (r := [_, _, _, _, _, _, _, _]) ?_)
 refine sB ?_
 refine sR (Z1 Fx.fl26_0 ?_)
 refine Z0 Fx.ty3 ?_
 refine Z9 ?_
 refine Z17 ?_ ?_ <;> intro g6
 ·
  refine Z5 Fx.fl26_4 ?_
  refine Z5 Fx.fl23_0 ?_
  refine Z3 Fx.ty3 ?_
  refine Z21 ?_
  refine Z8 ?_
  refine Z17 ?_ ?_ <;> intro g12
  ·
   iterate 3 refine oF ?_
   refine Z8 ?_
   refine sB ?_
   exact aR (f1 (q := ⟨bCe (by rw [nulB_eq]; first | (rw [decide_eq_true (by omega)]; rfl) | (rw [decide_eq_false (by omega)]; simp)), rfl⟩))
  refine Z5 Fx.fl26_5 ?_
  refine Z3 Fx.ty24 ?_
  refine SeqK.rOn (g_call rfl Fx.fn64 rfl (Spec.arg (l := [.a (.t (.sl .un 8 (e.args.map exT')))]) (r := []) XW.fn0 (anyF_ex _ 39 [] nulB e.args .un Fx.fn39 hl fun a ha H1 h1 => ih a ha H1)) rfl rfl rfl) rfl rfl rfl ?_
  refine Z4 ?_
  refine sB ?_
  exact aR (f1 (q := ⟨bCe (by rw [nulB_eq]; first | (rw [decide_eq_true (by omega)]; rfl) | (rw [decide_eq_false (by omega)]; simp)), rfl⟩))
 iterate 4 refine oF ?_
 refine Z4 ?_
 refine sM ?_
 refine Z5 Fx.fl26_5 ?_
 refine Z3 Fx.ty24 ?_
 refine SeqK.rOn (g_call rfl Fx.fn64 rfl (Spec.arg (l := [.a (.t (.sl .un 8 (e.args.map exT')))]) (r := []) XW.fn0 (anyF_ex _ 39 [] nulB e.args .un Fx.fn39 hl fun a ha H1 h1 => ih a ha H1)) rfl rfl rfl) rfl rfl rfl ?_
 refine Z4 ?_
 refine sB ?_
 exact aR (f1 (q := ⟨bCe (by rw [nulB_eq]; first | (rw [decide_eq_true (by omega)]; rfl) | (rw [decide_eq_false (by omega)]; simp)), rfl⟩))
theorem lit_any (e : Ex) : rgE' e → Pure Tryz.prog 39 [exC e] (.c (bC (nulB e))) := by
  induction e using Ex.ind with
  | h e ih =>
    intro hr
    have h := (rgE_eq e).1 hr
    exact lit_of e h.1.2.2.2 fun a ha => ih a ha (h.2 a ha)
theorem nls_put {k : Int} {l : List Int} {i : Nat} (hi : i < l.length) : nlsF k (l.take (i + 1)) = nlsF k (l.take i) ++ [atF ⟨k, l[i], 0, tm0, 0, 0, false, ⟨#[]⟩⟩] := by
  rw [nlsF, List.take_succ_eq_append_getElem hi, List.map_append]; rfl
theorem nulls_any (k : Int) (l : List Int) (z : Nz) (hl : l.length ≤ 1000000) : Pure Tryz.prog 42 [iC k, iL z l] (.c (fsC .un (nlsF k l))) := by
 intro H
 refine Spec.enter Tryz.func42 rfl ?_
 refine AW.wk (Wk.keep 23 [(0, .c (iC k)), (1, .c (iL z l))] [] (H) rfl ⟨rfl, rfl, trivial⟩ trivial (fun _ _ h => h) rfl) ?_
 refine sR (sB ?_)
 refine sR (sB ?_)
 refine AW.seq (sR (sM ?_))
 refine Z22 Fx.un80 ?_
 refine sM ?_
 refine Z7 (AW.block ?_)
 refine AW.tip 5 39 11 rfl (fun k0 hk0 => ?_)
 refine AW.loop (fun (i : Nat) s => ∃ (kt : Nat) (zs : List (List E.T)), (i ≤ l.length ∧ H kt = none ∧ zs = (nlsF k (l.take i)).map fmT') ∧ s = ⟨23, sp [(0, .c (iC k)), (5, .c (.a (.ts kt .ne 11 zs))), (8, .c (iL z l)), (9, iX .i64 (((l.map i64T).length : Nat) : Int)), (10, iX .i64 ((i : Nat) : Int))], lv [], upd H kt (some (.tip 39 11 zs.length))⟩) (fun i => l.length - i) 0 ⟨_, by exact Wk.keep 23 _ _ _ rfl ⟨rfl, rfl, rfl, rfl, rfl, trivial⟩ trivial (fun _ _ h => h) rfl, k0, [], ⟨Nat.zero_le _, hk0, rfl⟩, rfl⟩ (fun i s hs => ?_)
 obtain ⟨kt, zs, ⟨hi0, hkt, hzs⟩, rfl⟩ := hs
 refine sR (Z30 ?_)
 refine Z7 (AW.seq ?_)
 refine cD ?_ ?_ <;> intro h11
 ·
  have hi : i < l.length := by rw [List.length_map] at h11; omega
  refine AW.skip (AW.seq (AW.block (sR (Z24 Fx.sl80 (idx_map (f := i64T) hi) ?_))))
  refine Z28 (.a _) Fx.ty3 ?_
  refine sB ?_
  refine AW.reg (sM ?_)
  refine sM ?_
  refine sM ?_
  refine Z11 (zs := [_, _, _, _, _, _, _, _, _]) (r := [_, _, _, _, _, _, _, _, _]) [(0, 1), (1, 1), (2, 1), (3, 2), (5, 4)] Fx.ze36 Fx.bp36 ?_
  refine Z47 17 XW.atN ?_
  refine Z12 Fx.fn65 (atomic_any ⟨k, l[i], 0, tm0, 0, 0, false, ⟨#[]⟩⟩) ?_
  refine Z27 Fx.el37 ?_
  refine SeqK.app1 rfl (hkt) rfl Fx.el37 rfl rfl (by simp [hzs]; omega) rfl rfl (fun k20 hk20 => ?_)
  refine sB ?_
  refine AW.reg (Z13 ?_)
  refine sM ?_
  refine Z7 ?_
  exact ⟨i + 1, _, by exact Wk.keep 23 _ _ _ rfl ⟨rfl, rfl, rfl, rfl, rfl, trivial⟩ trivial (fun _ _ h => h) rfl, by omega, k20, zs ++ [fmL (atF ⟨k, l[i], 0, tm0, 0, 0, false, ⟨#[]⟩⟩)], ⟨hi, hk20, by rw [hzs, nls_put hi, List.map_append, List.map_singleton, fmT_eq]⟩, rfl⟩
 refine AW.exit ?_
 refine eth_e ?_
 refine eth_e ?_
 refine exit_here ?_
 refine AW.seq ?_
 obtain rfl : i = l.length := by rw [List.length_map] at h11; omega
 rw [List.take_length] at hzs
 refine AW.xw 5 rfl (XW.ts.trans (XW.es hzs)) ?_
 refine AW.reg (sM ?_)
 refine sB ?_
 exact aR (fin_x (x := .c _) (H) (.tmp rfl .nil) rfl ((fun j o h => upd_sub hkt j o h)) (⟨rfl, rfl⟩))
theorem cr_len (l : List Ex) (i : Nat) : (colRs (l.take i)).length ≤ (colRs l).length := by
  have h : colRs l = colRs (l.take i) ++ colRs (l.drop i) := by rw [← colRs_app, List.take_append_drop]
  rw [h, List.length_append]; omega
theorem cr_take {l : List Ex} {i : Nat} (h : i < l.length) : (colRs (l.take (i + 1))).length = (colRs (l.take i)).length + (colR l[i]).length := by
  rw [colRs_take h, List.length_append]
theorem cr_eqL (e : Ex) : (colR e).length = (if e.op = 2 then 1 else 0) + (colRs e.args).length := by
  rw [colR_eq, List.length_append]; split <;> rfl
theorem cr_mem {l : List Ex} {a : Ex} (h : a ∈ l) : (colRs a.args).length ≤ (colRs l).length := by
  obtain ⟨i, hi, rfl⟩ := List.mem_iff_getElem.1 h
  have h1 := cr_take hi
  have h2 := cr_len l (i + 1)
  have h3 := cr_eqL l[i]
  omega
theorem cr_two {l : List Ex} {i : Nat} (hi : i < l.length) (h : l[i].op = 2) {xs : List Int} (hI : dd xs = dd (colRs (l.take i))) : dd (xs ++ [l[i].ix] ++ colsL l[i].args) = dd (colRs (l.take (i + 1))) := by
  rw [dd_app2, List.append_assoc, ← dd_app, hI, dd_app, colRs_take hi, colR_eq, if_pos h]
theorem cr_no {l : List Ex} {i : Nat} (hi : i < l.length) (h : ¬ l[i].op = 2) {xs : List Int} (hI : dd xs = dd (colRs (l.take i))) : dd (xs ++ colsL l[i].args) = dd (colRs (l.take (i + 1))) := by
  rw [dd_app2, ← dd_app, hI, dd_app, colRs_take hi, colR_eq, if_neg h, List.nil_append]
theorem cols_of (H : Heap) (l : List Ex) (z : Nz) (hl : l.length ≤ 1000000000000000000) (hN : (colRs l).length ≤ 100000) (ih : ∀ a ∈ l, Pure Tryz.prog 43 [.a (.t (.sl .un 8 (a.args.map exT')))] (.c (iL .un (colsL a.args)))) : E.Spec Tryz.prog 43 [.a (.t (.sl z 8 (l.map exT')))] H fun x H' => ∃ k, H k = none ∧ x = .c (.a (.os k 0 (colsL l).length 1)) ∧ H' = upd H k (some (.row 3 1 ((colsL l).map iA))) := by
 refine Spec.enter Tryz.func43 rfl ?_
 refine AW.wk (Wk.keep 30 [(0, .c (.a (.t (.sl z 8 (l.map exT')))))] [] (H) rfl ⟨rfl, trivial⟩ trivial (fun _ _ h => h) rfl) ?_
 refine sR (sB ?_)
 refine sR (sB ?_)
 refine AW.seq (sR (sM ?_))
 refine Z22 Fx.un24 ?_
 refine sM ?_
 refine Z7 (AW.block ?_)
 refine AW.row 3 3 1 rfl (fun k0 hk0 => ?_)
 refine AW.loop (fun (i : Nat) s => ∃ (k : Nat) (xs : List Int), (i ≤ l.length ∧ H k = none ∧ xs.length ≤ (colRs (l.take i)).length ∧ dd xs = dd (colRs (l.take i))) ∧ s = ⟨30, sp [(2, .c (.a (.t (.v (.slice none 0 0))))), (3, .c (.a (.os k 0 xs.length 1))), (6, .c (.a (.t (.sl z 8 (l.map exT'))))), (7, iX .i64 (((l.map exT').length : Nat) : Int)), (8, iX .i64 ((i : Nat) : Int))], lv [], upd H k (some (.row 3 1 (xs.map iA)))⟩) (fun i => l.length - i) 0 ⟨_, by exact Wk.keep 30 _ _ _ rfl ⟨rfl, rfl, rfl, rfl, rfl, trivial⟩ trivial (fun _ _ h => h) rfl, k0, [], ⟨Nat.zero_le _, hk0, by simp, rfl⟩, rfl⟩ (fun i s hs => ?_)
 obtain ⟨k, xs, ⟨hi0, hk, hxl, hI⟩, rfl⟩ := hs
 refine sR (Z30 ?_)
 refine Z7 (AW.seq ?_)
 refine cD ?_ ?_ <;> intro h9
 rotate_left
 ·
  refine AW.exit ?_
  refine eth_e ?_
  refine eth_e ?_
  refine exit_here ?_
  refine AW.seq ?_
  have hil : i = l.length := by rw [List.length_map] at h9; omega
  subst hil
  rw [List.take_length] at hI hxl
  have hvx : colsL l = dd xs := hI.symm
  refine AW.reg (sM ?_)
  refine SeqK.callE rfl rfl rfl rfl Fx.fn66 rfl (sortV _ k xs (upd_same _ _ _) (by omega)) (fun _ _ ⟨h, _⟩ => by rw [h]; rfl) (fun x27 H27 q27 => ?_)
  obtain ⟨rfl, hHs⟩ := q27
  rw [upd_upd] at hHs
  subst hHs
  have hml : (xs.mergeSort fun x y => decide (x ≤ y)).length = xs.length := List.length_mergeSort xs
  rw [← hml]
  refine Z7 (sR (sM ?_))
  refine SeqK.callE rfl rfl rfl rfl Fx.fn67 rfl (compactV _ k _ (upd_same _ _ _) (by omega)) (fun _ _ ⟨h, _⟩ => by rw [h]; rfl) (fun x29 H29 q29 => ?_)
  obtain ⟨rfl, hHs⟩ := q29
  rw [upd_upd] at hHs
  subst hHs
  refine sB ?_
  exact aR (fin_x (x := .c _) (_) (.tmp rfl .nil) rfl (fun _ _ h => h) (⟨k, hk, by rw [hvx]; rfl, by rw [hvx]; rfl⟩))
 have hi : i < l.length := by rw [List.length_map] at h9; omega
 have hcp := cr_take hi
 have hcl := cr_len l (i + 1)
 have hce := cr_eqL l[i]
 have hdl : (colsL l[i].args).length ≤ (colRs l[i].args).length := dd_len _
 refine AW.skip (AW.seq (AW.block (sR (Z24 Fx.sl24 (idx_ex hi) ?_))))
 refine Z28 (.g [_, _, _, _, _, _, _, _]) Fx.ty26 ?_
 refine Z16 (r := [_, _, _, _, _, _, _, _]) Fx.ze26 ?_
 refine Z2 (r := [_, _, _, _, _, _, _, _]) Fx.ty26 ?_
 refine Z7 (AW.seq (sR (Z1 Fx.fl26_0 ?_)))
 refine Z0 Fx.ty3 ?_
 refine Z9 ?_
 refine Z7 ?_
 refine cD ?_ ?_ <;> intro h14
 ·
  refine AW.reg (sM ?_)
  refine Z1 Fx.fl26_3 ?_
  refine Z0 Fx.ty3 ?_
  refine Z27 Fx.el80 ?_
  refine SeqK.appR1 rfl (by assumption) rfl Fx.el80 rfl (by simp) rfl (by first | (simp only [List.length_append, List.length_singleton, List.length_map, List.length_cons, List.length_nil] at *; omega) | (simp; omega)) rfl rfl (fun k19 hk19 => ?_)
  rw [show List.map iA xs ++ List.map A.t (List.flatten [[E.T.v (.int .i64 l[i].ix)]]) = (xs ++ [l[i].ix]).map iA by simp, show xs.length + [[E.T.v (.int .i64 l[i].ix)]].length = (xs ++ [l[i].ix]).length by simp]
  refine sB ?_
  refine AW.reg (sM ?_)
  refine Z1 Fx.fl26_5 ?_
  refine Z0 Fx.ty24 ?_
  refine Z12 Fx.fn43 (ih _ (List.getElem_mem hi)) ?_
  refine SeqK.appR1 rfl (by assumption) rfl Fx.el80 rfl (by simp) rfl (by first | (simp only [List.length_append, List.length_singleton, List.length_map, List.length_cons, List.length_nil] at *; omega) | (simp; omega)) rfl rfl (fun k24 hk24 => ?_)
  rw [flatI, ← List.map_append, show ∀ n : Nat, n + ((colsL l[i].args).map i64T).length = n + (colsL l[i].args).length from fun n => by rw [List.length_map], ← List.length_append]
  refine sB ?_
  refine AW.reg (Z13 ?_)
  refine sM ?_
  refine Z7 ?_
  exact ⟨i + 1, _, by exact Wk.keep 30 _ _ _ rfl ⟨rfl, rfl, rfl, rfl, rfl, trivial⟩ trivial (fun _ _ h => h) rfl, by omega, k24, xs ++ [l[i].ix] ++ colsL l[i].args, ⟨hi, hk24, by rw [if_pos h14] at hce; simp only [List.length_append, List.length_singleton]; omega, cr_two hi h14 hI⟩, rfl⟩
 refine AW.skip (AW.reg (sM ?_))
 refine Z1 Fx.fl26_5 ?_
 refine Z0 Fx.ty24 ?_
 refine Z12 Fx.fn43 (ih _ (List.getElem_mem hi)) ?_
 refine SeqK.appR1 rfl (by assumption) rfl Fx.el80 rfl (by simp) rfl (by first | (simp only [List.length_append, List.length_singleton, List.length_map, List.length_cons, List.length_nil] at *; omega) | (simp; omega)) rfl rfl (fun k24 hk24 => ?_)
 rw [flatI, ← List.map_append, show ∀ n : Nat, n + ((colsL l[i].args).map i64T).length = n + (colsL l[i].args).length from fun n => by rw [List.length_map], ← List.length_append]
 refine sB ?_
 refine AW.reg (Z13 ?_)
 refine sM ?_
 refine Z7 ?_
 exact ⟨i + 1, _, by exact Wk.keep 30 _ _ _ rfl ⟨rfl, rfl, rfl, rfl, rfl, trivial⟩ trivial (fun _ _ h => h) rfl, by omega, k24, xs ++ colsL l[i].args, ⟨hi, hk24, by rw [if_neg h14] at hce; simp only [List.length_append]; omega, cr_no hi h14 hI⟩, rfl⟩
theorem cols_fz (l : List Ex) (z : Nz) (hl : l.length ≤ 1000000000000000000) (hN : (colRs l).length ≤ 100000) (ih : ∀ a ∈ l, Pure Tryz.prog 43 [.a (.t (.sl .un 8 (a.args.map exT')))] (.c (iL .un (colsL a.args)))) : Pure Tryz.prog 43 [.a (.t (.sl z 8 (l.map exT')))] (.c (iL .un (colsL l))) := fun H => by
  refine E.Spec.freeze (cols_of H l z hl hN ih) fun x H' ⟨k, hk, hx, hH⟩ => ?_
  subst hx hH
  refine ⟨k, 1, 3, (colsL l).map i64T, by rw [upd_same, flatI], fun e he => by obtain ⟨p, _, rfl⟩ := List.mem_map.1 he; rfl, by decide, ?_, upd_back hk⟩
  simp [fzX, fzC, fzA]
theorem cols_arg (e : Ex) : rgE' e → (colRs e.args).length ≤ 100000 → Pure Tryz.prog 43 [.a (.t (.sl .un 8 (e.args.map exT')))] (.c (iL .un (colsL e.args))) := by
  induction e using Ex.ind with
  | h e ih =>
    intro hr hN
    have h := (rgE_eq e).1 hr
    exact cols_fz e.args .un h.1.2.2.2 hN fun a ha => ih a ha (h.2 a ha) (by have := cr_mem ha; omega)
theorem cols_any (l : List Ex) (z : Nz) (hl : l.length ≤ 1000000000000000000) (hr : ∀ a ∈ l, rgE' a) (hN : (colRs l).length ≤ 100000) : Pure Tryz.prog 43 [.a (.t (.sl z 8 (l.map exT')))] (.c (iL .un (colsL l))) :=
  cols_fz l z hl hN fun a ha => cols_arg a (hr a ha) (by have := cr_mem ha; omega)
theorem sh_cols : ∀ (d : Nat) (e : Ex), shP d e → (colR e).length + 1 ≤ 2 ^ d
  | 0, e, h => h.elim
  | d + 1, e, h => by
    have hs := fun a ha => sh_cols d a (h.2 a ha)
    have hp := pw_pos d
    rw [cr_eqL, Nat.pow_succ]
    have h1 := h.1
    match ha : e.args, h1 with
    | [], _ => simp [colRs]; split <;> omega
    | [a], _ => have := hs a (by simp [ha]); simp only [colRs, List.append_nil]; split <;> omega
    | [a, b], _ => have := hs a (by simp [ha]); have := hs b (by simp [ha]); simp only [colRs, List.append_nil, List.length_append]; split <;> omega
theorem sh_crs {e : Ex} (h : shP 13 e) : (colRs e.args).length ≤ 100000 := by
  have h1 := sh_cols 13 e h
  have h2 := cr_eqL e
  have : (2 : Nat) ^ 13 = 8192 := by decide
  omega
theorem i64_len (v : Int) : (i64T v).length = 1 := rfl
theorem row_i64 {l : List Int} {i : Nat} (hi : i < l.length) : mkC false (((rowE i64T l).drop (0 + ((i : Nat) : Int).toNat * 1)).take 1) = iC l[i] := by
  rw [Int.toNat_natCast, row_load i64_len hi]; rfl
theorem rst_i64 {l : List Int} {i : Nat} {v : Int} (hi : i < l.length) : splice (rowE i64T l) (0 + ((i : Nat) : Int).toNat * 1) (iC v).cells = rowE i64T (l.set i v) := by
  rw [Int.toNat_natCast]; exact row_st i64_len hi v
theorem rin_i64 {l : List Int} {i : Nat} (hi : i < l.length) : 0 + ((i : Nat) : Int).toNat * 1 + 1 ≤ (rowE i64T l).length := by
  rw [Int.toNat_natCast]; exact row_in0 i64_len hi
theorem rlen_i64 (l : List Int) : (rowE i64T l).length = l.length := by rw [rowE_len i64_len]; omega
theorem sp_tail {r : List Int} {i n : Nat} (h1 : i ≤ r.length) (h2 : i + n = r.length) : splice (rowE i64T r) i (List.replicate n (A.t (.v (.int .i64 0)))) = rowE i64T (r.take i ++ List.replicate n 0) := by
  have e : ∀ m : List Int, rowE i64T m = m.map iA := fun m => flatI m
  rw [e, e, E.splice, List.map_append, List.map_take, List.map_replicate, List.length_replicate, List.drop_eq_nil_of_le (by rw [List.length_map]; omega), List.append_nil]
theorem ixF_spec {p : Int → Bool} : ∀ (l : List Int) (i : Nat), (ixF p l i = -1 ∧ ∀ a ∈ l, p a = false) ∨ ∃ k, ∃ h : k < l.length, ixF p l i = ((i + k : Nat) : Int) ∧ p l[k] = true ∧ (l.take k).filter (fun v => !p v) = l.take k
  | [], i => .inl ⟨by rw [ixF], by simp⟩
  | a :: r, i => by
    rw [ixF]
    by_cases h : p a = true
    · exact .inr ⟨0, by simp, by rw [if_pos h]; rfl, h, rfl⟩
    · have h' : p a = false := by simpa using h
      rw [if_neg h]
      rcases ixF_spec (p := p) r (i + 1) with ⟨h1, h2⟩ | ⟨k, hk, h1, h2, h3⟩
      · refine .inl ⟨h1, fun b hb => ?_⟩
        rcases List.mem_cons.1 hb with rfl | hb
        · exact h'
        · exact h2 b hb
      · refine .inr ⟨k + 1, by simp; omega, by rw [h1]; congr 1; omega, by simpa using h2, ?_⟩
        rw [List.take_succ_cons, List.filter_cons, if_pos (by rw [h']; rfl), h3]
structure KI (p : Int → Bool) (l r : List Int) (i j : Nat) : Prop where
  len : r.length = l.length
  low : r.take i = (l.take j).filter (fun v => !p v)
  high : ∀ q, j ≤ q → r[q]? = l[q]?
  lt : i < j
  le : j ≤ l.length
theorem KI.start {p : Int → Bool} {l : List Int} {k : Nat} (hk : k < l.length) (h1 : p l[k] = true) (h2 : (l.take k).filter (fun v => !p v) = l.take k) : KI p l l k (k + 1) where
  len := rfl
  low := by rw [List.take_succ_eq_append_getElem hk, List.filter_append, h2]; simp [h1]
  high := fun _ _ => rfl
  lt := by omega
  le := by omega
theorem KI.at {p : Int → Bool} {l r : List Int} {i j : Nat} (h : KI p l r i j) (hj : j < l.length) : ∃ h2 : j < r.length, r[j] = l[j] := by
  have hl := h.len
  have h2 := h.high j (Nat.le_refl _)
  rw [List.getElem?_eq_getElem (by omega), List.getElem?_eq_getElem hj] at h2
  exact ⟨by omega, Option.some.inj h2⟩
theorem KI.keep {p : Int → Bool} {l r : List Int} {i j : Nat} (h : KI p l r i j) (hj : j < l.length) (hp : p l[j] = false) : KI p l (r.set i l[j]) (i + 1) (j + 1) where
  len := by rw [List.length_set]; exact h.len
  low := by
    have hl := h.len; have hlt := h.lt
    rw [List.take_succ_eq_append_getElem (by rw [List.length_set]; omega), List.take_set_of_le (Nat.le_refl _), h.low, List.take_succ_eq_append_getElem hj, List.filter_append]
    simp [hp]
  high := fun q hq => by rw [List.getElem?_set_ne (by have := h.lt; omega)]; exact h.high q (by omega)
  lt := by have := h.lt; omega
  le := by omega
theorem KI.skip {p : Int → Bool} {l r : List Int} {i j : Nat} (h : KI p l r i j) (hj : j < l.length) (hp : p l[j] = true) : KI p l r i (j + 1) where
  len := h.len
  low := by rw [h.low, List.take_succ_eq_append_getElem hj, List.filter_append]; simp [hp]
  high := fun q hq => h.high q (by omega)
  lt := by have := h.lt; omega
  le := by omega
theorem KI.done {p : Int → Bool} {l r : List Int} {i : Nat} (h : KI p l r i l.length) : r.take i = l.filter (fun v => !p v) ∧ i = (l.filter (fun v => !p v)).length := by
  have h1 := h.low
  rw [List.take_length] at h1
  refine ⟨h1, ?_⟩
  rw [← h1, List.length_take]; have := h.len; have := h.lt; omega
abbrev rwI (H : Heap) (k : Nat) (l : List Int) : Heap := upd H k (some (.row 3 1 (rowE i64T l)))
theorem idxF_os (H : Heap) (k : Nat) (f : FuncId) (cs : List A) (gv : Int → Bool) (l : List Int) (hk : H k = none) (hfn : fnB Tryz.prog f = true) (hl : l.length ≤ 1000000000000000000) (hcall : ∀ v ∈ l, FB f cs H (iC v) (gv v)) : E.Spec Tryz.prog 102 [.a (.os k 0 l.length 1), .a (.fn f cs)] (rwI H k l) fun x H' => x = .c (iC (ixF gv l 0)) ∧ H' = rwI H k l := by
 refine Spec.enter Tryz.func102 rfl ?_
 refine AW.wk (Wk.keep 19 [(0, .c (.a (.os k 0 l.length 1))), (1, .c (.a (.fn f cs)))] [] (rwI H k l) rfl ⟨rfl, rfl, trivial⟩ trivial (fun _ _ h => h) rfl) ?_
 refine sR (sB ?_)
 refine AW.seq (sR (sM ?_))
 refine SeqK.q (q_lenOs rfl Fx.un80 rfl) rfl rfl rfl ?_
 refine sM ?_
 refine Z7 (AW.block ?_)
 refine AW.loop (fun (i : Nat) s => (i ≤ l.length ∧ ixF gv (l.drop i) i = ixF gv l 0) ∧ s = ⟨19, sp [(0, .c (.a (.os k 0 l.length 1))), (1, .c (.a (.fn f cs))), (4, .c (iC 0)), (7, iX .i64 ((l.length : Nat) : Int)), (8, iX .i64 ((i : Nat) : Int))], lv [], rwI H k l⟩) (fun i => l.length - i) 0 ⟨_, by exact Wk.keep 19 _ _ _ rfl ⟨rfl, rfl, rfl, rfl, rfl, trivial⟩ trivial (fun _ _ h => h) rfl, ⟨Nat.zero_le _, rfl⟩, rfl⟩ (fun i s hs => ?_)
 obtain ⟨⟨hi0, hI⟩, rfl⟩ := hs
 refine sR (Z30 ?_)
 refine Z7 (AW.seq ?_)
 refine cD ?_ ?_ <;> intro h9
 ·
  have hi : i < l.length := by omega
  refine AW.skip (AW.seq (AW.block (sR (sM ?_))))
  refine sB ?_
  refine sR (sM ?_)
  refine sM ?_
  refine sM ?_
  refine Z53 Fx.sl80 ?_
  refine SeqK.r (g_loadR rfl Fx.ty3 rfl (upd_same _ _ _) (row_i64 hi) (rin_i64 hi) (by decide) rfl rfl) rfl ?_
  refine SeqK.r (g_callV (f := f) (cs := cs) rfl rfl hfn rfl (hcall _ (List.getElem_mem hi) _ (fun j o h => upd_sub hk j o h)) rfl rfl rfl) rfl ?_
  refine Z7 ?_
  refine AW.cond _ rfl (fun h16 => ?_) (fun h16 => ?_)
  ·
   refine sR (sM ?_)
   refine sB ?_
   exact aR (fin_x (x := .c _) (rwI H k l) (.tmp rfl .nil) rfl (fun _ _ h => h) (⟨iCe2 (by rw [← hI, ixF_hit hi h16]), rfl⟩))
  refine AW.skip (AW.reg (Z13 ?_))
  refine sM ?_
  refine Z7 ?_
  exact ⟨i + 1, _, by exact Wk.keep 19 _ _ _ rfl ⟨rfl, rfl, rfl, rfl, rfl, trivial⟩ trivial (fun _ _ h => h) rfl, by omega, ⟨hi, by rw [← hI, ixF_miss hi h16]⟩, rfl⟩
 refine AW.exit ?_
 refine eth_e ?_
 refine eth_e ?_
 refine exit_here ?_
 refine sR (sB ?_)
 exact aR (fin_x (x := .c _) (rwI H k l) (.tmp rfl .nil) rfl (fun _ _ h => h) (⟨iCe2 (by rw [← hI, List.drop_eq_nil_of_le (by omega), ixF]), rfl⟩))
theorem del_of (H : Heap) (k : Nat) (f : FuncId) (cs : List A) (gv : Int → Bool) (l : List Int) (hk : H k = none) (hfn : fnB Tryz.prog f = true) (hl : l.length ≤ 1000000000000000000) (hcall : ∀ v ∈ l, FB f cs H (iC v) (gv v)) : E.Spec Tryz.prog 70 [.a (.os k 0 l.length 1), .a (.fn f cs)] (rwI H k l) fun x H' => ∃ ro, H' = rwI H k ro ∧ (l.filter fun v => !gv v).length ≤ ro.length ∧ ro.take (l.filter fun v => !gv v).length = (l.filter fun v => !gv v) ∧ (x = .c (.a (.os k 0 (l.filter fun v => !gv v).length 1)) ∨ ((l.filter fun v => !gv v) = [] ∧ x = .c (iL .un []))) := by
 refine Spec.enter Tryz.func70 rfl ?_
 refine AW.wk (Wk.keep 42 [(0, .c (.a (.os k 0 l.length 1))), (1, .c (.a (.fn f cs)))] [] (rwI H k l) rfl ⟨rfl, rfl, trivial⟩ trivial (fun _ _ h => h) rfl) ?_
 refine sR (sB ?_)
 refine sR (sM ?_)
 refine sM ?_
 refine SeqK.r (g_call rfl Fx.fn102 rfl (idxF_os H k f cs gv l hk hfn hl hcall) rfl rfl rfl) rfl ?_
 refine sB ?_
 refine AW.seq (sR (sM ?_))
 refine Z9 ?_
 refine Z7 ?_
 refine cD ?_ ?_ <;> intro h12
 ·
  have hall := ((ixF_spec (p := gv) l 0).resolve_right fun ⟨kk, _, h, _⟩ => by rw [h] at h12; omega).2
  have hout : (l.filter fun v => !gv v) = l := List.filter_eq_self.2 fun v hv => by rw [hall v hv]; rfl
  refine sR (sM ?_)
  refine sB ?_
  exact aR (fin_x (x := .c _) (_) (.tmp rfl .nil) rfl (fun _ _ h => h) (⟨l, rfl, by rw [hout]; exact Nat.le_refl _, by rw [hout, List.take_length], .inl (by rw [hout])⟩))
 obtain ⟨kk, hkl, hkk, hkp, hkf⟩ := (ixF_spec (p := gv) l 0).resolve_left fun h => h12 h.1
 rw [Nat.zero_add] at hkk
 rw [hkk]
 refine AW.skip (AW.seq (sR (sM ?_)))
 refine Z13 ?_
 refine sB ?_
 refine AW.block ?_
 refine AW.loop (fun (j : Nat) s => ∃ (i : Nat) (r : List Int), (KI gv l r i j) ∧ s = ⟨42, sp [(0, .c (.a (.os k 0 l.length 1))), (1, .c (.a (.fn f cs))), (4, .c (.a (.t (.v (.slice none 0 0))))), (5, iX .i64 ((i : Nat) : Int)), (6, iX .i64 ((j : Nat) : Int))], lv [], rwI H k r⟩) (fun j => l.length - j) (kk + 1) ⟨_, by exact Wk.keep 42 _ _ _ rfl ⟨rfl, rfl, rfl, rfl, rfl, trivial⟩ trivial (fun _ _ h => h) rfl, kk, l, KI.start hkl hkp hkf, rfl⟩ (fun j s hs => ?_)
 obtain ⟨i, r, hK, rfl⟩ := hs
 refine AW.seq (sR (sM ?_))
 refine sM ?_
 refine SeqK.q (q_lenOs rfl Fx.un80 rfl) rfl rfl rfl ?_
 refine Z30 ?_
 refine Z7 ?_
 refine cD ?_ ?_ <;> intro h19
 ·
  have hj : j < l.length := by omega
  obtain ⟨hjr, hrj⟩ := hK.at hj
  have hij := hK.lt
  have hrl := hK.len
  refine AW.skip (AW.seq (AW.block (sR (sM ?_))))
  refine sM ?_
  refine Z53 Fx.sl80 ?_
  refine SeqK.r (g_loadR rfl Fx.ty3 rfl (upd_same _ _ _) ((row_i64 hjr).trans (by rw [hrj])) (rin_i64 hjr) (by decide) rfl rfl) rfl ?_
  refine sB ?_
  refine sR (sM ?_)
  refine sM ?_
  refine SeqK.r (g_callV (f := f) (cs := cs) rfl rfl hfn rfl (hcall _ (List.getElem_mem hj) _ (fun j o h => upd_sub hk j o h)) rfl rfl rfl) rfl ?_
  refine Z49 ?_
  refine Z7 ?_
  refine AW.cond _ rfl (fun h29 => ?_) (fun h29 => ?_)
  ·
   refine sR (sM ?_)
   refine sM ?_
   refine sM ?_
   refine Z53 Fx.sl80 ?_
   refine SeqK.r (g_storeR rfl rfl Fx.ty3 rfl rfl (upd_same _ _ _) (rst_i64 (by omega : i < r.length)) rfl (rin_i64 (by omega : i < r.length)) (by decide)) rfl ?_
   refine Z7 (AW.reg (sM ?_))
   refine Z13 ?_
   refine sB ?_
   refine AW.reg (sM ?_)
   refine Z13 ?_
   refine sB ?_
   rw [upd_upd]
   exact ⟨j + 1, _, by exact Wk.keep 42 _ _ _ rfl ⟨rfl, rfl, rfl, rfl, rfl, trivial⟩ trivial (fun _ _ h => h) rfl, by omega, i + 1, r.set i l[j], hK.keep hj (by simpa using h29), rfl⟩
  refine AW.skip (AW.reg (sM ?_))
  refine Z13 ?_
  refine sB ?_
  exact ⟨j + 1, _, by exact Wk.keep 42 _ _ _ rfl ⟨rfl, rfl, rfl, rfl, rfl, trivial⟩ trivial (fun _ _ h => h) rfl, by omega, i, r, hK.skip hj (by simpa using h29), rfl⟩
 refine AW.exit ?_
 refine eth_e ?_
 refine eth_e ?_
 refine exit_here ?_
 refine AW.seq ?_
 have hjl : j = l.length := by have := hK.le; omega
 have hK2 : KI gv l r i l.length := hjl ▸ hK
 have hij := hK2.lt
 have hrl := hK2.len
 obtain ⟨hd1, hd2⟩ := hK2.done
 refine AW.reg (sM ?_)
 refine sM ?_
 refine SeqK.r (g_cutLo (cells := rowE i64T r) rfl Fx.sl80 rfl (upd_same _ _ _) (by rw [rlen_i64]; omega) rfl (by omega) rfl rfl) rfl ?_
 refine SeqK.r (g_clear (z := .int .i64 0) rfl rfl Fx.un80 Fx.ze3 rfl rfl rfl (upd_same _ _ _) (by omega) (by rw [rlen_i64]; omega)) rfl ?_
 refine Z7 ?_
 rw [show splice (rowE i64T r) i (List.replicate (l.length - i) (A.t (.v (.int .i64 0)))) = rowE i64T (r.take i ++ List.replicate (l.length - i) 0) from sp_tail (by omega) (by omega), upd_upd]
 refine sR (sM ?_)
 refine sM ?_
 refine SeqK.r (g_cutHi (cells := rowE i64T (r.take i ++ List.replicate (l.length - i) 0)) rfl Fx.sl80 rfl (upd_same _ _ _) (by rw [rlen_i64]; simp; omega) (by omega) rfl (by omega) rfl rfl) rfl ?_
 refine sB ?_
 exact aR (fin_x (x := .c _) (_) (.tmp rfl .nil) rfl (fun _ _ h => h) (⟨_, rfl, by rw [← hd2]; simp; omega, by rw [← hd2, List.take_left' (by simp; omega)]; exact hd1, by rw [← hd2]; cases i with | zero => exact .inr ⟨List.eq_nil_of_length_eq_zero hd2.symm, rfl⟩ | succ i => exact .inl rfl⟩))
theorem del_any (H : Heap) (k : Nat) (f : FuncId) (cs : List A) (gv : Int → Bool) (l : List Int) (hk : H k = none) (hfn : fnB Tryz.prog f = true) (hl : l.length ≤ 1000000000000000000) (hcall : ∀ v ∈ l, FB f cs H (iC v) (gv v)) : E.Spec Tryz.prog 70 [.a (.os k 0 l.length 1), .a (.fn f cs)] (rwI H k l) fun x H' => x = .c (iL .un (l.filter fun v => !gv v)) ∧ H' = H := by
  refine E.Spec.freeze (E.Spec.shrink (del_of H k f cs gv l hk hfn hl hcall) (Q' := fun x H' => ∃ ro, H' = rwI H k ro ∧ ((ro = (l.filter fun v => !gv v) ∧ x = .c (.a (.os k 0 (l.filter fun v => !gv v).length 1))) ∨ x = .c (iL .un (l.filter fun v => !gv v)))) fun x H' ⟨ro, h1, h2, h3, h4⟩ => ?_) fun x H' ⟨ro, h1, h2⟩ => ?_
  · subst h1
    rcases h4 with h4 | ⟨h4, h5⟩
    · by_cases hz : rowE i64T ro = []
      · have hr0 : ro = [] := by have := rlen_i64 ro; rw [hz] at this; exact List.eq_nil_of_length_eq_zero this.symm
        exact .inl ⟨ro, rfl, .inl ⟨by rw [← h3, hr0, List.take_nil], h4⟩⟩
      · refine .inr ⟨k, 3, 1, rowE i64T ro, (l.filter fun v => !gv v).length, upd_same _ _ _, hz, by rw [rlen_i64]; exact h2, (l.filter fun v => !gv v), ?_, .inl ⟨rfl, h4⟩⟩
        rw [upd_upd]
        have e : ∀ m : List Int, rowE i64T m = m.map iA := fun m => flatI m
        rw [e, ← List.map_take, h3, rwI, e]
    · exact .inl ⟨ro, rfl, .inr (by rw [h4]; exact h5)⟩
  · subst h1
    refine ⟨k, 1, 3, ro.map i64T, upd_same _ _ _, fun e he => by obtain ⟨p, _, rfl⟩ := List.mem_map.1 he; rfl, by decide, ?_, upd_back hk⟩
    rcases h2 with ⟨rfl, rfl⟩ | rfl
    · simp [fzX, fzC, fzA]
    · simp [fzX, fzC, fzA]
theorem bl_tri : ∀ {a b : List UInt8}, Op.bytesLess a b = false → (a ≠ b ↔ Op.bytesLess b a = true)
  | [], [] => by simp [Op.bytesLess]
  | [], _ :: _ => by simp [Op.bytesLess]
  | _ :: _, [] => by simp [Op.bytesLess]
  | x :: a, y :: b => by
    intro h
    rw [Op.bytesLess] at h ⊢
    by_cases e : x = y
    · subst e
      have h2 : Op.bytesLess a b = false := by simpa using h
      have := bl_tri h2
      simpa using this
    · have h1 := D.u8_ne e
      have h3 : ¬ x < y := fun k => by simp [k] at h
      have h4 : ¬ (x.toNat : Int) < (y.toNat : Int) := fun k => h3 (D.u8_lt.1 k)
      have h5 : y < x := D.u8_lt.1 (by omega)
      simp [e, h5]
theorem st_gt {a b : ByteArray} (h : strLt a b = false) : (!(strLt a b || decide (a = b))) = strLt b a := by
  have h1 := bl_tri (a := a.data.toList) (b := b.data.toList) h
  have h2 : a = b ↔ a.data.toList = b.data.toList := ⟨fun h => by rw [h], fun h => by cases a; cases b; congr; exact Array.ext' h⟩
  rw [h, Bool.false_or]
  by_cases e : a = b
  · rw [decide_eq_true e]
    cases h3 : strLt b a with
    | false => rfl
    | true => exact absurd (h2.1 e) (h1.2 h3)
  · rw [decide_eq_false e]
    exact (h1.1 fun k => e (h2.2 k)).symm
abbrev lkS (a b : ByteArray) : Bool := D.likeL a.data.toList b.data.toList
theorem txB_col {l : List Vr} {e : Ex} (h : e.op = 2) : txB l e = decide (0 ≤ e.ix ∧ e.ix < l.length ∧ (l.getD e.ix.toNat ⟨0, 0, 0, 0, false⟩).ty = 2) := by rw [txB, if_pos h]
theorem txB_lit {l : List Vr} {e : Ex} (h : ¬ e.op = 2) : txB l e = decide (e.op = 1 ∧ e.vk = 2) := by rw [txB, if_neg h]
theorem txB_at {l : List Vr} {e : Ex} (h : e.op = 2) (h0 : 0 ≤ e.ix) (hv : e.ix.toNat < l.length) : txB l e = decide (l[e.ix.toNat].ty = 2) := by rw [txB_col h]; exact (htB_at (k := 2) h0 hv)
theorem isText_any (H : Heap) (kp : Nat) (l : List Vr) (z : Nz) (hp : H kp = some (.box [.t (.sl z 5 (l.map vrT))])) (hL : l.length ≤ 17592186044000) (e : Ex) : E.Spec Tryz.prog 98 [.a (.bp kp 0), exC e] H fun x H' => x = .c (bC (txB l e)) ∧ H' = H := by
 refine Spec.enter Tryz.func98 rfl ?_
 refine AW.wk (Wk.keep 42 [(0, .c (.a (.bp kp 0))), (1, .c (exC e))] [] (H) rfl ⟨rfl, rfl, trivial⟩ trivial (fun _ _ h => h) rfl) ?_
 refine sR (Z20 (r := [_, _, _, _, _, _, _, _]) ?_)
 refine sB ?_
 refine AW.seq (sR (Z1 Fx.fl26_0 ?_))
 refine Z0 Fx.ty3 ?_
 refine Z9 ?_
 refine Z7 ?_
 refine cD ?_ ?_ <;> intro h7
 rotate_left
 ·
  refine AW.skip (sR (Z1 Fx.fl26_0 ?_))
  refine Z0 Fx.ty3 ?_
  refine Z9 ?_
  refine Z17 ?_ ?_ <;> intro g36
  ·
   refine Z5 Fx.fl26_4 ?_
   refine Z5 Fx.fl23_0 ?_
   refine Z3 Fx.ty3 ?_
   refine Z21 ?_
   refine Z8 ?_
   refine sB ?_
   exact aR (f1 (q := ⟨bCe (by rw [txB_lit h7]; first | (exact dcE (by omega)) | (exact (decide_eq_false (by omega)).symm)), rfl⟩))
  iterate 4 refine oF ?_
  refine Z4 ?_
  refine sB ?_
  exact aR (f1 (q := ⟨bCe (by rw [txB_lit h7]; first | (exact dcE (by omega)) | (exact (decide_eq_false (by omega)).symm)), rfl⟩))
 refine AW.seq (AW.draw Fx.mo ?_)
 refine Z23 Fx.fl26_3 ?_
 refine Z18 Fx.ty3 ?_
 refine LexK.q (q_geq rfl rfl rfl) rfl rfl rfl ?_
 refine LexK.qD (q_mvC rfl rfl) rfl rfl rfl (fun g11 => ?_) (fun g11 => ?_)
 rotate_left
 ·
  iterate 8 refine LexK.off rfl rfl rfl rfl rfl rfl ?_
  refine LexK.q (q_pkF rfl rfl rfl) rfl rfl rfl ?_
  refine Z44 ?_
  iterate 10 refine LexK.off rfl rfl rfl rfl rfl rfl ?_
  refine LexK.q (q_pkF rfl rfl rfl) rfl rfl rfl ?_
  refine Z52 ?_
  refine Z48 ?_
  exact aR (f1 (q := ⟨bCe (by first | (rw [hg]; done) | (rw [txB_col h7]; exact (decide_eq_false (by first | omega | (simp only [List.length_map] at *; omega))).symm)), rfl⟩))
 refine LexK.on (q_fieldL _ rfl Fx.fl26_3 rfl rfl) rfl rfl rfl rfl rfl ?_
 refine Z51 Fx.ty3 ?_
 refine LexK.on (q_mvC rfl rfl) rfl rfl rfl rfl rfl ?_
 refine LexK.on (q_nilH rfl rfl) rfl rfl rfl rfl rfl ?_
 refine LexK.on (q_fieldH _ rfl Fx.fl57_0 rfl rfl) rfl rfl rfl rfl rfl ?_
 refine LexK.rOn (g_load (r := .a _) rfl Fx.ty27 rfl (by (repeat rw [upd_ne _ _ (by first | assumption | exact Ne.symm (by assumption))]); first | assumption | exact upd_same _ _ _) rfl rfl rfl rfl) rfl rfl rfl ?_
 refine LexK.on (q_len rfl Fx.un27 rfl) rfl rfl rfl rfl rfl ?_
 refine LexK.on (q_lss rfl rfl rfl) rfl rfl rfl rfl rfl ?_
 refine LexK.q (q_pkT rfl rfl rfl) rfl rfl rfl ?_
 refine LexK.qD (q_mvC rfl rfl) rfl rfl rfl (fun g21 => ?_) (fun g21 => ?_)
 ·
  have hv : e.ix.toNat < l.length := (by first | omega | (simp only [List.length_map] at *; omega))
  have hg := txB_at (l := l) h7 (by first | omega | (simp only [List.length_map] at *; omega)) hv
  refine LexK.on (q_mvC rfl rfl) rfl rfl rfl rfl rfl ?_
  refine LexK.on (q_nilH rfl rfl) rfl rfl rfl rfl rfl ?_
  refine LexK.on (q_fieldH _ rfl Fx.fl57_0 rfl rfl) rfl rfl rfl rfl rfl ?_
  refine LexK.rOn (g_load (r := .a _) rfl Fx.ty27 rfl (by (repeat rw [upd_ne _ _ (by first | assumption | exact Ne.symm (by assumption))]); first | assumption | exact upd_same _ _ _) rfl rfl rfl rfl) rfl rfl rfl ?_
  refine LexK.on (q_fieldL _ rfl Fx.fl26_3 rfl rfl) rfl rfl rfl rfl rfl ?_
  refine Z51 Fx.ty3 ?_
  refine LexK.on (q_index _ rfl Fx.sl27 rfl rfl (by omega) (ix_vr hv)) rfl rfl rfl rfl rfl ?_
  refine LexK.on (q_fieldP _ rfl Fx.fl66_0 rfl rfl) rfl rfl rfl rfl rfl ?_
  refine LexK.on (q_load (.a _) rfl Fx.ty3 rfl rfl rfl) rfl rfl rfl rfl rfl ?_
  refine LexK.on (q_eql rfl rfl rfl) rfl rfl rfl rfl rfl ?_
  refine LexK.q (q_pkT rfl rfl rfl) rfl rfl rfl ?_
  refine Z52 ?_
  refine Z48 ?_
  exact aR (f1 (q := ⟨bCe (by first | (rw [hg]; done) | (rw [txB_col h7]; exact (decide_eq_false (by first | omega | (simp only [List.length_map] at *; omega))).symm)), rfl⟩))
 iterate 10 refine LexK.off rfl rfl rfl rfl rfl rfl ?_
 refine LexK.q (q_pkF rfl rfl rfl) rfl rfl rfl ?_
 refine Z52 ?_
 refine Z48 ?_
 exact aR (f1 (q := ⟨bCe (by first | (rw [hg]; done) | (rw [txB_col h7]; exact (decide_eq_false (by first | omega | (simp only [List.length_map] at *; omega))).symm)), rfl⟩))
theorem like_any (x y : Ex) (p : Bool) (hx : x.vs.size ≤ 1000000000000000) (hy : y.vs.size ≤ 1000000) : Pure Tryz.prog 96 [exC x, exC y, bC p] (.c (prC (lkP (fun a b => lkS a b) x y p))) := by
 intro H
 refine Spec.enter Tryz.func96 rfl ?_
 refine AW.wk (Wk.keep 30 [(0, .c (exC x)), (1, .c (exC y)), (2, .c (bC p))] [] (H) rfl ⟨rfl, rfl, rfl, trivial⟩ trivial (fun _ _ h => h) rfl) ?_
 refine sR (Z20 (r := [_, _, _, _, _, _, _, _]) ?_)
 refine Z20 (r := [_, _, _, _, _, _, _, _]) ?_
 refine Z16 (r := [_, _, _, _, _, _, _, _, _, _, _]) Fx.ze114 ?_
 refine Z7 (AW.seq (sR (Z1 Fx.fl26_0 ?_)))
 refine Z0 Fx.ty3 ?_
 refine Z9 ?_
 refine Z7 ?_
 refine cD ?_ ?_ <;> intro h9
 ·
  refine sR (Z1 Fx.fl26_4 ?_)
  refine Z1 Fx.fl23_2 ?_
  refine Z0 Fx.ty9 ?_
  refine Z1 Fx.fl26_4 ?_
  refine Z1 Fx.fl23_2 ?_
  refine Z0 Fx.ty9 ?_
  refine Z12 Fx.fn80 (D.evlike_any _ _ hx hy) ?_
  refine sM ?_
  refine SeqK.q (q_eqlB rfl Fx.un4 rfl rfl) rfl rfl rfl ?_
  refine Z12 Fx.fn134 (decided_any _) ?_
  refine Z2 (r := [_, _, _, _, _, _, _, _, _, _, _]) Fx.ty114 ?_
  refine Z7 (AW.ret ?_)
  exact f1 (.cellL rfl rfl Fx.ty114 rfl rfl .nil) (⟨prCe (by rw [lkP, if_pos h9]), rfl⟩)
 refine AW.skip (sR (Z1 Fx.fl26_3 ?_))
 refine Z0 Fx.ty3 ?_
 refine sM ?_
 refine Z49 ?_
 refine Z1 Fx.fl26_4 ?_
 refine Z1 Fx.fl23_2 ?_
 refine Z0 Fx.ty9 ?_
 refine Z11 (zs := [_, _, _, _]) (r := [_, _, _, _]) [(0, 1), (1, 1), (2, 1), (3, 1)] Fx.ze34 Fx.bp34 ?_
 refine Z11 (zs := [_, _, _, _, _, _, _, _, _]) (r := [_, _, _, _, _, _, _, _, _]) [(0, 1), (1, 1), (2, 1), (3, 2), (5, 4)] Fx.ze36 Fx.bp36 ?_
 refine Z47 28 XW.atN ?_
 refine Z11 (zs := [_, _, _, _, _, _, _, _, _, _, _]) (r := [_, _, _, _, _, _, _, _, _, _, _]) [(0, 1), (1, 1), (2, 9)] Fx.ze114 Fx.bp114 ?_
 refine Z2 (r := [_, _, _, _, _, _, _, _, _, _, _]) Fx.ty114 ?_
 refine Z7 (AW.ret ?_)
 exact f1 (.cellL rfl rfl Fx.ty114 rfl rfl .nil) (⟨prCe (f := atP ⟨5, x.ix, 0, tm0, 0, 1, !p, y.vs⟩) (by rw [lkP, if_neg h9]), rfl⟩)
theorem texts_any (op : Int) (x y : Ex) : Pure Tryz.prog 99 [iC op, exC x, exC y] (.c (prC (txtP strLt op x y))) := by
 intro H
 refine Spec.enter Tryz.func99 rfl ?_
 refine AW.wk (Wk.keep 83 [(0, .c (iC op)), (1, .c (exC x)), (2, .c (exC y))] [] (H) rfl ⟨rfl, rfl, rfl, trivial⟩ trivial (fun _ _ h => h) rfl) ?_
 refine sR (Z20 (r := [_, _, _, _, _, _, _, _]) ?_)
 refine Z20 (r := [_, _, _, _, _, _, _, _]) ?_
 refine Z16 (r := [_, _, _, _, _, _, _, _, _, _, _]) Fx.ze114 ?_
 refine Z7 (AW.seq (sR (Z1 Fx.fl26_0 ?_)))
 refine Z0 Fx.ty3 ?_
 refine Z9 ?_
 refine Z17 ?_ ?_ <;> intro g11
 ·
  refine Z5 Fx.fl26_0 ?_
  refine Z3 Fx.ty3 ?_
  refine Z21 ?_
  refine Z8 ?_
  refine Z7 ?_
  refine cD ?_ ?_ <;> intro h15
  ·
   refine AW.seq (AW.block (sR (Z1 Fx.fl26_4 ?_)))
   refine Z1 Fx.fl23_2 ?_
   refine Z0 Fx.ty9 ?_
   refine Z1 Fx.fl26_4 ?_
   refine Z1 Fx.fl23_2 ?_
   refine Z0 Fx.ty9 ?_
   refine SeqK.q (q_lssS rfl rfl rfl) rfl rfl rfl ?_
   refine sB ?_
   refine AW.cond _ rfl (fun h16 => ?_) (fun h16 => ?_)
   ·
    refine sR (sM ?_)
    refine Z12 Fx.fn135 (compares_any _ _) ?_
    refine Z12 Fx.fn134 (decided_any _) ?_
    refine Z2 (r := [_, _, _, _, _, _, _, _, _, _, _]) Fx.ty114 ?_
    refine Z7 (AW.ret ?_)
    exact f1 (.cellL rfl rfl Fx.ty114 rfl rfl .nil) (⟨prCe (by rw [txtP, if_pos ⟨by first | assumption | omega, by first | assumption | omega⟩, txC, if_pos h16]), rfl⟩)
   refine sR (Z1 Fx.fl26_4 ?_)
   refine Z1 Fx.fl23_2 ?_
   refine Z0 Fx.ty9 ?_
   refine Z1 Fx.fl26_4 ?_
   refine Z1 Fx.fl23_2 ?_
   refine Z0 Fx.ty9 ?_
   refine SeqK.q (q_gtrS rfl rfl rfl) rfl rfl rfl ?_
   refine sB ?_
   refine AW.cond _ rfl (fun h27 => ?_) (fun h27 => ?_)
   ·
    refine sR (sM ?_)
    refine Z12 Fx.fn135 (compares_any _ _) ?_
    refine Z12 Fx.fn134 (decided_any _) ?_
    refine Z2 (r := [_, _, _, _, _, _, _, _, _, _, _]) Fx.ty114 ?_
    refine Z7 (AW.ret ?_)
    exact f1 (.cellL rfl rfl Fx.ty114 rfl rfl .nil) (⟨prCe (by rw [txtP, if_pos ⟨by first | assumption | omega, by first | assumption | omega⟩, txC, if_neg (by rw [h16]; simp), if_pos ((st_gt h16).symm.trans h27)]), rfl⟩)
   refine AW.skip (sR (sM ?_))
   refine Z12 Fx.fn135 (compares_any _ _) ?_
   refine Z12 Fx.fn134 (decided_any _) ?_
   refine Z2 (r := [_, _, _, _, _, _, _, _, _, _, _]) Fx.ty114 ?_
   refine Z7 (AW.ret ?_)
   exact f1 (.cellL rfl rfl Fx.ty114 rfl rfl .nil) (⟨prCe (by rw [txtP, if_pos ⟨by first | assumption | omega, by first | assumption | omega⟩, txC, if_neg (by rw [h16]; simp), if_neg (by rw [← st_gt h16, h27]; simp)]), rfl⟩)
  refine AW.skip (AW.seq (sR (Z1 Fx.fl26_0 ?_)))
  refine Z0 Fx.ty3 ?_
  refine Z9 ?_
  refine Z7 ?_
  refine cD ?_ ?_ <;> intro h43
  rotate_left
  ·
   exact absurd g11 h43
  refine AW.draw Fx.mo ?_
  refine LexK.r (b_load (r := .g [_, _, _, _, _, _, _, _]) rfl Fx.ty26 rfl rfl rfl rfl rfl rfl) rfl ?_
  refine LexK.r (b_load (r := .g [_, _, _, _, _, _, _, _]) rfl Fx.ty26 rfl rfl rfl rfl rfl rfl) rfl ?_
  refine Z44 ?_
  refine Z45 Fx.fn136 (reversed_any _) ?_
  refine Z40 (r := [_, _, _, _, _, _, _, _]) Fx.ty26 ?_
  refine Z40 (r := [_, _, _, _, _, _, _, _]) Fx.ty26 ?_
  refine Z52 ?_
  refine Z48 ?_
  refine AW.seq (sR (Z1 Fx.fl26_0 ?_))
  refine Z0 Fx.ty3 ?_
  refine Z9 ?_
  refine Z7 ?_
  refine cD ?_ ?_ <;> intro h50
  ·
   refine AW.seq (AW.draw Fx.mo ?_)
   refine Z23 Fx.fl26_3 ?_
   refine Z18 Fx.ty3 ?_
   refine Z44 ?_
   refine Z23 Fx.fl26_4 ?_
   refine Z23 Fx.fl23_2 ?_
   refine Z18 Fx.ty9 ?_
   refine Z45 Fx.fn137 (test_any _ _) ?_
   refine LexK.q (q_build2 (zs := [_, _, _, _, _, _, _, _, _]) (r := [_, _, _, _, _, _, _, _, _]) [(0, 1), (1, 1), (2, 1), (3, 2), (5, 4)] _ rfl Fx.ze36 rfl Fx.bp36 rfl rfl rfl rfl) rfl rfl rfl ?_
   refine LexK.q (q_build2 (zs := [_, _, _, _, _, _, _, _, _, _, _]) (r := [_, _, _, _, _, _, _, _, _, _, _]) [(0, 1), (1, 1), (2, 9)] _ rfl Fx.ze114 rfl Fx.bp114 rfl rfl rfl rfl) rfl rfl rfl ?_
   refine Z40 (r := [_, _, _, _, _, _, _, _, _, _, _]) Fx.ty114 ?_
   refine Z48 ?_
   refine AW.xwL 6 rfl (.cons XW.reA (.cons XW.reA (.cons XW.reA (.cons XW.reA (.cons XW.reA (.cons XW.reA (.cons (XW.nilU (sz := 5)) XWs.re))))))) ?_
   exact aR (f1 (.cellL rfl rfl Fx.ty114 rfl rfl .nil) (⟨by first | exact prCe (f := atP (atT y.ix (opR op) x.vs)) (by rw [txtP, if_neg (fun h => by have := h.1; have := h.2; first | omega | contradiction), if_pos (by assumption)]) | exact prCe (f := atP (atT x.ix op y.vs)) (by rw [txtP, if_neg (fun h => by have := h.1; have := h.2; first | omega | contradiction), if_neg (by assumption), if_pos (by assumption)]), rfl⟩))
  exact absurd h43 h50
 iterate 3 refine oF ?_
 refine Z4 ?_
 refine Z7 (AW.condF rfl ?_)
 refine AW.skip (AW.seq (sR (Z1 Fx.fl26_0 ?_)))
 refine Z0 Fx.ty3 ?_
 refine Z9 ?_
 refine Z7 ?_
 refine cD ?_ ?_ <;> intro h43
 ·
  exact absurd h43 g11
 refine AW.skip (AW.seq (sR (Z1 Fx.fl26_0 ?_)))
 refine Z0 Fx.ty3 ?_
 refine Z9 ?_
 refine Z7 ?_
 refine cD ?_ ?_ <;> intro h50
 ·
  refine AW.seq (AW.draw Fx.mo ?_)
  refine Z23 Fx.fl26_3 ?_
  refine Z18 Fx.ty3 ?_
  refine Z44 ?_
  refine Z23 Fx.fl26_4 ?_
  refine Z23 Fx.fl23_2 ?_
  refine Z18 Fx.ty9 ?_
  refine Z45 Fx.fn137 (test_any _ _) ?_
  refine LexK.q (q_build2 (zs := [_, _, _, _, _, _, _, _, _]) (r := [_, _, _, _, _, _, _, _, _]) [(0, 1), (1, 1), (2, 1), (3, 2), (5, 4)] _ rfl Fx.ze36 rfl Fx.bp36 rfl rfl rfl rfl) rfl rfl rfl ?_
  refine LexK.q (q_build2 (zs := [_, _, _, _, _, _, _, _, _, _, _]) (r := [_, _, _, _, _, _, _, _, _, _, _]) [(0, 1), (1, 1), (2, 9)] _ rfl Fx.ze114 rfl Fx.bp114 rfl rfl rfl rfl) rfl rfl rfl ?_
  refine Z40 (r := [_, _, _, _, _, _, _, _, _, _, _]) Fx.ty114 ?_
  refine Z48 ?_
  refine AW.xwL 6 rfl (.cons XW.reA (.cons XW.reA (.cons XW.reA (.cons XW.reA (.cons XW.reA (.cons XW.reA (.cons (XW.nilU (sz := 5)) XWs.re))))))) ?_
  exact aR (f1 (.cellL rfl rfl Fx.ty114 rfl rfl .nil) (⟨by first | exact prCe (f := atP (atT y.ix (opR op) x.vs)) (by rw [txtP, if_neg (fun h => by have := h.1; have := h.2; first | omega | contradiction), if_pos (by assumption)]) | exact prCe (f := atP (atT x.ix op y.vs)) (by rw [txtP, if_neg (fun h => by have := h.1; have := h.2; first | omega | contradiction), if_neg (by assumption), if_pos (by assumption)]), rfl⟩))
 refine AW.skip (AW.seq (sR (Z1 Fx.fl26_3 ?_)))
 refine Z0 Fx.ty3 ?_
 refine Z1 Fx.fl26_3 ?_
 refine Z0 Fx.ty3 ?_
 refine Z9 ?_
 refine Z7 ?_
 refine cD ?_ ?_ <;> intro h64
 ·
  refine sR (sM ?_)
  refine Z9 ?_
  refine Z12 Fx.fn134 (decided_any _) ?_
  refine Z2 (r := [_, _, _, _, _, _, _, _, _, _, _]) Fx.ty114 ?_
  refine Z7 (AW.ret ?_)
  exact f1 (.cellL rfl rfl Fx.ty114 rfl rfl .nil) (⟨by first | (exfalso; contradiction) | (exfalso; omega) | exact prCe (f := dcd (decide (op = 10))) (by rw [txtP, if_neg (fun h => by have := h.1; have := h.2; first | omega | contradiction), if_neg (by assumption), if_neg (by assumption), if_pos (by assumption)]), rfl⟩)
 refine AW.skip (sR (sB ?_))
 refine AW.seq (sR (sM ?_))
 refine Z9 ?_
 refine Z7 ?_
 refine cD ?_ ?_ <;> intro h69
 ·
  refine AW.reg (sB ?_)
  refine sR (sM ?_)
  refine Z1 Fx.fl26_3 ?_
  refine Z0 Fx.ty3 ?_
  refine Z1 Fx.fl26_3 ?_
  refine Z0 Fx.ty3 ?_
  refine SeqK.q (q_min rfl rfl rfl) rfl rfl rfl ?_
  refine Z1 Fx.fl26_3 ?_
  refine Z0 Fx.ty3 ?_
  refine Z1 Fx.fl26_3 ?_
  refine Z0 Fx.ty3 ?_
  refine SeqK.q (q_max rfl rfl rfl) rfl rfl rfl ?_
  refine Z11 (zs := [_, _, _, _, _, _, _, _, _]) (r := [_, _, _, _, _, _, _, _, _]) [(0, 1), (1, 1), (2, 1), (3, 2), (5, 4)] Fx.ze36 Fx.bp36 ?_
  refine Z47 81 XW.atN ?_
  refine Z11 (zs := [_, _, _, _, _, _, _, _, _, _, _]) (r := [_, _, _, _, _, _, _, _, _, _, _]) [(0, 1), (1, 1), (2, 9)] Fx.ze114 Fx.bp114 ?_
  refine Z2 (r := [_, _, _, _, _, _, _, _, _, _, _]) Fx.ty114 ?_
  refine Z7 (AW.ret ?_)
  exact f1 (.cellL rfl rfl Fx.ty114 rfl rfl .nil) (⟨by first | (exfalso; contradiction) | (exfalso; omega) | exact prCe (f := atP ⟨7, min x.ix y.ix, max x.ix y.ix, tm0, 0, 0, false, ⟨#[]⟩⟩) (by rw [txtP, if_neg (fun h => by have := h.1; have := h.2; first | omega | contradiction), if_neg (by assumption), if_neg (by assumption), if_neg (by assumption), if_pos (by assumption)]) | exact prCe (f := atP ⟨6, min x.ix y.ix, max x.ix y.ix, tm0, 0, 0, false, ⟨#[]⟩⟩) (by rw [txtP, if_neg (fun h => by have := h.1; have := h.2; first | omega | contradiction), if_neg (by assumption), if_neg (by assumption), if_neg (by assumption), if_neg (by assumption)]), rfl⟩)
 refine AW.skip (sR (sM ?_))
 refine Z1 Fx.fl26_3 ?_
 refine Z0 Fx.ty3 ?_
 refine Z1 Fx.fl26_3 ?_
 refine Z0 Fx.ty3 ?_
 refine SeqK.q (q_min rfl rfl rfl) rfl rfl rfl ?_
 refine Z1 Fx.fl26_3 ?_
 refine Z0 Fx.ty3 ?_
 refine Z1 Fx.fl26_3 ?_
 refine Z0 Fx.ty3 ?_
 refine SeqK.q (q_max rfl rfl rfl) rfl rfl rfl ?_
 refine Z11 (zs := [_, _, _, _, _, _, _, _, _]) (r := [_, _, _, _, _, _, _, _, _]) [(0, 1), (1, 1), (2, 1), (3, 2), (5, 4)] Fx.ze36 Fx.bp36 ?_
 refine Z47 81 XW.atN ?_
 refine Z11 (zs := [_, _, _, _, _, _, _, _, _, _, _]) (r := [_, _, _, _, _, _, _, _, _, _, _]) [(0, 1), (1, 1), (2, 9)] Fx.ze114 Fx.bp114 ?_
 refine Z2 (r := [_, _, _, _, _, _, _, _, _, _, _]) Fx.ty114 ?_
 refine Z7 (AW.ret ?_)
 exact f1 (.cellL rfl rfl Fx.ty114 rfl rfl .nil) (⟨by first | (exfalso; contradiction) | (exfalso; omega) | exact prCe (f := atP ⟨7, min x.ix y.ix, max x.ix y.ix, tm0, 0, 0, false, ⟨#[]⟩⟩) (by rw [txtP, if_neg (fun h => by have := h.1; have := h.2; first | omega | contradiction), if_neg (by assumption), if_neg (by assumption), if_neg (by assumption), if_pos (by assumption)]) | exact prCe (f := atP ⟨6, min x.ix y.ix, max x.ix y.ix, tm0, 0, 0, false, ⟨#[]⟩⟩) (by rw [txtP, if_neg (fun h => by have := h.1; have := h.2; first | omega | contradiction), if_neg (by assumption), if_neg (by assumption), if_neg (by assumption), if_neg (by assumption)]), rfl⟩)
abbrev prX (r : PR × Int) : X := .tup [prC r.1, iC r.2]
theorem prXe {f g : PR × Int} (h : f = g) : prX f = prX g := by rw [h]
theorem add_vldA {a b : Tm} (ha : vldT a = true) (hb : vldT b = true) : vldT (add a b).1 = true := sum_vld ha hb
theorem one_vld : vldT ⟨1, []⟩ = true := by decide
theorem one_cnt : (⟨1, []⟩ : Tm).cnt = 1 := by decide
theorem intF_0 {op : Int} {t : Tm} (h : t.ps.length = 0) : intF op t = (dcd (cpB op (sgI t.c)), 0) := by unfold intF; rw [if_pos h]
theorem intF_1 {op : Int} {t : Tm} (h : ¬ t.ps.length = 0) (h1 : op = 10) : intF op t = (atP (atI 3 t), 0) := by unfold intF; rw [if_neg h, if_pos h1]
theorem intF_2 {op : Int} {t : Tm} (h : ¬ t.ps.length = 0) (h1 : ¬ op = 10) (h2 : op = 11) : intF op t = (atP (atI 4 t), 0) := by unfold intF; rw [if_neg h, if_neg h1, if_pos h2]
abbrev uF (op : Int) (t : Tm) : Tm × Int := if op = 15 ∨ op = 14 then scale t (-1) else (t, 0)
abbrev wF (op : Int) (t : Tm) : Tm × Int := if op = 12 ∨ op = 14 then add t ⟨1, []⟩ else (t, 0)
theorem intF_3 {op : Int} {t : Tm} (h : ¬ t.ps.length = 0) (h1 : ¬ op = 10) (h2 : ¬ op = 11) {u : Tm × Int} (hu : uF op t = u) (hu2 : u.2 ≠ 0) : intF op t = (pr0, u.2) := by subst hu; unfold intF; rw [if_neg h, if_neg h1, if_neg h2]; exact if_pos hu2
theorem intF_4 {op : Int} {t : Tm} (h : ¬ t.ps.length = 0) (h1 : ¬ op = 10) (h2 : ¬ op = 11) {u w : Tm × Int} (hu : uF op t = u) (hu2 : u.2 = 0) (hw : wF op u.1 = w) (hw2 : w.2 ≠ 0) : intF op t = (pr0, w.2) := by
  subst hu hw; unfold intF; rw [if_neg h, if_neg h1, if_neg h2]; exact (if_neg fun k => k hu2).trans (if_pos hw2)
theorem intF_5 {op : Int} {t : Tm} (h : ¬ t.ps.length = 0) (h1 : ¬ op = 10) (h2 : ¬ op = 11) {u w : Tm × Int} (hu : uF op t = u) (hu2 : u.2 = 0) (hw : wF op u.1 = w) (hw2 : w.2 = 0) : intF op t = (atP (atI 2 w.1), 0) := by
  subst hu hw; unfold intF; rw [if_neg h, if_neg h1, if_neg h2]; exact (if_neg fun k => k hu2).trans (if_neg fun k => k hw2)
theorem uF_t {op : Int} {t : Tm} (h : op = 15 ∨ op = 14) : uF op t = scale t (-1) := if_pos h
theorem uF_f {op : Int} {t : Tm} (h : ¬ (op = 15 ∨ op = 14)) : uF op t = (t, 0) := if_neg h
theorem wF_t {op : Int} {t : Tm} (h : op = 12 ∨ op = 14) : wF op t = add t ⟨1, []⟩ := if_pos h
theorem wF_f {op : Int} {t : Tm} (h : ¬ (op = 12 ∨ op = 14)) : wF op t = (t, 0) := if_neg h
theorem integers_any (op : Int) (x y : Ex) (hx : okE x) (hy : okE y) (gx : gd (ofE x)) (gy : gd (ofE y)) : Pure Tryz.prog 100 [iC op, exC x, exC y] (prX (intP op x y)) := by
 intro H
 refine Spec.enter Tryz.func100 rfl ?_
 refine AW.wk (Wk.keep 104 [(0, .c (iC op)), (1, .c (exC x)), (2, .c (exC y))] [] (H) rfl ⟨rfl, rfl, rfl, trivial⟩ trivial (fun _ _ h => h) rfl) ?_
 refine sR (Z20 (r := [_, _, _, _, _, _, _, _]) ?_)
 refine Z20 (r := [_, _, _, _, _, _, _, _]) ?_
 refine Z16 (r := [_, _, _, _, _, _, _, _, _, _, _]) Fx.ze114 ?_
 refine sB ?_
 refine sR (Z10 (r := .g [_, _, _, _, _, _, _, _]) Fx.ty26 ?_)
 refine Z12 Fx.fn138 (of_any x hx) ?_
 refine Z39 ?_
 refine Z6 ?_
 refine Z6 ?_
 refine Z16 (r := [_, _]) Fx.ze32 ?_
 refine Z2 (r := [_, _]) Fx.ty32 ?_
 refine sB ?_
 refine AW.seq (sR (sM ?_))
 refine Z26 ?_
 refine Z7 ?_
 refine cD ?_ ?_ <;> intro h18
 ·
  refine sR (Z11 (zs := [_, _, _, _, _, _, _, _, _, _, _]) (r := [_, _, _, _, _, _, _, _, _, _, _]) [(0, 1), (1, 1), (2, 9)] Fx.ze114 Fx.bp114 ?_)
  refine Z47 19 XW.prN ?_
  refine sM ?_
  refine Z2 (r := [_, _, _, _, _, _, _, _, _, _, _]) Fx.ty114 ?_
  refine sB ?_
  exact aR (f2 (.cellL rfl rfl Fx.ty114 rfl rfl (.tmp rfl .nil)) (⟨prXe (f := (pr0, (ofE x).2)) (by rw [intP, if_pos h18]), rfl⟩))
 have e1 : (ofE x).2 = 0 := Classical.not_not.1 h18
 have vx := (gx e1).1
 have cx := (gx e1).2
 refine AW.skip (sR (Z10 (r := .g [_, _, _, _, _, _, _, _]) Fx.ty26 ?_))
 refine Z12 Fx.fn138 (of_any y hy) ?_
 refine Z39 ?_
 refine Z6 ?_
 refine Z6 ?_
 refine Z16 (r := [_, _]) Fx.ze32 ?_
 refine Z2 (r := [_, _]) Fx.ty32 ?_
 refine sB ?_
 refine AW.seq (sR (sM ?_))
 refine Z26 ?_
 refine Z7 ?_
 refine cD ?_ ?_ <;> intro h27
 ·
  refine sR (Z11 (zs := [_, _, _, _, _, _, _, _, _, _, _]) (r := [_, _, _, _, _, _, _, _, _, _, _]) [(0, 1), (1, 1), (2, 9)] Fx.ze114 Fx.bp114 ?_)
  refine Z47 28 XW.prN ?_
  refine sM ?_
  refine Z2 (r := [_, _, _, _, _, _, _, _, _, _, _]) Fx.ty114 ?_
  refine sB ?_
  exact aR (f2 (.cellL rfl rfl Fx.ty114 rfl rfl (.tmp rfl .nil)) (⟨prXe (f := (pr0, (ofE y).2)) (by rw [intP, if_neg h18, if_pos h27]), rfl⟩))
 have e2 : (ofE y).2 = 0 := Classical.not_not.1 h27
 have vy := (gy e2).1
 have cy := (gy e2).2
 have cn := scale_cnt (ofE y).1 (-1)
 refine AW.skip (sR (Z10 (r := .g [_, _]) Fx.ty32 ?_))
 refine SeqK.q (q_call _ rfl Fx.fn139 rfl (scale_any _ (-1) (vldT_bok vy) (vldT_one vy) (by decide) (by omega)) rfl) rfl rfl rfl ?_
 refine Z39 ?_
 refine Z6 ?_
 refine Z6 ?_
 refine Z2 (r := [_, _]) Fx.ty32 ?_
 refine sB ?_
 refine AW.seq (sR (sM ?_))
 refine Z26 ?_
 refine Z7 ?_
 refine cD ?_ ?_ <;> intro h36
 ·
  refine sR (Z11 (zs := [_, _, _, _, _, _, _, _, _, _, _]) (r := [_, _, _, _, _, _, _, _, _, _, _]) [(0, 1), (1, 1), (2, 9)] Fx.ze114 Fx.bp114 ?_)
  refine Z47 37 XW.prN ?_
  refine sM ?_
  refine Z2 (r := [_, _, _, _, _, _, _, _, _, _, _]) Fx.ty114 ?_
  refine sB ?_
  exact aR (f2 (.cellL rfl rfl Fx.ty114 rfl rfl (.tmp rfl .nil)) (⟨prXe (f := (pr0, (scale (ofE y).1 (-1)).2)) (by rw [intP, if_neg h18, if_neg h27, if_pos h36]), rfl⟩))
 have e3 : (scale (ofE y).1 (-1)).2 = 0 := Classical.not_not.1 h36
 have vn := scale_vld vy e3
 refine AW.skip (sR (Z10 (r := .g [_, _]) Fx.ty32 ?_))
 refine Z10 (r := .g [_, _]) Fx.ty32 ?_
 refine SeqK.q (q_call _ rfl Fx.fn140 rfl (add_any _ _ vx vn (by omega)) rfl) rfl rfl rfl ?_
 refine Z39 ?_
 refine Z6 ?_
 refine Z6 ?_
 refine Z16 (r := [_, _]) Fx.ze32 ?_
 refine Z2 (r := [_, _]) Fx.ty32 ?_
 refine sB ?_
 refine AW.seq (sR (sM ?_))
 refine Z26 ?_
 refine Z7 ?_
 refine cD ?_ ?_ <;> intro h46
 ·
  refine sR (Z11 (zs := [_, _, _, _, _, _, _, _, _, _, _]) (r := [_, _, _, _, _, _, _, _, _, _, _]) [(0, 1), (1, 1), (2, 9)] Fx.ze114 Fx.bp114 ?_)
  refine Z47 47 XW.prN ?_
  refine sM ?_
  refine Z2 (r := [_, _, _, _, _, _, _, _, _, _, _]) Fx.ty114 ?_
  refine sB ?_
  exact aR (f2 (.cellL rfl rfl Fx.ty114 rfl rfl (.tmp rfl .nil)) (⟨prXe (f := (pr0, (add (ofE x).1 (scale (ofE y).1 (-1)).1).2)) (by rw [intP, if_neg h18, if_neg h27, if_neg h36, if_pos h46]), rfl⟩))
 have e4 : (add (ofE x).1 (scale (ofE y).1 (-1)).1).2 = 0 := Classical.not_not.1 h46
 have vt := add_vldA vx vn
 have ct := add_cnt (ofE x).1 (scale (ofE y).1 (-1)).1
 have hP : intP op x y = intF op (add (ofE x).1 (scale (ofE y).1 (-1)).1).1 := by rw [intP, if_neg h18, if_neg h27, if_neg h36, if_neg h46]
 have ctn := scale_cnt (add (ofE x).1 (scale (ofE y).1 (-1)).1).1 (-1)
 refine AW.skip (AW.seq (sR (Z1 Fx.fl32_1 ?_)))
 refine Z0 Fx.ty30 ?_
 refine Z22 Fx.un30 ?_
 refine Z9 ?_
 refine Z7 ?_
 refine cD ?_ ?_ <;> intro h52
 ·
  have h52a : (add (ofE x).1 (scale (ofE y).1 (-1)).1).1.ps.length = 0 := by rw [List.length_map] at h52; omega
  refine sR (sM ?_)
  refine Z1 Fx.fl32_0 ?_
  refine Z0 Fx.ty2 ?_
  refine Z12 Fx.fn141 (sign_any _) ?_
  refine Z12 Fx.fn135 (compares_any _ _) ?_
  refine Z12 Fx.fn134 (decided_any _) ?_
  refine Z2 (r := [_, _, _, _, _, _, _, _, _, _, _]) Fx.ty114 ?_
  refine sB ?_
  exact aR (f2 (.cellL rfl rfl Fx.ty114 rfl rfl (.tmp rfl .nil)) (⟨prXe (f := (dcd (cpB op (sgI (add (ofE x).1 (scale (ofE y).1 (-1)).1).1.c)), 0)) (hP.trans (intF_0 h52a)).symm, rfl⟩))
 have h52b : ¬ (add (ofE x).1 (scale (ofE y).1 (-1)).1).1.ps.length = 0 := by rw [List.length_map] at h52; omega
 refine AW.skip (AW.seq (sR (sM ?_)))
 refine Z7 (AW.block (sR (Z9 ?_)))
 refine sB ?_
 refine cD ?_ ?_ <;> intro h60
 ·
  refine sR (Z10 (r := .g [_, _]) Fx.ty32 ?_)
  refine Z11 (zs := [_, _, _, _, _, _, _, _, _]) (r := [_, _, _, _, _, _, _, _, _]) [(0, 1), (1, 1), (2, 1), (3, 2), (5, 4)] Fx.ze36 Fx.bp36 ?_
  refine Z11 (zs := [_, _, _, _, _, _, _, _, _, _, _]) (r := [_, _, _, _, _, _, _, _, _, _, _]) [(0, 1), (1, 1), (2, 9)] Fx.ze114 Fx.bp114 ?_
  refine Z2 (r := [_, _, _, _, _, _, _, _, _, _, _]) Fx.ty114 ?_
  refine sB ?_
  exact aR (f2 (.cellL rfl rfl Fx.ty114 rfl rfl (.tmp rfl .nil)) (⟨prXe (f := (atP (atI 3 (add (ofE x).1 (scale (ofE y).1 (-1)).1).1), 0)) (hP.trans (intF_1 h52b h60)).symm, rfl⟩))
 refine sR (Z9 ?_)
 refine sB ?_
 refine cD ?_ ?_ <;> intro h65
 ·
  refine sR (Z10 (r := .g [_, _]) Fx.ty32 ?_)
  refine Z11 (zs := [_, _, _, _, _, _, _, _, _]) (r := [_, _, _, _, _, _, _, _, _]) [(0, 1), (1, 1), (2, 1), (3, 2), (5, 4)] Fx.ze36 Fx.bp36 ?_
  refine Z11 (zs := [_, _, _, _, _, _, _, _, _, _, _]) (r := [_, _, _, _, _, _, _, _, _, _, _]) [(0, 1), (1, 1), (2, 9)] Fx.ze114 Fx.bp114 ?_
  refine Z2 (r := [_, _, _, _, _, _, _, _, _, _, _]) Fx.ty114 ?_
  refine sB ?_
  exact aR (f2 (.cellL rfl rfl Fx.ty114 rfl rfl (.tmp rfl .nil)) (⟨prXe (f := (atP (atI 4 (add (ofE x).1 (scale (ofE y).1 (-1)).1).1), 0)) (hP.trans (intF_2 h52b h60 h65)).symm, rfl⟩))
 refine AW.skip (AW.seq (sR (sM ?_)))
 refine Z9 ?_
 refine Z17 ?_ ?_ <;> intro g72
 ·
  iterate 2 refine oF ?_
  refine Z8 ?_
  refine Z7 (AW.condT rfl ?_)
  refine sR (Z10 (r := .g [_, _]) Fx.ty32 ?_)
  refine SeqK.q (q_call _ rfl Fx.fn139 rfl (scale_any _ (-1) (vldT_bok vt) (vldT_one vt) (by decide) (by omega)) rfl) rfl rfl rfl ?_
  refine Z39 ?_
  refine Z6 ?_
  refine Z6 ?_
  refine Z2 (r := [_, _]) Fx.ty32 ?_
  refine sB ?_
  refine sR (sM ?_)
  refine Z26 ?_
  refine Z7 ?_
  refine cD ?_ ?_ <;> intro h82
  ·
   refine sR (Z11 (zs := [_, _, _, _, _, _, _, _, _, _, _]) (r := [_, _, _, _, _, _, _, _, _, _, _]) [(0, 1), (1, 1), (2, 9)] Fx.ze114 Fx.bp114 ?_)
   refine Z47 83 XW.prN ?_
   refine sM ?_
   refine Z2 (r := [_, _, _, _, _, _, _, _, _, _, _]) Fx.ty114 ?_
   refine sB ?_
   exact aR (f2 (.cellL rfl rfl Fx.ty114 rfl rfl (.tmp rfl .nil)) (⟨prXe (f := (pr0, (scale (add (ofE x).1 (scale (ofE y).1 (-1)).1).1 (-1)).2)) (hP.trans (intF_3 h52b h60 h65 (uF_t (by omega)) h82)).symm, rfl⟩))
  have e5 : (scale (add (ofE x).1 (scale (ofE y).1 (-1)).1).1 (-1)).2 = 0 := Classical.not_not.1 h82
  have vtn := scale_vld vt e5
  refine AW.skip (AW.seq (sR (sM ?_)))
  refine Z9 ?_
  refine Z17 ?_ ?_ <;> intro g87
  ·
   exfalso; omega
  refine Z14 ?_
  refine Z21 ?_
  refine Z4 ?_
  refine Z7 ?_
  refine cD ?_ ?_ <;> intro h90
  ·
   exfalso; omega
  refine AW.skip (sR (Z10 (r := .g [_, _]) Fx.ty32 ?_))
  refine Z11 (zs := [_, _, _, _, _, _, _, _, _]) (r := [_, _, _, _, _, _, _, _, _]) [(0, 1), (1, 1), (2, 1), (3, 2), (5, 4)] Fx.ze36 Fx.bp36 ?_
  refine Z11 (zs := [_, _, _, _, _, _, _, _, _, _, _]) (r := [_, _, _, _, _, _, _, _, _, _, _]) [(0, 1), (1, 1), (2, 9)] Fx.ze114 Fx.bp114 ?_
  refine Z2 (r := [_, _, _, _, _, _, _, _, _, _, _]) Fx.ty114 ?_
  refine sB ?_
  exact aR (f2 (.cellL rfl rfl Fx.ty114 rfl rfl (.tmp rfl .nil)) (⟨prXe (f := (atP (atI 2 (scale (add (ofE x).1 (scale (ofE y).1 (-1)).1).1 (-1)).1), 0)) (hP.trans (intF_5 h52b h60 h65 (uF_t (by omega)) e5 (wF_f (by omega)) rfl)).symm, rfl⟩))
 refine Z14 ?_
 refine Z21 ?_
 refine Z4 ?_
 refine Z7 ?_
 refine cD ?_ ?_ <;> intro h75
 ·
  refine sR (Z10 (r := .g [_, _]) Fx.ty32 ?_)
  refine SeqK.q (q_call _ rfl Fx.fn139 rfl (scale_any _ (-1) (vldT_bok vt) (vldT_one vt) (by decide) (by omega)) rfl) rfl rfl rfl ?_
  refine Z39 ?_
  refine Z6 ?_
  refine Z6 ?_
  refine Z2 (r := [_, _]) Fx.ty32 ?_
  refine sB ?_
  refine sR (sM ?_)
  refine Z26 ?_
  refine Z7 ?_
  refine cD ?_ ?_ <;> intro h82
  ·
   refine sR (Z11 (zs := [_, _, _, _, _, _, _, _, _, _, _]) (r := [_, _, _, _, _, _, _, _, _, _, _]) [(0, 1), (1, 1), (2, 9)] Fx.ze114 Fx.bp114 ?_)
   refine Z47 83 XW.prN ?_
   refine sM ?_
   refine Z2 (r := [_, _, _, _, _, _, _, _, _, _, _]) Fx.ty114 ?_
   refine sB ?_
   exact aR (f2 (.cellL rfl rfl Fx.ty114 rfl rfl (.tmp rfl .nil)) (⟨prXe (f := (pr0, (scale (add (ofE x).1 (scale (ofE y).1 (-1)).1).1 (-1)).2)) (hP.trans (intF_3 h52b h60 h65 (uF_t (by omega)) h82)).symm, rfl⟩))
  have e5 : (scale (add (ofE x).1 (scale (ofE y).1 (-1)).1).1 (-1)).2 = 0 := Classical.not_not.1 h82
  have vtn := scale_vld vt e5
  refine AW.skip (AW.seq (sR (sM ?_)))
  refine Z9 ?_
  refine Z17 ?_ ?_ <;> intro g87
  ·
   exfalso; omega
  refine Z14 ?_
  refine Z21 ?_
  refine Z4 ?_
  refine Z7 ?_
  refine cD ?_ ?_ <;> intro h90
  rotate_left
  ·
   exfalso; omega
  refine sR (Z10 (r := .g [_, _]) Fx.ty32 ?_)
  refine Z11 (zs := [_, _]) (r := [_, _]) [(0, 1), (1, 1)] Fx.ze32 Fx.bp32 ?_
  refine Z47 93 XW.tm0 ?_
  refine SeqK.q (q_call _ rfl Fx.fn140 rfl (add_any _ _ vtn one_vld (by rw [one_cnt]; omega)) rfl) rfl rfl rfl ?_
  refine Z39 ?_
  refine Z6 ?_
  refine Z6 ?_
  refine Z2 (r := [_, _]) Fx.ty32 ?_
  refine sB ?_
  refine sR (sM ?_)
  refine Z26 ?_
  refine Z7 ?_
  refine cD ?_ ?_ <;> intro h98
  ·
   refine sR (Z11 (zs := [_, _, _, _, _, _, _, _, _, _, _]) (r := [_, _, _, _, _, _, _, _, _, _, _]) [(0, 1), (1, 1), (2, 9)] Fx.ze114 Fx.bp114 ?_)
   refine Z47 99 XW.prN ?_
   refine sM ?_
   refine Z2 (r := [_, _, _, _, _, _, _, _, _, _, _]) Fx.ty114 ?_
   refine sB ?_
   exact aR (f2 (.cellL rfl rfl Fx.ty114 rfl rfl (.tmp rfl .nil)) (⟨prXe (f := (pr0, (add (scale (add (ofE x).1 (scale (ofE y).1 (-1)).1).1 (-1)).1 ⟨1, []⟩).2)) (hP.trans (intF_4 h52b h60 h65 (uF_t (by omega)) e5 (wF_t (by omega)) h98)).symm, rfl⟩))
  refine AW.skip (sR (Z10 (r := .g [_, _]) Fx.ty32 ?_))
  refine Z11 (zs := [_, _, _, _, _, _, _, _, _]) (r := [_, _, _, _, _, _, _, _, _]) [(0, 1), (1, 1), (2, 1), (3, 2), (5, 4)] Fx.ze36 Fx.bp36 ?_
  refine Z11 (zs := [_, _, _, _, _, _, _, _, _, _, _]) (r := [_, _, _, _, _, _, _, _, _, _, _]) [(0, 1), (1, 1), (2, 9)] Fx.ze114 Fx.bp114 ?_
  refine Z2 (r := [_, _, _, _, _, _, _, _, _, _, _]) Fx.ty114 ?_
  refine sB ?_
  exact aR (f2 (.cellL rfl rfl Fx.ty114 rfl rfl (.tmp rfl .nil)) (⟨prXe (f := (atP (atI 2 (add (scale (add (ofE x).1 (scale (ofE y).1 (-1)).1).1 (-1)).1 ⟨1, []⟩).1), 0)) (hP.trans (intF_5 h52b h60 h65 (uF_t (by omega)) e5 (wF_t (by omega)) (Classical.not_not.1 h98))).symm, rfl⟩))
 refine AW.skip (AW.seq (sR (sM ?_)))
 refine Z9 ?_
 refine Z17 ?_ ?_ <;> intro g87
 rotate_left
 ·
  refine Z14 ?_
  refine Z21 ?_
  refine Z4 ?_
  refine Z7 ?_
  refine cD ?_ ?_ <;> intro h90
  ·
   exfalso; omega
  refine AW.skip (sR (Z10 (r := .g [_, _]) Fx.ty32 ?_))
  refine Z11 (zs := [_, _, _, _, _, _, _, _, _]) (r := [_, _, _, _, _, _, _, _, _]) [(0, 1), (1, 1), (2, 1), (3, 2), (5, 4)] Fx.ze36 Fx.bp36 ?_
  refine Z11 (zs := [_, _, _, _, _, _, _, _, _, _, _]) (r := [_, _, _, _, _, _, _, _, _, _, _]) [(0, 1), (1, 1), (2, 9)] Fx.ze114 Fx.bp114 ?_
  refine Z2 (r := [_, _, _, _, _, _, _, _, _, _, _]) Fx.ty114 ?_
  refine sB ?_
  exact aR (f2 (.cellL rfl rfl Fx.ty114 rfl rfl (.tmp rfl .nil)) (⟨prXe (f := (atP (atI 2 (add (ofE x).1 (scale (ofE y).1 (-1)).1).1), 0)) (hP.trans (intF_5 h52b h60 h65 (uF_f (by omega)) rfl (wF_f (by omega)) rfl)).symm, rfl⟩))
 iterate 2 refine oF ?_
 refine Z8 ?_
 refine Z7 (AW.condT rfl ?_)
 refine sR (Z10 (r := .g [_, _]) Fx.ty32 ?_)
 refine Z11 (zs := [_, _]) (r := [_, _]) [(0, 1), (1, 1)] Fx.ze32 Fx.bp32 ?_
 refine Z47 93 XW.tm0 ?_
 refine SeqK.q (q_call _ rfl Fx.fn140 rfl (add_any _ _ vt one_vld (by rw [one_cnt]; omega)) rfl) rfl rfl rfl ?_
 refine Z39 ?_
 refine Z6 ?_
 refine Z6 ?_
 refine Z2 (r := [_, _]) Fx.ty32 ?_
 refine sB ?_
 refine sR (sM ?_)
 refine Z26 ?_
 refine Z7 ?_
 refine cD ?_ ?_ <;> intro h98
 ·
  refine sR (Z11 (zs := [_, _, _, _, _, _, _, _, _, _, _]) (r := [_, _, _, _, _, _, _, _, _, _, _]) [(0, 1), (1, 1), (2, 9)] Fx.ze114 Fx.bp114 ?_)
  refine Z47 99 XW.prN ?_
  refine sM ?_
  refine Z2 (r := [_, _, _, _, _, _, _, _, _, _, _]) Fx.ty114 ?_
  refine sB ?_
  exact aR (f2 (.cellL rfl rfl Fx.ty114 rfl rfl (.tmp rfl .nil)) (⟨prXe (f := (pr0, (add (add (ofE x).1 (scale (ofE y).1 (-1)).1).1 ⟨1, []⟩).2)) (hP.trans (intF_4 h52b h60 h65 (uF_f (by omega)) rfl (wF_t (by omega)) h98)).symm, rfl⟩))
 refine AW.skip (sR (Z10 (r := .g [_, _]) Fx.ty32 ?_))
 refine Z11 (zs := [_, _, _, _, _, _, _, _, _]) (r := [_, _, _, _, _, _, _, _, _]) [(0, 1), (1, 1), (2, 1), (3, 2), (5, 4)] Fx.ze36 Fx.bp36 ?_
 refine Z11 (zs := [_, _, _, _, _, _, _, _, _, _, _]) (r := [_, _, _, _, _, _, _, _, _, _, _]) [(0, 1), (1, 1), (2, 9)] Fx.ze114 Fx.bp114 ?_
 refine Z2 (r := [_, _, _, _, _, _, _, _, _, _, _]) Fx.ty114 ?_
 refine sB ?_
 exact aR (f2 (.cellL rfl rfl Fx.ty114 rfl rfl (.tmp rfl .nil)) (⟨prXe (f := (atP (atI 2 (add (add (ofE x).1 (scale (ofE y).1 (-1)).1).1 ⟨1, []⟩).1), 0)) (hP.trans (intF_5 h52b h60 h65 (uF_f (by omega)) rfl (wF_t (by omega)) (Classical.not_not.1 h98))).symm, rfl⟩))
theorem dd_one (v : Int) : dd [v] = [v] := dd_self (List.pairwise_cons.2 ⟨fun _ h => (by cases h), List.Pairwise.nil⟩)
theorem vars_h (H : Heap) (t : Tm) (hv : vldT t = true) (hN : t.cnt ≤ 100000) : E.Spec Tryz.prog 101 [tmC t] H fun x H' => ∃ k, H k = none ∧ x = .c (.a (.os k 0 (vars t).length 1)) ∧ H' = upd H k (some (.row 3 1 ((vars t).map iA))) :=
  vars_of H t hv hN fun p hp o ho hvo => vars_any o hvo (by have := cnt_of hp ho; omega)
theorem va_t {a : At} (h : a.k = 2 ∨ a.k = 3 ∨ a.k = 4) : dd (vars a.t) = vaA a := by rw [vaA, if_pos h, vars, dd_self (dd_spec _).1]
theorem va_2 {a : At} (h : ¬ (a.k = 2 ∨ a.k = 3 ∨ a.k = 4)) (h2 : a.k = 6 ∨ a.k = 7) : dd [a.v, a.o] = vaA a := by rw [vaA, if_neg h, if_pos h2]
theorem va_1 {a : At} (h : ¬ (a.k = 2 ∨ a.k = 3 ∨ a.k = 4)) (h2 : ¬ (a.k = 6 ∨ a.k = 7)) : dd [a.v] = vaA a := by rw [vaA, if_neg h, if_neg h2, dd_one]
theorem va_len {a : At} (h : a.t.cnt ≤ 100000) : (vaA a).length ≤ 100000 := by
  unfold vaA
  split
  · exact Nat.le_trans (vars_len a.t) h
  · split
    · exact Nat.le_trans (dd_len _) (by simp)
    · simp
theorem avars_of (H : Heap) (a : At) (hv : a.k = 2 ∨ a.k = 3 ∨ a.k = 4 → vldT a.t = true) (hN : a.t.cnt ≤ 100000) : E.Spec Tryz.prog 69 [fmC (atF a)] H fun x H' => ∃ k, H k = none ∧ x = .c (.a (.os k 0 (vaA a).length 1)) ∧ H' = upd H k (some (.row 3 1 ((vaA a).map iA))) := by
 refine Spec.enter Tryz.func69 rfl ?_
 refine AW.wk (Wk.keep 50 [(0, .c (fmC (atF a)))] [] (H) rfl ⟨rfl, trivial⟩ trivial (fun _ _ h => h) rfl) ?_
 refine sR (Z20 (r := [_, _, _, _, _, _, _, _, _, _, _]) ?_)
 refine sB ?_
 refine sR (sB ?_)
 refine AW.seq (sR (Z1 Fx.fl39_2 ?_))
 refine Z0 Fx.ty37 ?_
 refine Z22 Fx.un37 ?_
 refine sM ?_
 refine Z7 (AW.block ?_)
 refine AW.loop (fun (i : Nat) s => (True) ∧ s = ⟨50, sp [(1, .lp 1 0), (2, .c (.a (.t (.v (.slice none 0 0))))), (3, .c (.a (.t (.v (.slice none 0 0))))), (8, iX .i64 (((([] : List Fm).map fmT').length : Nat) : Int)), (9, iX .i64 ((i : Nat) : Int))], lv [(1, .box [.t (.v (.int .i64 2)), .t (.v (.int .i64 a.k)), .t (.v (.int .i64 a.v)), .t (.v (.int .i64 a.o)), .t (.v (.int .i64 a.t.c)), .t (.sl .un 5 (a.t.ps.map ptT)), .t (.v (.int .i64 a.tv)), .t (.v (.int .i64 a.tk)), .t (.v (.bool a.tn)), .t (.v (.string a.ts)), .t (.sl .un 11 [])])], H⟩) (fun i => 0 - i) 0 ⟨_, by exact Wk.keep 50 _ _ _ rfl ⟨rfl, rfl, rfl, rfl, rfl, trivial⟩ ⟨rfl, trivial⟩ (fun _ _ h => h) rfl, trivial, rfl⟩ (fun i s hs => ?_)
 obtain ⟨hi0, rfl⟩ := hs
 refine sR (Z30 ?_)
 refine Z7 (AW.seq ?_)
 refine cD ?_ ?_ <;> intro h10
 ·
  exfalso; simp at h10; omega
 refine AW.exit ?_
 refine eth_e ?_
 refine eth_e ?_
 refine exit_here ?_
 refine AW.seqM (fun s => ∃ (k : Nat) (xs : List Int), (H k = none ∧ dd xs = vaA a ∧ xs.length ≤ 100000) ∧ s = ⟨50, sp [(3, .c (.a (.os k 0 xs.length 1)))], lv [], upd H k (some (.row 3 1 (xs.map iA)))⟩) ?_ ?_
 ·
  refine sR (Z1 Fx.fl39_0 ?_)
  refine Z0 Fx.ty3 ?_
  refine Z9 ?_
  refine Z7 ?_
  refine cD ?_ ?_ <;> intro h20
  rotate_left
  ·
   exact absurd rfl h20
  refine sR (Z1 Fx.fl39_1 ?_)
  refine Z1 Fx.fl36_0 ?_
  refine Z0 Fx.ty3 ?_
  refine Z7 (AW.block (AW.seq (sR (Z9 ?_))))
  refine sB ?_
  refine cD ?_ ?_ <;> intro h28
  ·
   refine AW.skip ?_
   refine cD ?_ ?_ <;> intro h28
   ·
    refine AW.reg (Z1 Fx.fl39_1 ?_)
    refine Z1 Fx.fl36_3 ?_
    refine Z10 (r := .g [_, _]) Fx.ty32 ?_
    refine SeqK.callE rfl rfl rfl rfl Fx.fn101 rfl (vars_h _ a.t (hv (by omega)) hN) (fun _ _ ⟨_, _, h, _⟩ => by rw [h]; rfl) (fun x35 H35 q35 => ?_)
    obtain ⟨k35, hk35, rfl, rfl⟩ := q35
    refine sB ?_
    first | exact ⟨_, by exact Wk.keep 50 _ _ _ rfl ⟨rfl, trivial⟩ trivial (fun _ _ h => h) rfl, k35, vars a.t, ⟨hk35, va_t (by omega), by have := vars_len a.t; omega⟩, rfl⟩ | exact ⟨_, by exact Wk.keep 50 _ _ _ rfl ⟨rfl, trivial⟩ trivial (fun _ _ h => h) rfl, k45, [a.v, a.o], ⟨hk45, va_2 (by omega) (by omega), by simp⟩, rfl⟩ | exact ⟨_, by exact Wk.keep 50 _ _ _ rfl ⟨rfl, trivial⟩ trivial (fun _ _ h => h) rfl, k27, [a.v], ⟨hk27, va_1 (by omega) (by omega), by simp⟩, rfl⟩
   refine AW.seq (sR (Z9 ?_))
   refine sB ?_
   refine cD ?_ ?_ <;> intro h36
   ·
    refine AW.skip ?_
    refine cD ?_ ?_ <;> intro h36
    ·
     refine AW.reg (Z1 Fx.fl39_1 ?_)
     refine Z1 Fx.fl36_1 ?_
     refine Z0 Fx.ty3 ?_
     refine Z1 Fx.fl39_1 ?_
     refine Z1 Fx.fl36_2 ?_
     refine Z0 Fx.ty3 ?_
     refine SeqK.buildRow rfl rfl Fx.el80 rfl (by decide) (by decide) rfl rfl rfl (fun k45 hk45 => ?_)
     refine sB ?_
     first | exact ⟨_, by exact Wk.keep 50 _ _ _ rfl ⟨rfl, trivial⟩ trivial (fun _ _ h => h) rfl, k35, vars a.t, ⟨hk35, va_t (by omega), by have := vars_len a.t; omega⟩, rfl⟩ | exact ⟨_, by exact Wk.keep 50 _ _ _ rfl ⟨rfl, trivial⟩ trivial (fun _ _ h => h) rfl, k45, [a.v, a.o], ⟨hk45, va_2 (by omega) (by omega), by simp⟩, rfl⟩ | exact ⟨_, by exact Wk.keep 50 _ _ _ rfl ⟨rfl, trivial⟩ trivial (fun _ _ h => h) rfl, k27, [a.v], ⟨hk27, va_1 (by omega) (by omega), by simp⟩, rfl⟩
    refine AW.reg (Z1 Fx.fl39_1 ?_)
    refine Z1 Fx.fl36_1 ?_
    refine Z0 Fx.ty3 ?_
    refine SeqK.buildRow rfl rfl Fx.el80 rfl (by decide) (by decide) rfl rfl rfl (fun k27 hk27 => ?_)
    refine sB ?_
    first | exact ⟨_, by exact Wk.keep 50 _ _ _ rfl ⟨rfl, trivial⟩ trivial (fun _ _ h => h) rfl, k35, vars a.t, ⟨hk35, va_t (by omega), by have := vars_len a.t; omega⟩, rfl⟩ | exact ⟨_, by exact Wk.keep 50 _ _ _ rfl ⟨rfl, trivial⟩ trivial (fun _ _ h => h) rfl, k45, [a.v, a.o], ⟨hk45, va_2 (by omega) (by omega), by simp⟩, rfl⟩ | exact ⟨_, by exact Wk.keep 50 _ _ _ rfl ⟨rfl, trivial⟩ trivial (fun _ _ h => h) rfl, k27, [a.v], ⟨hk27, va_1 (by omega) (by omega), by simp⟩, rfl⟩
   refine AW.reg (Z9 ?_)
   refine sB ?_
   refine cD ?_ ?_ <;> intro h36
   ·
    refine AW.reg (Z1 Fx.fl39_1 ?_)
    refine Z1 Fx.fl36_1 ?_
    refine Z0 Fx.ty3 ?_
    refine Z1 Fx.fl39_1 ?_
    refine Z1 Fx.fl36_2 ?_
    refine Z0 Fx.ty3 ?_
    refine SeqK.buildRow rfl rfl Fx.el80 rfl (by decide) (by decide) rfl rfl rfl (fun k45 hk45 => ?_)
    refine sB ?_
    first | exact ⟨_, by exact Wk.keep 50 _ _ _ rfl ⟨rfl, trivial⟩ trivial (fun _ _ h => h) rfl, k35, vars a.t, ⟨hk35, va_t (by omega), by have := vars_len a.t; omega⟩, rfl⟩ | exact ⟨_, by exact Wk.keep 50 _ _ _ rfl ⟨rfl, trivial⟩ trivial (fun _ _ h => h) rfl, k45, [a.v, a.o], ⟨hk45, va_2 (by omega) (by omega), by simp⟩, rfl⟩ | exact ⟨_, by exact Wk.keep 50 _ _ _ rfl ⟨rfl, trivial⟩ trivial (fun _ _ h => h) rfl, k27, [a.v], ⟨hk27, va_1 (by omega) (by omega), by simp⟩, rfl⟩
   refine AW.reg (Z1 Fx.fl39_1 ?_)
   refine Z1 Fx.fl36_1 ?_
   refine Z0 Fx.ty3 ?_
   refine SeqK.buildRow rfl rfl Fx.el80 rfl (by decide) (by decide) rfl rfl rfl (fun k27 hk27 => ?_)
   refine sB ?_
   first | exact ⟨_, by exact Wk.keep 50 _ _ _ rfl ⟨rfl, trivial⟩ trivial (fun _ _ h => h) rfl, k35, vars a.t, ⟨hk35, va_t (by omega), by have := vars_len a.t; omega⟩, rfl⟩ | exact ⟨_, by exact Wk.keep 50 _ _ _ rfl ⟨rfl, trivial⟩ trivial (fun _ _ h => h) rfl, k45, [a.v, a.o], ⟨hk45, va_2 (by omega) (by omega), by simp⟩, rfl⟩ | exact ⟨_, by exact Wk.keep 50 _ _ _ rfl ⟨rfl, trivial⟩ trivial (fun _ _ h => h) rfl, k27, [a.v], ⟨hk27, va_1 (by omega) (by omega), by simp⟩, rfl⟩
  refine sR (Z9 ?_)
  refine sB ?_
  refine cD ?_ ?_ <;> intro h28
  ·
   refine AW.skip ?_
   refine cD ?_ ?_ <;> intro h28
   ·
    refine AW.reg (Z1 Fx.fl39_1 ?_)
    refine Z1 Fx.fl36_3 ?_
    refine Z10 (r := .g [_, _]) Fx.ty32 ?_
    refine SeqK.callE rfl rfl rfl rfl Fx.fn101 rfl (vars_h _ a.t (hv (by omega)) hN) (fun _ _ ⟨_, _, h, _⟩ => by rw [h]; rfl) (fun x35 H35 q35 => ?_)
    obtain ⟨k35, hk35, rfl, rfl⟩ := q35
    refine sB ?_
    first | exact ⟨_, by exact Wk.keep 50 _ _ _ rfl ⟨rfl, trivial⟩ trivial (fun _ _ h => h) rfl, k35, vars a.t, ⟨hk35, va_t (by omega), by have := vars_len a.t; omega⟩, rfl⟩ | exact ⟨_, by exact Wk.keep 50 _ _ _ rfl ⟨rfl, trivial⟩ trivial (fun _ _ h => h) rfl, k45, [a.v, a.o], ⟨hk45, va_2 (by omega) (by omega), by simp⟩, rfl⟩ | exact ⟨_, by exact Wk.keep 50 _ _ _ rfl ⟨rfl, trivial⟩ trivial (fun _ _ h => h) rfl, k27, [a.v], ⟨hk27, va_1 (by omega) (by omega), by simp⟩, rfl⟩
   refine AW.seq (sR (Z9 ?_))
   refine sB ?_
   refine cD ?_ ?_ <;> intro h36
   ·
    refine AW.skip ?_
    refine cD ?_ ?_ <;> intro h36
    ·
     refine AW.reg (Z1 Fx.fl39_1 ?_)
     refine Z1 Fx.fl36_1 ?_
     refine Z0 Fx.ty3 ?_
     refine Z1 Fx.fl39_1 ?_
     refine Z1 Fx.fl36_2 ?_
     refine Z0 Fx.ty3 ?_
     refine SeqK.buildRow rfl rfl Fx.el80 rfl (by decide) (by decide) rfl rfl rfl (fun k45 hk45 => ?_)
     refine sB ?_
     first | exact ⟨_, by exact Wk.keep 50 _ _ _ rfl ⟨rfl, trivial⟩ trivial (fun _ _ h => h) rfl, k35, vars a.t, ⟨hk35, va_t (by omega), by have := vars_len a.t; omega⟩, rfl⟩ | exact ⟨_, by exact Wk.keep 50 _ _ _ rfl ⟨rfl, trivial⟩ trivial (fun _ _ h => h) rfl, k45, [a.v, a.o], ⟨hk45, va_2 (by omega) (by omega), by simp⟩, rfl⟩ | exact ⟨_, by exact Wk.keep 50 _ _ _ rfl ⟨rfl, trivial⟩ trivial (fun _ _ h => h) rfl, k27, [a.v], ⟨hk27, va_1 (by omega) (by omega), by simp⟩, rfl⟩
    refine AW.reg (Z1 Fx.fl39_1 ?_)
    refine Z1 Fx.fl36_1 ?_
    refine Z0 Fx.ty3 ?_
    refine SeqK.buildRow rfl rfl Fx.el80 rfl (by decide) (by decide) rfl rfl rfl (fun k27 hk27 => ?_)
    refine sB ?_
    first | exact ⟨_, by exact Wk.keep 50 _ _ _ rfl ⟨rfl, trivial⟩ trivial (fun _ _ h => h) rfl, k35, vars a.t, ⟨hk35, va_t (by omega), by have := vars_len a.t; omega⟩, rfl⟩ | exact ⟨_, by exact Wk.keep 50 _ _ _ rfl ⟨rfl, trivial⟩ trivial (fun _ _ h => h) rfl, k45, [a.v, a.o], ⟨hk45, va_2 (by omega) (by omega), by simp⟩, rfl⟩ | exact ⟨_, by exact Wk.keep 50 _ _ _ rfl ⟨rfl, trivial⟩ trivial (fun _ _ h => h) rfl, k27, [a.v], ⟨hk27, va_1 (by omega) (by omega), by simp⟩, rfl⟩
   refine AW.reg (Z9 ?_)
   refine sB ?_
   refine cD ?_ ?_ <;> intro h36
   ·
    refine AW.reg (Z1 Fx.fl39_1 ?_)
    refine Z1 Fx.fl36_1 ?_
    refine Z0 Fx.ty3 ?_
    refine Z1 Fx.fl39_1 ?_
    refine Z1 Fx.fl36_2 ?_
    refine Z0 Fx.ty3 ?_
    refine SeqK.buildRow rfl rfl Fx.el80 rfl (by decide) (by decide) rfl rfl rfl (fun k45 hk45 => ?_)
    refine sB ?_
    first | exact ⟨_, by exact Wk.keep 50 _ _ _ rfl ⟨rfl, trivial⟩ trivial (fun _ _ h => h) rfl, k35, vars a.t, ⟨hk35, va_t (by omega), by have := vars_len a.t; omega⟩, rfl⟩ | exact ⟨_, by exact Wk.keep 50 _ _ _ rfl ⟨rfl, trivial⟩ trivial (fun _ _ h => h) rfl, k45, [a.v, a.o], ⟨hk45, va_2 (by omega) (by omega), by simp⟩, rfl⟩ | exact ⟨_, by exact Wk.keep 50 _ _ _ rfl ⟨rfl, trivial⟩ trivial (fun _ _ h => h) rfl, k27, [a.v], ⟨hk27, va_1 (by omega) (by omega), by simp⟩, rfl⟩
   refine AW.reg (Z1 Fx.fl39_1 ?_)
   refine Z1 Fx.fl36_1 ?_
   refine Z0 Fx.ty3 ?_
   refine SeqK.buildRow rfl rfl Fx.el80 rfl (by decide) (by decide) rfl rfl rfl (fun k27 hk27 => ?_)
   refine sB ?_
   first | exact ⟨_, by exact Wk.keep 50 _ _ _ rfl ⟨rfl, trivial⟩ trivial (fun _ _ h => h) rfl, k35, vars a.t, ⟨hk35, va_t (by omega), by have := vars_len a.t; omega⟩, rfl⟩ | exact ⟨_, by exact Wk.keep 50 _ _ _ rfl ⟨rfl, trivial⟩ trivial (fun _ _ h => h) rfl, k45, [a.v, a.o], ⟨hk45, va_2 (by omega) (by omega), by simp⟩, rfl⟩ | exact ⟨_, by exact Wk.keep 50 _ _ _ rfl ⟨rfl, trivial⟩ trivial (fun _ _ h => h) rfl, k27, [a.v], ⟨hk27, va_1 (by omega) (by omega), by simp⟩, rfl⟩
  refine AW.reg (Z9 ?_)
  refine sB ?_
  refine cD ?_ ?_ <;> intro h28
  ·
   refine AW.reg (Z1 Fx.fl39_1 ?_)
   refine Z1 Fx.fl36_3 ?_
   refine Z10 (r := .g [_, _]) Fx.ty32 ?_
   refine SeqK.callE rfl rfl rfl rfl Fx.fn101 rfl (vars_h _ a.t (hv (by omega)) hN) (fun _ _ ⟨_, _, h, _⟩ => by rw [h]; rfl) (fun x35 H35 q35 => ?_)
   obtain ⟨k35, hk35, rfl, rfl⟩ := q35
   refine sB ?_
   first | exact ⟨_, by exact Wk.keep 50 _ _ _ rfl ⟨rfl, trivial⟩ trivial (fun _ _ h => h) rfl, k35, vars a.t, ⟨hk35, va_t (by omega), by have := vars_len a.t; omega⟩, rfl⟩ | exact ⟨_, by exact Wk.keep 50 _ _ _ rfl ⟨rfl, trivial⟩ trivial (fun _ _ h => h) rfl, k45, [a.v, a.o], ⟨hk45, va_2 (by omega) (by omega), by simp⟩, rfl⟩ | exact ⟨_, by exact Wk.keep 50 _ _ _ rfl ⟨rfl, trivial⟩ trivial (fun _ _ h => h) rfl, k27, [a.v], ⟨hk27, va_1 (by omega) (by omega), by simp⟩, rfl⟩
  refine AW.seq (sR (Z9 ?_))
  refine sB ?_
  refine cD ?_ ?_ <;> intro h36
  ·
   refine AW.skip ?_
   refine cD ?_ ?_ <;> intro h36
   ·
    refine AW.reg (Z1 Fx.fl39_1 ?_)
    refine Z1 Fx.fl36_1 ?_
    refine Z0 Fx.ty3 ?_
    refine Z1 Fx.fl39_1 ?_
    refine Z1 Fx.fl36_2 ?_
    refine Z0 Fx.ty3 ?_
    refine SeqK.buildRow rfl rfl Fx.el80 rfl (by decide) (by decide) rfl rfl rfl (fun k45 hk45 => ?_)
    refine sB ?_
    first | exact ⟨_, by exact Wk.keep 50 _ _ _ rfl ⟨rfl, trivial⟩ trivial (fun _ _ h => h) rfl, k35, vars a.t, ⟨hk35, va_t (by omega), by have := vars_len a.t; omega⟩, rfl⟩ | exact ⟨_, by exact Wk.keep 50 _ _ _ rfl ⟨rfl, trivial⟩ trivial (fun _ _ h => h) rfl, k45, [a.v, a.o], ⟨hk45, va_2 (by omega) (by omega), by simp⟩, rfl⟩ | exact ⟨_, by exact Wk.keep 50 _ _ _ rfl ⟨rfl, trivial⟩ trivial (fun _ _ h => h) rfl, k27, [a.v], ⟨hk27, va_1 (by omega) (by omega), by simp⟩, rfl⟩
   refine AW.reg (Z1 Fx.fl39_1 ?_)
   refine Z1 Fx.fl36_1 ?_
   refine Z0 Fx.ty3 ?_
   refine SeqK.buildRow rfl rfl Fx.el80 rfl (by decide) (by decide) rfl rfl rfl (fun k27 hk27 => ?_)
   refine sB ?_
   first | exact ⟨_, by exact Wk.keep 50 _ _ _ rfl ⟨rfl, trivial⟩ trivial (fun _ _ h => h) rfl, k35, vars a.t, ⟨hk35, va_t (by omega), by have := vars_len a.t; omega⟩, rfl⟩ | exact ⟨_, by exact Wk.keep 50 _ _ _ rfl ⟨rfl, trivial⟩ trivial (fun _ _ h => h) rfl, k45, [a.v, a.o], ⟨hk45, va_2 (by omega) (by omega), by simp⟩, rfl⟩ | exact ⟨_, by exact Wk.keep 50 _ _ _ rfl ⟨rfl, trivial⟩ trivial (fun _ _ h => h) rfl, k27, [a.v], ⟨hk27, va_1 (by omega) (by omega), by simp⟩, rfl⟩
  refine AW.reg (Z9 ?_)
  refine sB ?_
  refine cD ?_ ?_ <;> intro h36
  ·
   refine AW.reg (Z1 Fx.fl39_1 ?_)
   refine Z1 Fx.fl36_1 ?_
   refine Z0 Fx.ty3 ?_
   refine Z1 Fx.fl39_1 ?_
   refine Z1 Fx.fl36_2 ?_
   refine Z0 Fx.ty3 ?_
   refine SeqK.buildRow rfl rfl Fx.el80 rfl (by decide) (by decide) rfl rfl rfl (fun k45 hk45 => ?_)
   refine sB ?_
   first | exact ⟨_, by exact Wk.keep 50 _ _ _ rfl ⟨rfl, trivial⟩ trivial (fun _ _ h => h) rfl, k35, vars a.t, ⟨hk35, va_t (by omega), by have := vars_len a.t; omega⟩, rfl⟩ | exact ⟨_, by exact Wk.keep 50 _ _ _ rfl ⟨rfl, trivial⟩ trivial (fun _ _ h => h) rfl, k45, [a.v, a.o], ⟨hk45, va_2 (by omega) (by omega), by simp⟩, rfl⟩ | exact ⟨_, by exact Wk.keep 50 _ _ _ rfl ⟨rfl, trivial⟩ trivial (fun _ _ h => h) rfl, k27, [a.v], ⟨hk27, va_1 (by omega) (by omega), by simp⟩, rfl⟩
  refine AW.reg (Z1 Fx.fl39_1 ?_)
  refine Z1 Fx.fl36_1 ?_
  refine Z0 Fx.ty3 ?_
  refine SeqK.buildRow rfl rfl Fx.el80 rfl (by decide) (by decide) rfl rfl rfl (fun k27 hk27 => ?_)
  refine sB ?_
  first | exact ⟨_, by exact Wk.keep 50 _ _ _ rfl ⟨rfl, trivial⟩ trivial (fun _ _ h => h) rfl, k35, vars a.t, ⟨hk35, va_t (by omega), by have := vars_len a.t; omega⟩, rfl⟩ | exact ⟨_, by exact Wk.keep 50 _ _ _ rfl ⟨rfl, trivial⟩ trivial (fun _ _ h => h) rfl, k45, [a.v, a.o], ⟨hk45, va_2 (by omega) (by omega), by simp⟩, rfl⟩ | exact ⟨_, by exact Wk.keep 50 _ _ _ rfl ⟨rfl, trivial⟩ trivial (fun _ _ h => h) rfl, k27, [a.v], ⟨hk27, va_1 (by omega) (by omega), by simp⟩, rfl⟩
 rintro s ⟨k, xs, ⟨hk, hX, hxl⟩, rfl⟩
 refine AW.seq ?_
 have hvx : dd xs = vaA a := hX
 refine AW.reg (sM ?_)
 refine SeqK.callE rfl rfl rfl rfl Fx.fn66 rfl (sortV _ k xs (upd_same _ _ _) (by omega)) (fun _ _ ⟨h, _⟩ => by rw [h]; rfl) (fun x47 H47 q47 => ?_)
 obtain ⟨rfl, hHs⟩ := q47
 rw [upd_upd] at hHs
 subst hHs
 have hml : (xs.mergeSort fun x y => decide (x ≤ y)).length = xs.length := List.length_mergeSort xs
 rw [← hml]
 refine Z7 (sR (sM ?_))
 refine SeqK.callE rfl rfl rfl rfl Fx.fn67 rfl (compactV _ k _ (upd_same _ _ _) (by omega)) (fun _ _ ⟨h, _⟩ => by rw [h]; rfl) (fun x49 H49 q49 => ?_)
 obtain ⟨rfl, hHs⟩ := q49
 rw [upd_upd] at hHs
 subst hHs
 refine sB ?_
 exact aR (fin_x (x := .c _) (_) (.tmp rfl .nil) rfl (fun _ _ h => h) (⟨k, hk, by rw [← hvx]; rfl, by rw [← hvx]; rfl⟩))
theorem avars_any (a : At) (hv : a.k = 2 ∨ a.k = 3 ∨ a.k = 4 → vldT a.t = true) (hN : a.t.cnt ≤ 100000) : Pure Tryz.prog 69 [fmC (atF a)] (.c (iL .un (vaA a))) := fun H => by
  refine E.Spec.freeze (avars_of H a hv hN) fun x H' ⟨k, hk, hx, hH⟩ => ?_
  subst hx hH
  refine ⟨k, 1, 3, (vaA a).map i64T, by rw [upd_same, flatI], fun e he => by obtain ⟨p, _, rfl⟩ := List.mem_map.1 he; rfl, by decide, ?_, upd_back hk⟩
  simp [fzX, fzC, fzA]
theorem prX_lk {l : List Vr} {op : Int} {x y : Ex} {m : Int} (h : op = 16) : (lkP lkS x y (poM m), (0 : Int)) = prtP strLt lkS l op x y m := by rw [prtP, if_pos h]
theorem prX_tx {l : List Vr} {op : Int} {x y : Ex} {m : Int} (h : ¬ op = 16) (h2 : txB l x = true ∨ txB l y = true) {o : Int} (ho : o = if poM m = true then op else opO op) : (txtP strLt o x y, (0 : Int)) = prtP strLt lkS l op x y m := by rw [prtP, if_neg h, if_pos h2, ho]
theorem prX_in {l : List Vr} {op : Int} {x y : Ex} {m : Int} (h : ¬ op = 16) (h2 : ¬ (txB l x = true ∨ txB l y = true)) {o : Int} (ho : o = if poM m = true then op else opO op) : intP o x y = prtP strLt lkS l op x y m := by rw [prtP, if_neg h, if_neg h2, ho]
abbrev pOK (p : PR) : Prop := (p.a.k = 2 ∨ p.a.k = 3 ∨ p.a.k = 4 → vldT p.a.t = true) ∧ p.a.t.cnt ≤ 100000
theorem pok_z {p : PR} (h : p.a.t = tm0) (hk : p.a.k = 0 ∨ p.a.k = 5 ∨ p.a.k = 6 ∨ p.a.k = 7) : pOK p := ⟨fun h2 => by omega, by rw [h]; decide⟩
theorem pok_0 : pOK pr0 := pok_z rfl (.inl rfl)
theorem pok_d (b : Bool) : pOK (dcd b) := pok_z rfl (.inl rfl)
theorem pok_i {k : Int} {t : Tm} (hv : vldT t = true) (hc : t.cnt ≤ 100000) : pOK (atP (atI k t)) := ⟨fun _ => hv, hc⟩
theorem intF_pok {op : Int} {t : Tm} (hv : vldT t = true) (hc : t.cnt ≤ 60000) : pOK (intF op t).1 := by
  by_cases h0 : t.ps.length = 0
  · rw [intF_0 h0]; exact pok_d _
  by_cases h1 : op = 10
  · rw [intF_1 h0 h1]; exact pok_i hv (by omega)
  by_cases h2 : op = 11
  · rw [intF_2 h0 h1 h2]; exact pok_i hv (by omega)
  by_cases hu : (uF op t).2 = 0
  · have hu1 : vldT (uF op t).1 = true ∧ (uF op t).1.cnt ≤ 60000 := by
      by_cases h3 : op = 15 ∨ op = 14
      · rw [uF_t h3] at hu ⊢; have := scale_cnt t (-1); exact ⟨scale_vld hv hu, by omega⟩
      · rw [uF_f h3]; exact ⟨hv, hc⟩
    by_cases hw : (wF op (uF op t).1).2 = 0
    · rw [intF_5 h0 h1 h2 rfl hu rfl hw]
      by_cases h3 : op = 12 ∨ op = 14
      · rw [wF_t h3]; have := add_cnt (uF op t).1 ⟨1, []⟩; rw [one_cnt] at this; exact pok_i (add_vldA hu1.1 one_vld) (by omega)
      · rw [wF_f h3]; exact pok_i hu1.1 (by have := hu1.2; show (uF op t).1.cnt ≤ 100000; omega)
    · rw [intF_4 h0 h1 h2 rfl hu rfl hw]; exact pok_0
  · rw [intF_3 h0 h1 h2 rfl hu]; exact pok_0
theorem intP_pok {op : Int} {x y : Ex} (gx : gd (ofE x)) (gy : gd (ofE y)) : pOK (intP op x y).1 := by
  unfold intP
  split
  · exact pok_0
  split
  · exact pok_0
  split
  · exact pok_0
  split
  · exact pok_0
  · rename_i h1 h2 h3 h4
    have h1 := gx (Classical.not_not.1 h1)
    have h2 := gy (Classical.not_not.1 h2)
    have h5 := scale_cnt (ofE y).1 (-1)
    have h6 := add_cnt (ofE x).1 (scale (ofE y).1 (-1)).1
    exact intF_pok (add_vldA h1.1 (scale_vld h2.1 (Classical.not_not.1 h3))) (by omega)
theorem txt_pok {op : Int} {x y : Ex} : pOK (txtP strLt op x y) := by
  unfold txtP
  split
  · exact pok_d _
  split
  · exact pok_z rfl (.inr (.inl rfl))
  split
  · exact pok_z rfl (.inr (.inl rfl))
  split
  · exact pok_d _
  · refine pok_z rfl (.inr (.inr ?_))
    show (if op = 11 then 7 else 6 : Int) = 6 ∨ (if op = 11 then 7 else 6 : Int) = 7
    split
    · exact .inr rfl
    · exact .inl rfl
theorem lk_pok {x y : Ex} {p : Bool} : pOK (lkP lkS x y p) := by
  unfold lkP
  split
  · exact pok_d _
  · exact pok_z rfl (.inr (.inl rfl))
theorem prt_pok {l : List Vr} {op : Int} {x y : Ex} {m : Int} (gx : gd (ofE x)) (gy : gd (ofE y)) : pOK (prtP strLt lkS l op x y m).1 := by
  unfold prtP
  split
  · exact lk_pok
  split
  · exact txt_pok
  · exact intP_pok gx gy
theorem ownOf_any (H : Heap) (k : Nat) (own : List Int) (z : Nz) (hk : H k = some (.box [.t (.sl z 1 (own.map i64T))])) (ho : own.length ≤ 1000000000000000000) (v : Int) : E.Spec Tryz.prog 71 [iC v, .a (.bp k 0)] H fun x H' => x = .c (bC (decide (v ∈ own))) ∧ H' = H := by
 refine Spec.enter Tryz.func71 rfl ?_
 refine AW.wk (Wk.keep 7 [(0, .c (iC v)), (1, .c (.a (.bp k 0)))] [] (H) rfl ⟨rfl, rfl, trivial⟩ trivial (fun _ _ h => h) rfl) ?_
 refine sR (sB ?_)
 refine sR (Z38 Fx.ty80 ?_)
 refine sM ?_
 refine Z12 Fx.fn72 (cont_it own z v ho) ?_
 refine sB ?_
 exact aR (f1 (q := ⟨rfl, rfl⟩))
theorem part_any (H : Heap) (kp : Nat) (l : List Vr) (z : Nz) (hp : H kp = some (.box [.t (.sl z 5 (l.map vrT))])) (hL : l.length ≤ 17592186044000) (e : Ex) (m : Int) (h01 : 0 < e.args.length) (h12 : 1 < e.args.length) (hx : okE e.args[0]) (hy : okE e.args[1]) (gx : gd (ofE e.args[0])) (gy : gd (ofE e.args[1])) (sx : e.args[0].vs.size ≤ 1000000000000000) (sy : e.op = 16 → e.args[1].vs.size ≤ 1000000) : E.Spec Tryz.prog 68 [.a (.bp kp 0), exC e, iC m] H fun x H' => x = prX (prtP strLt lkS l e.op e.args[0] e.args[1] m) ∧ H' = H := by
 refine Spec.enter Tryz.func68 rfl ?_
 refine AW.wk (Wk.keep 52 [(0, .c (.a (.bp kp 0))), (1, .c (exC e)), (2, .c (iC m))] [] (H) rfl ⟨rfl, rfl, rfl, trivial⟩ trivial (fun _ _ h => h) rfl) ?_
 refine sR (Z20 (r := [_, _, _, _, _, _, _, _]) ?_)
 refine Z16 (r := [_, _, _, _, _, _, _, _, _, _, _]) Fx.ze114 ?_
 refine sB ?_
 refine AW.seq (AW.draw Fx.mo ?_)
 refine Z23 Fx.fl26_5 ?_
 refine Z18 Fx.ty24 ?_
 refine Z29 Fx.sl24 (idx_ex h01) ?_
 refine Z32 (.g [_, _, _, _, _, _, _, _]) Fx.ty26 ?_
 refine Z23 Fx.fl26_5 ?_
 refine Z18 Fx.ty24 ?_
 refine Z29 Fx.sl24 (idx_ex h12) ?_
 refine Z32 (.g [_, _, _, _, _, _, _, _]) Fx.ty26 ?_
 refine LexK.r (b_alloc (r := [_, _, _, _, _, _, _, _]) rfl rfl Fx.ze26 rfl rfl rfl rfl) rfl ?_
 refine LexK.r (b_alloc (r := [_, _, _, _, _, _, _, _]) rfl rfl Fx.ze26 rfl rfl rfl rfl) rfl ?_
 refine Z40 (r := [_, _, _, _, _, _, _, _]) Fx.ty26 ?_
 refine Z40 (r := [_, _, _, _, _, _, _, _]) Fx.ty26 ?_
 refine Z48 ?_
 refine AW.seq (sR (Z1 Fx.fl26_0 ?_))
 refine Z0 Fx.ty3 ?_
 refine Z9 ?_
 refine Z7 ?_
 refine cD ?_ ?_ <;> intro h21
 ·
  refine AW.seq (AW.draw Fx.mo ?_)
  refine LexK.r (b_load (r := .g [_, _, _, _, _, _, _, _]) rfl Fx.ty26 rfl rfl rfl rfl rfl rfl) rfl ?_
  refine LexK.r (b_load (r := .g [_, _, _, _, _, _, _, _]) rfl Fx.ty26 rfl rfl rfl rfl rfl rfl) rfl ?_
  refine Z44 ?_
  refine Z45 Fx.fn37 (positive_any m) ?_
  refine Z45 Fx.fn96 (like_any _ _ _ sx (sy h21)) ?_
  refine Z40 (r := [_, _, _, _, _, _, _, _, _, _, _]) Fx.ty114 ?_
  refine Z52 ?_
  refine Z48 ?_
  exact aR (f2 (.cellL rfl rfl Fx.ty114 rfl rfl (.tmp rfl .nil)) (⟨prXe (prX_lk h21), rfl⟩))
 refine AW.skip (sR (Z1 Fx.fl26_0 ?_))
 refine Z0 Fx.ty3 ?_
 refine sB ?_
 refine AW.seq (sR (sM ?_))
 refine Z12 Fx.fn37 (positive_any m) ?_
 refine Z49 ?_
 refine Z7 ?_
 refine AW.cond _ rfl (fun h31 => ?_) (fun h31 => ?_)
 ·
  refine AW.reg (sM ?_)
  refine Z12 Fx.fn97 (opposite_any _) ?_
  refine sB ?_
  refine AW.seq (sR (sM ?_))
  refine Z10 (r := .g [_, _, _, _, _, _, _, _]) Fx.ty26 ?_
  refine SeqK.r (g_call rfl Fx.fn98 rfl (isText_any H kp l z hp hL _) rfl rfl rfl) rfl ?_
  refine Z36 ?_ ?_ <;> intro g37
  ·
   iterate 3 refine oF ?_
   refine Z8 ?_
   refine Z7 (AW.condT rfl ?_)
   refine sR (sM ?_)
   refine Z10 (r := .g [_, _, _, _, _, _, _, _]) Fx.ty26 ?_
   refine Z10 (r := .g [_, _, _, _, _, _, _, _]) Fx.ty26 ?_
   refine Z12 Fx.fn99 (texts_any _ _ _) ?_
   refine Z2 (r := [_, _, _, _, _, _, _, _, _, _, _]) Fx.ty114 ?_
   refine sB ?_
   exact aR (f2 (.cellL rfl rfl Fx.ty114 rfl rfl (.tmp rfl .nil)) (⟨prXe (prX_tx h21 (by first | exact .inl (by assumption) | exact .inr (by assumption)) (by first | (rw [if_pos (bnf h31)]; done) | (rw [if_neg (by rw [bnt h31]; simp)]; done))), rfl⟩))
  refine Z14 ?_
  refine Z25 (r := .g [_, _, _, _, _, _, _, _]) Fx.ty26 ?_
  refine SeqK.rOn (g_call rfl Fx.fn98 rfl (isText_any H kp l z hp hL _) rfl rfl rfl) rfl rfl rfl ?_
  refine Z4 ?_
  refine Z7 ?_
  refine AW.cond _ rfl (fun h41 => ?_) (fun h41 => ?_)
  ·
   refine sR (sM ?_)
   refine Z10 (r := .g [_, _, _, _, _, _, _, _]) Fx.ty26 ?_
   refine Z10 (r := .g [_, _, _, _, _, _, _, _]) Fx.ty26 ?_
   refine Z12 Fx.fn99 (texts_any _ _ _) ?_
   refine Z2 (r := [_, _, _, _, _, _, _, _, _, _, _]) Fx.ty114 ?_
   refine sB ?_
   exact aR (f2 (.cellL rfl rfl Fx.ty114 rfl rfl (.tmp rfl .nil)) (⟨prXe (prX_tx h21 (by first | exact .inl (by assumption) | exact .inr (by assumption)) (by first | (rw [if_pos (bnf h31)]; done) | (rw [if_neg (by rw [bnt h31]; simp)]; done))), rfl⟩))
  refine AW.skip (sR (sM ?_))
  refine Z10 (r := .g [_, _, _, _, _, _, _, _]) Fx.ty26 ?_
  refine Z10 (r := .g [_, _, _, _, _, _, _, _]) Fx.ty26 ?_
  refine Z12 Fx.fn100 (integers_any _ _ _ hx hy gx gy) ?_
  refine Z6 ?_
  refine Z6 ?_
  refine Z2 (r := [_, _, _, _, _, _, _, _, _, _, _]) Fx.ty114 ?_
  refine sB ?_
  exact aR (f2 (.cellL rfl rfl Fx.ty114 rfl rfl (.tmp rfl .nil)) (⟨prXe (prX_in h21 (by simp [*]) (by first | (rw [if_pos (bnf h31)]; done) | (rw [if_neg (by rw [bnt h31]; simp)]; done))), rfl⟩))
 refine AW.skip (AW.seq (sR (sM ?_)))
 refine Z10 (r := .g [_, _, _, _, _, _, _, _]) Fx.ty26 ?_
 refine SeqK.r (g_call rfl Fx.fn98 rfl (isText_any H kp l z hp hL _) rfl rfl rfl) rfl ?_
 refine Z36 ?_ ?_ <;> intro g37
 ·
  iterate 3 refine oF ?_
  refine Z8 ?_
  refine Z7 (AW.condT rfl ?_)
  refine sR (sM ?_)
  refine Z10 (r := .g [_, _, _, _, _, _, _, _]) Fx.ty26 ?_
  refine Z10 (r := .g [_, _, _, _, _, _, _, _]) Fx.ty26 ?_
  refine Z12 Fx.fn99 (texts_any _ _ _) ?_
  refine Z2 (r := [_, _, _, _, _, _, _, _, _, _, _]) Fx.ty114 ?_
  refine sB ?_
  exact aR (f2 (.cellL rfl rfl Fx.ty114 rfl rfl (.tmp rfl .nil)) (⟨prXe (prX_tx h21 (by first | exact .inl (by assumption) | exact .inr (by assumption)) (by first | (rw [if_pos (bnf h31)]; done) | (rw [if_neg (by rw [bnt h31]; simp)]; done))), rfl⟩))
 refine Z14 ?_
 refine Z25 (r := .g [_, _, _, _, _, _, _, _]) Fx.ty26 ?_
 refine SeqK.rOn (g_call rfl Fx.fn98 rfl (isText_any H kp l z hp hL _) rfl rfl rfl) rfl rfl rfl ?_
 refine Z4 ?_
 refine Z7 ?_
 refine AW.cond _ rfl (fun h41 => ?_) (fun h41 => ?_)
 ·
  refine sR (sM ?_)
  refine Z10 (r := .g [_, _, _, _, _, _, _, _]) Fx.ty26 ?_
  refine Z10 (r := .g [_, _, _, _, _, _, _, _]) Fx.ty26 ?_
  refine Z12 Fx.fn99 (texts_any _ _ _) ?_
  refine Z2 (r := [_, _, _, _, _, _, _, _, _, _, _]) Fx.ty114 ?_
  refine sB ?_
  exact aR (f2 (.cellL rfl rfl Fx.ty114 rfl rfl (.tmp rfl .nil)) (⟨prXe (prX_tx h21 (by first | exact .inl (by assumption) | exact .inr (by assumption)) (by first | (rw [if_pos (bnf h31)]; done) | (rw [if_neg (by rw [bnt h31]; simp)]; done))), rfl⟩))
 refine AW.skip (sR (sM ?_))
 refine Z10 (r := .g [_, _, _, _, _, _, _, _]) Fx.ty26 ?_
 refine Z10 (r := .g [_, _, _, _, _, _, _, _]) Fx.ty26 ?_
 refine Z12 Fx.fn100 (integers_any _ _ _ hx hy gx gy) ?_
 refine Z6 ?_
 refine Z6 ?_
 refine Z2 (r := [_, _, _, _, _, _, _, _, _, _, _]) Fx.ty114 ?_
 refine sB ?_
 exact aR (f2 (.cellL rfl rfl Fx.ty114 rfl rfl (.tmp rfl .nil)) (⟨prXe (prX_in h21 (by simp [*]) (by first | (rw [if_pos (bnf h31)]; done) | (rw [if_neg (by rw [bnt h31]; simp)]; done))), rfl⟩))
end Go.Proofs.YtnnoafgdjjpidaaGreatDoor.W
