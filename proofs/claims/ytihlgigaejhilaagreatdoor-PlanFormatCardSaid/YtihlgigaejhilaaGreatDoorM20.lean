/- Parts of the proof, one after the other: W50, W51, W52, W53, W54, W55. No condition. -/
import Derived.Test.YtihlgigaejhilaaGreatDoorM19
set_option linter.unusedSectionVars false
set_option linter.unusedSimpArgs false
set_option linter.unusedVariables false
namespace Go.Proofs.YtihlgigaejhilaaGreatDoor.W
open Go.RowKit E
/-! levels, numbers of operands, depths -/
theorem iCe2 {a b : Int} (h : a = b) : X.c (iC a) = X.c (iC b) := by rw [h]
abbrev opsN (n : Int) : Int := if n = 1 ∨ n = 2 then 0 else if n = 3 ∨ n = 9 ∨ n = 17 ∨ n = 20 then 1 else if (4 ≤ n ∧ n ≤ 8) ∨ (10 ≤ n ∧ n ≤ 16) ∨ n = 18 ∨ n = 19 then 2 else -1
abbrev lvA (n : Int) : Int := if n = 19 then 1 else if n = 18 then 2 else if n = 20 then 3 else if n = 4 ∨ n = 5 then 5 else if 6 ≤ n ∧ n ≤ 8 then 6 else if n = 3 then 7 else if n = 1 ∨ n = 2 ∨ n = 9 then 8 else 4
abbrev lvR (n : Int) : Int := if n = 19 then 1 else if n = 18 then 2 else if n = 20 then 3 else if 10 ≤ n ∧ n ≤ 17 then 4 else if n = 4 ∨ n = 5 then 5 else if 6 ≤ n ∧ n ≤ 8 then 6 else if n = 3 then 7 else 8
theorem ops_rng {n : Int} (h : opsN n ≠ -1) : 1 ≤ n ∧ n ≤ 20 := by unfold opsN at h; grind
theorem lv_eq {n : Int} (h : opsN n ≠ -1) : lvR n = lvA n := by
  have h2 := ops_rng h
  have h3 : n = 1 ∨ n = 2 ∨ n = 3 ∨ n = 4 ∨ n = 5 ∨ n = 6 ∨ n = 7 ∨ n = 8 ∨ n = 9 ∨ n = 10 ∨ n = 11 ∨ n = 12 ∨ n = 13 ∨ n = 14 ∨ n = 15 ∨ n = 16 ∨ n = 17 ∨ n = 18 ∨ n = 19 ∨ n = 20 := by omega
  rcases h3 with rfl | rfl | rfl | rfl | rfl | rfl | rfl | rfl | rfl | rfl | rfl | rfl | rfl | rfl | rfl | rfl | rfl | rfl | rfl | rfl <;> decide
theorem lvA_pos (n : Int) : 1 ≤ lvA n ∧ lvA n ≤ 8 := by unfold lvA; grind
set_option maxRecDepth 20000 in
theorem operands_any (n : Int) : Pure Tryz.prog 145 [iC n] (.c (iC (opsN n))) := by
 intro H
 refine Spec.enter Tryz.func145 rfl ?_
 refine AW.wk (Wk.keep 27 [(0, .c (iC n))] [] (H) rfl ⟨rfl, trivial⟩ trivial (fun _ _ h => h) rfl) ?_
 refine sR (sB ?_)
 refine AW.seq (sR (sM ?_))
 refine Z3 (AW.block (AW.seq (sR (Z8 ?_))))
 refine sB ?_
 refine AW.condD rfl ?_ ?_ <;> intro h4
 ·
  refine AW.skip ?_
  refine AW.condD rfl (fun _ => ?_) (fun hq => absurd h4 hq)
  refine sR (sB ?_)
  refine AW.ret ?_
  exact f1 (q := ⟨iCe2 (by unfold opsN; grind), rfl⟩)
 refine AW.reg (Z8 ?_)
 refine sB ?_
 refine AW.condD rfl ?_ ?_ <;> intro h4
 ·
  refine sR (sB ?_)
  refine AW.ret ?_
  exact f1 (q := ⟨iCe2 (by unfold opsN; grind), rfl⟩)
 refine AW.seq (sR (Z8 ?_))
 refine sB ?_
 refine AW.condD rfl ?_ ?_ <;> intro h7
 ·
  refine AW.skip ?_
  refine AW.condD rfl (fun _ => ?_) (fun hq => absurd h7 hq)
  refine sR (sB ?_)
  refine AW.ret ?_
  exact f1 (q := ⟨iCe2 (by unfold opsN; grind), rfl⟩)
 refine sR (Z8 ?_)
 refine sB ?_
 refine AW.condD rfl ?_ ?_ <;> intro h7
 ·
  refine AW.skip ?_
  refine AW.condD rfl (fun _ => ?_) (fun hq => absurd h7 hq)
  refine sR (sB ?_)
  refine AW.ret ?_
  exact f1 (q := ⟨iCe2 (by unfold opsN; grind), rfl⟩)
 refine sR (Z8 ?_)
 refine sB ?_
 refine AW.condD rfl ?_ ?_ <;> intro h7
 ·
  refine AW.skip ?_
  refine AW.condD rfl (fun _ => ?_) (fun hq => absurd h7 hq)
  refine sR (sB ?_)
  refine AW.ret ?_
  exact f1 (q := ⟨iCe2 (by unfold opsN; grind), rfl⟩)
 refine AW.reg (Z8 ?_)
 refine sB ?_
 refine AW.condD rfl ?_ ?_ <;> intro h7
 ·
  refine sR (sB ?_)
  refine AW.ret ?_
  exact f1 (q := ⟨iCe2 (by unfold opsN; grind), rfl⟩)
 refine AW.seq (sR (Z8 ?_))
 refine sB ?_
 refine AW.condD rfl ?_ ?_ <;> intro h12
 ·
  refine AW.skip ?_
  refine AW.condD rfl (fun _ => ?_) (fun hq => absurd h12 hq)
  refine sR (sB ?_)
  refine AW.ret ?_
  exact f1 (q := ⟨iCe2 (by unfold opsN; grind), rfl⟩)
 refine sR (Z8 ?_)
 refine sB ?_
 refine AW.condD rfl ?_ ?_ <;> intro h12
 ·
  refine AW.skip ?_
  refine AW.condD rfl (fun _ => ?_) (fun hq => absurd h12 hq)
  refine sR (sB ?_)
  refine AW.ret ?_
  exact f1 (q := ⟨iCe2 (by unfold opsN; grind), rfl⟩)
 refine sR (Z8 ?_)
 refine sB ?_
 refine AW.condD rfl ?_ ?_ <;> intro h12
 ·
  refine AW.skip ?_
  refine AW.condD rfl (fun _ => ?_) (fun hq => absurd h12 hq)
  refine sR (sB ?_)
  refine AW.ret ?_
  exact f1 (q := ⟨iCe2 (by unfold opsN; grind), rfl⟩)
 refine sR (Z8 ?_)
 refine sB ?_
 refine AW.condD rfl ?_ ?_ <;> intro h12
 ·
  refine AW.skip ?_
  refine AW.condD rfl (fun _ => ?_) (fun hq => absurd h12 hq)
  refine sR (sB ?_)
  refine AW.ret ?_
  exact f1 (q := ⟨iCe2 (by unfold opsN; grind), rfl⟩)
 refine sR (Z8 ?_)
 refine sB ?_
 refine AW.condD rfl ?_ ?_ <;> intro h12
 ·
  refine AW.skip ?_
  refine AW.condD rfl (fun _ => ?_) (fun hq => absurd h12 hq)
  refine sR (sB ?_)
  refine AW.ret ?_
  exact f1 (q := ⟨iCe2 (by unfold opsN; grind), rfl⟩)
 refine sR (Z8 ?_)
 refine sB ?_
 refine AW.condD rfl ?_ ?_ <;> intro h12
 ·
  refine AW.skip ?_
  refine AW.condD rfl (fun _ => ?_) (fun hq => absurd h12 hq)
  refine sR (sB ?_)
  refine AW.ret ?_
  exact f1 (q := ⟨iCe2 (by unfold opsN; grind), rfl⟩)
 refine sR (Z8 ?_)
 refine sB ?_
 refine AW.condD rfl ?_ ?_ <;> intro h12
 ·
  refine AW.skip ?_
  refine AW.condD rfl (fun _ => ?_) (fun hq => absurd h12 hq)
  refine sR (sB ?_)
  refine AW.ret ?_
  exact f1 (q := ⟨iCe2 (by unfold opsN; grind), rfl⟩)
 refine sR (Z8 ?_)
 refine sB ?_
 refine AW.condD rfl ?_ ?_ <;> intro h12
 ·
  refine AW.skip ?_
  refine AW.condD rfl (fun _ => ?_) (fun hq => absurd h12 hq)
  refine sR (sB ?_)
  refine AW.ret ?_
  exact f1 (q := ⟨iCe2 (by unfold opsN; grind), rfl⟩)
 refine sR (Z8 ?_)
 refine sB ?_
 refine AW.condD rfl ?_ ?_ <;> intro h12
 ·
  refine AW.skip ?_
  refine AW.condD rfl (fun _ => ?_) (fun hq => absurd h12 hq)
  refine sR (sB ?_)
  refine AW.ret ?_
  exact f1 (q := ⟨iCe2 (by unfold opsN; grind), rfl⟩)
 refine sR (Z8 ?_)
 refine sB ?_
 refine AW.condD rfl ?_ ?_ <;> intro h12
 ·
  refine AW.skip ?_
  refine AW.condD rfl (fun _ => ?_) (fun hq => absurd h12 hq)
  refine sR (sB ?_)
  refine AW.ret ?_
  exact f1 (q := ⟨iCe2 (by unfold opsN; grind), rfl⟩)
 refine sR (Z8 ?_)
 refine sB ?_
 refine AW.condD rfl ?_ ?_ <;> intro h12
 ·
  refine AW.skip ?_
  refine AW.condD rfl (fun _ => ?_) (fun hq => absurd h12 hq)
  refine sR (sB ?_)
  refine AW.ret ?_
  exact f1 (q := ⟨iCe2 (by unfold opsN; grind), rfl⟩)
 refine sR (Z8 ?_)
 refine sB ?_
 refine AW.condD rfl ?_ ?_ <;> intro h12
 ·
  refine AW.skip ?_
  refine AW.condD rfl (fun _ => ?_) (fun hq => absurd h12 hq)
  refine sR (sB ?_)
  refine AW.ret ?_
  exact f1 (q := ⟨iCe2 (by unfold opsN; grind), rfl⟩)
 refine sR (Z8 ?_)
 refine sB ?_
 refine AW.condD rfl ?_ ?_ <;> intro h12
 ·
  refine AW.skip ?_
  refine AW.condD rfl (fun _ => ?_) (fun hq => absurd h12 hq)
  refine sR (sB ?_)
  refine AW.ret ?_
  exact f1 (q := ⟨iCe2 (by unfold opsN; grind), rfl⟩)
 refine AW.reg (Z8 ?_)
 refine sB ?_
 refine AW.condD rfl ?_ ?_ <;> intro h12
 ·
  refine sR (sB ?_)
  refine AW.ret ?_
  exact f1 (q := ⟨iCe2 (by unfold opsN; grind), rfl⟩)
 refine AW.skip (sR (sB ?_))
 refine AW.ret ?_
 exact f1 (q := ⟨iCe2 (by unfold opsN; grind), rfl⟩)

set_option maxRecDepth 20000 in
theorem args_any (n : Int) : Pure Tryz.prog 138 [iC n] (.c (iC (opsN n))) := by
 intro H
 refine Spec.enter Tryz.func138 rfl ?_
 refine AW.wk (Wk.keep 27 [(0, .c (iC n))] [] (H) rfl ⟨rfl, trivial⟩ trivial (fun _ _ h => h) rfl) ?_
 refine sR (sB ?_)
 refine AW.seq (sR (sM ?_))
 refine Z3 (AW.block (AW.seq (sR (Z8 ?_))))
 refine sB ?_
 refine AW.condD rfl ?_ ?_ <;> intro h4
 ·
  refine AW.skip ?_
  refine AW.condD rfl (fun _ => ?_) (fun hq => absurd h4 hq)
  refine sR (sB ?_)
  refine AW.ret ?_
  exact f1 (q := ⟨iCe2 (by unfold opsN; grind), rfl⟩)
 refine AW.reg (Z8 ?_)
 refine sB ?_
 refine AW.condD rfl ?_ ?_ <;> intro h4
 ·
  refine sR (sB ?_)
  refine AW.ret ?_
  exact f1 (q := ⟨iCe2 (by unfold opsN; grind), rfl⟩)
 refine AW.seq (sR (Z8 ?_))
 refine sB ?_
 refine AW.condD rfl ?_ ?_ <;> intro h7
 ·
  refine AW.skip ?_
  refine AW.condD rfl (fun _ => ?_) (fun hq => absurd h7 hq)
  refine sR (sB ?_)
  refine AW.ret ?_
  exact f1 (q := ⟨iCe2 (by unfold opsN; grind), rfl⟩)
 refine sR (Z8 ?_)
 refine sB ?_
 refine AW.condD rfl ?_ ?_ <;> intro h7
 ·
  refine AW.skip ?_
  refine AW.condD rfl (fun _ => ?_) (fun hq => absurd h7 hq)
  refine sR (sB ?_)
  refine AW.ret ?_
  exact f1 (q := ⟨iCe2 (by unfold opsN; grind), rfl⟩)
 refine sR (Z8 ?_)
 refine sB ?_
 refine AW.condD rfl ?_ ?_ <;> intro h7
 ·
  refine AW.skip ?_
  refine AW.condD rfl (fun _ => ?_) (fun hq => absurd h7 hq)
  refine sR (sB ?_)
  refine AW.ret ?_
  exact f1 (q := ⟨iCe2 (by unfold opsN; grind), rfl⟩)
 refine AW.reg (Z8 ?_)
 refine sB ?_
 refine AW.condD rfl ?_ ?_ <;> intro h7
 ·
  refine sR (sB ?_)
  refine AW.ret ?_
  exact f1 (q := ⟨iCe2 (by unfold opsN; grind), rfl⟩)
 refine AW.seq (sR (Z8 ?_))
 refine sB ?_
 refine AW.condD rfl ?_ ?_ <;> intro h12
 ·
  refine AW.skip ?_
  refine AW.condD rfl (fun _ => ?_) (fun hq => absurd h12 hq)
  refine sR (sB ?_)
  refine AW.ret ?_
  exact f1 (q := ⟨iCe2 (by unfold opsN; grind), rfl⟩)
 refine sR (Z8 ?_)
 refine sB ?_
 refine AW.condD rfl ?_ ?_ <;> intro h12
 ·
  refine AW.skip ?_
  refine AW.condD rfl (fun _ => ?_) (fun hq => absurd h12 hq)
  refine sR (sB ?_)
  refine AW.ret ?_
  exact f1 (q := ⟨iCe2 (by unfold opsN; grind), rfl⟩)
 refine sR (Z8 ?_)
 refine sB ?_
 refine AW.condD rfl ?_ ?_ <;> intro h12
 ·
  refine AW.skip ?_
  refine AW.condD rfl (fun _ => ?_) (fun hq => absurd h12 hq)
  refine sR (sB ?_)
  refine AW.ret ?_
  exact f1 (q := ⟨iCe2 (by unfold opsN; grind), rfl⟩)
 refine sR (Z8 ?_)
 refine sB ?_
 refine AW.condD rfl ?_ ?_ <;> intro h12
 ·
  refine AW.skip ?_
  refine AW.condD rfl (fun _ => ?_) (fun hq => absurd h12 hq)
  refine sR (sB ?_)
  refine AW.ret ?_
  exact f1 (q := ⟨iCe2 (by unfold opsN; grind), rfl⟩)
 refine sR (Z8 ?_)
 refine sB ?_
 refine AW.condD rfl ?_ ?_ <;> intro h12
 ·
  refine AW.skip ?_
  refine AW.condD rfl (fun _ => ?_) (fun hq => absurd h12 hq)
  refine sR (sB ?_)
  refine AW.ret ?_
  exact f1 (q := ⟨iCe2 (by unfold opsN; grind), rfl⟩)
 refine sR (Z8 ?_)
 refine sB ?_
 refine AW.condD rfl ?_ ?_ <;> intro h12
 ·
  refine AW.skip ?_
  refine AW.condD rfl (fun _ => ?_) (fun hq => absurd h12 hq)
  refine sR (sB ?_)
  refine AW.ret ?_
  exact f1 (q := ⟨iCe2 (by unfold opsN; grind), rfl⟩)
 refine sR (Z8 ?_)
 refine sB ?_
 refine AW.condD rfl ?_ ?_ <;> intro h12
 ·
  refine AW.skip ?_
  refine AW.condD rfl (fun _ => ?_) (fun hq => absurd h12 hq)
  refine sR (sB ?_)
  refine AW.ret ?_
  exact f1 (q := ⟨iCe2 (by unfold opsN; grind), rfl⟩)
 refine sR (Z8 ?_)
 refine sB ?_
 refine AW.condD rfl ?_ ?_ <;> intro h12
 ·
  refine AW.skip ?_
  refine AW.condD rfl (fun _ => ?_) (fun hq => absurd h12 hq)
  refine sR (sB ?_)
  refine AW.ret ?_
  exact f1 (q := ⟨iCe2 (by unfold opsN; grind), rfl⟩)
 refine sR (Z8 ?_)
 refine sB ?_
 refine AW.condD rfl ?_ ?_ <;> intro h12
 ·
  refine AW.skip ?_
  refine AW.condD rfl (fun _ => ?_) (fun hq => absurd h12 hq)
  refine sR (sB ?_)
  refine AW.ret ?_
  exact f1 (q := ⟨iCe2 (by unfold opsN; grind), rfl⟩)
 refine sR (Z8 ?_)
 refine sB ?_
 refine AW.condD rfl ?_ ?_ <;> intro h12
 ·
  refine AW.skip ?_
  refine AW.condD rfl (fun _ => ?_) (fun hq => absurd h12 hq)
  refine sR (sB ?_)
  refine AW.ret ?_
  exact f1 (q := ⟨iCe2 (by unfold opsN; grind), rfl⟩)
 refine sR (Z8 ?_)
 refine sB ?_
 refine AW.condD rfl ?_ ?_ <;> intro h12
 ·
  refine AW.skip ?_
  refine AW.condD rfl (fun _ => ?_) (fun hq => absurd h12 hq)
  refine sR (sB ?_)
  refine AW.ret ?_
  exact f1 (q := ⟨iCe2 (by unfold opsN; grind), rfl⟩)
 refine sR (Z8 ?_)
 refine sB ?_
 refine AW.condD rfl ?_ ?_ <;> intro h12
 ·
  refine AW.skip ?_
  refine AW.condD rfl (fun _ => ?_) (fun hq => absurd h12 hq)
  refine sR (sB ?_)
  refine AW.ret ?_
  exact f1 (q := ⟨iCe2 (by unfold opsN; grind), rfl⟩)
 refine sR (Z8 ?_)
 refine sB ?_
 refine AW.condD rfl ?_ ?_ <;> intro h12
 ·
  refine AW.skip ?_
  refine AW.condD rfl (fun _ => ?_) (fun hq => absurd h12 hq)
  refine sR (sB ?_)
  refine AW.ret ?_
  exact f1 (q := ⟨iCe2 (by unfold opsN; grind), rfl⟩)
 refine AW.reg (Z8 ?_)
 refine sB ?_
 refine AW.condD rfl ?_ ?_ <;> intro h12
 ·
  refine sR (sB ?_)
  refine AW.ret ?_
  exact f1 (q := ⟨iCe2 (by unfold opsN; grind), rfl⟩)
 refine AW.skip (sR (sB ?_))
 refine AW.ret ?_
 exact f1 (q := ⟨iCe2 (by unfold opsN; grind), rfl⟩)

set_option maxRecDepth 20000 in
theorem level_any (e : Ex) : Pure Tryz.prog 135 [exC e] (.c (iC (lvA e.op))) := by
 intro H
 refine Spec.enter Tryz.func135 rfl ?_
 refine AW.wk (Wk.keep 24 [(0, .c (exC e))] [] (H) rfl ⟨rfl, trivial⟩ trivial (fun _ _ h => h) rfl) ?_
 refine sR (Z16 (r := [_, _, _, _, _, _, _, _]) ?_)
 refine sB ?_
 refine AW.seq (sR (Z1 Fx.fl30_0 ?_))
 refine Z0 Fx.ty3 ?_
 refine Z3 (AW.block (sR (Z8 ?_)))
 refine sB ?_
 refine AW.condD rfl ?_ ?_ <;> intro h5
 ·
  refine sR (sB ?_)
  refine AW.ret ?_
  exact f1 (q := ⟨iCe2 (by unfold lvA; grind), rfl⟩)
 refine sR (Z8 ?_)
 refine sB ?_
 refine AW.condD rfl ?_ ?_ <;> intro h7
 ·
  refine sR (sB ?_)
  refine AW.ret ?_
  exact f1 (q := ⟨iCe2 (by unfold lvA; grind), rfl⟩)
 refine sR (Z8 ?_)
 refine sB ?_
 refine AW.condD rfl ?_ ?_ <;> intro h9
 ·
  refine sR (sB ?_)
  refine AW.ret ?_
  exact f1 (q := ⟨iCe2 (by unfold lvA; grind), rfl⟩)
 refine AW.seq (sR (Z8 ?_))
 refine sB ?_
 refine AW.condD rfl ?_ ?_ <;> intro h11
 ·
  refine AW.skip ?_
  refine AW.condD rfl (fun _ => ?_) (fun hq => absurd h11 hq)
  refine sR (sB ?_)
  refine AW.ret ?_
  exact f1 (q := ⟨iCe2 (by unfold lvA; grind), rfl⟩)
 refine AW.reg (Z8 ?_)
 refine sB ?_
 refine AW.condD rfl ?_ ?_ <;> intro h11
 ·
  refine sR (sB ?_)
  refine AW.ret ?_
  exact f1 (q := ⟨iCe2 (by unfold lvA; grind), rfl⟩)
 refine AW.seq (sR (Z8 ?_))
 refine sB ?_
 refine AW.condD rfl ?_ ?_ <;> intro h14
 ·
  refine AW.skip ?_
  refine AW.condD rfl (fun _ => ?_) (fun hq => absurd h14 hq)
  refine sR (sB ?_)
  refine AW.ret ?_
  exact f1 (q := ⟨iCe2 (by unfold lvA; grind), rfl⟩)
 refine sR (Z8 ?_)
 refine sB ?_
 refine AW.condD rfl ?_ ?_ <;> intro h14
 ·
  refine AW.skip ?_
  refine AW.condD rfl (fun _ => ?_) (fun hq => absurd h14 hq)
  refine sR (sB ?_)
  refine AW.ret ?_
  exact f1 (q := ⟨iCe2 (by unfold lvA; grind), rfl⟩)
 refine AW.reg (Z8 ?_)
 refine sB ?_
 refine AW.condD rfl ?_ ?_ <;> intro h14
 ·
  refine sR (sB ?_)
  refine AW.ret ?_
  exact f1 (q := ⟨iCe2 (by unfold lvA; grind), rfl⟩)
 refine sR (Z8 ?_)
 refine sB ?_
 refine AW.condD rfl ?_ ?_ <;> intro h18
 ·
  refine sR (sB ?_)
  refine AW.ret ?_
  exact f1 (q := ⟨iCe2 (by unfold lvA; grind), rfl⟩)
 refine AW.seq (sR (Z8 ?_))
 refine sB ?_
 refine AW.condD rfl ?_ ?_ <;> intro h20
 ·
  refine AW.skip ?_
  refine AW.condD rfl (fun _ => ?_) (fun hq => absurd h20 hq)
  refine sR (sB ?_)
  refine AW.ret ?_
  exact f1 (q := ⟨iCe2 (by unfold lvA; grind), rfl⟩)
 refine sR (Z8 ?_)
 refine sB ?_
 refine AW.condD rfl ?_ ?_ <;> intro h20
 ·
  refine AW.skip ?_
  refine AW.condD rfl (fun _ => ?_) (fun hq => absurd h20 hq)
  refine sR (sB ?_)
  refine AW.ret ?_
  exact f1 (q := ⟨iCe2 (by unfold lvA; grind), rfl⟩)
 refine AW.reg (Z8 ?_)
 refine sB ?_
 refine AW.condD rfl ?_ ?_ <;> intro h20
 ·
  refine sR (sB ?_)
  refine AW.ret ?_
  exact f1 (q := ⟨iCe2 (by unfold lvA; grind), rfl⟩)
 refine AW.skip (sR (sB ?_))
 refine AW.ret ?_
 exact f1 (q := ⟨iCe2 (by unfold lvA; grind), rfl⟩)

set_option maxRecDepth 20000 in
theorem rlevel_any (e : Ex) : Pure Tryz.prog 116 [exC e] (.c (iC (lvR e.op))) := by
 intro H
 refine Spec.enter Tryz.func116 rfl ?_
 refine AW.wk (Wk.keep 46 [(0, .c (exC e))] [] (H) rfl ⟨rfl, trivial⟩ trivial (fun _ _ h => h) rfl) ?_
 refine sR (Z16 (r := [_, _, _, _, _, _, _, _]) ?_)
 refine sB ?_
 refine AW.seq (AW.block (sR (Z1 Fx.fl30_0 ?_)))
 refine Z0 Fx.ty3 ?_
 refine Z8 ?_
 refine sB ?_
 refine AW.condD rfl ?_ ?_ <;> intro h3
 ·
  refine sR (sB ?_)
  refine AW.ret ?_
  exact f1 (q := ⟨iCe2 (by unfold lvR; grind), rfl⟩)
 refine sR (Z1 Fx.fl30_0 ?_)
 refine Z0 Fx.ty3 ?_
 refine Z8 ?_
 refine sB ?_
 refine AW.condD rfl ?_ ?_ <;> intro h7
 ·
  refine sR (sB ?_)
  refine AW.ret ?_
  exact f1 (q := ⟨iCe2 (by unfold lvR; grind), rfl⟩)
 refine sR (Z1 Fx.fl30_0 ?_)
 refine Z0 Fx.ty3 ?_
 refine Z8 ?_
 refine sB ?_
 refine AW.condD rfl ?_ ?_ <;> intro h11
 ·
  refine sR (sB ?_)
  refine AW.ret ?_
  exact f1 (q := ⟨iCe2 (by unfold lvR; grind), rfl⟩)
 refine sR (Z1 Fx.fl30_0 ?_)
 refine Z0 Fx.ty3 ?_
 refine SeqK.q (q_geq rfl rfl rfl) rfl rfl rfl ?_
 refine Z19 (fun g19 => ?_) (fun g19 => ?_)
 ·
  refine Z6 Fx.fl30_0 ?_
  refine Z5 Fx.ty3 ?_
  refine SeqK.on (q_leq rfl rfl rfl) rfl rfl rfl rfl rfl ?_
  refine Z4 ?_
  refine sB ?_
  refine AW.condD rfl ?_ ?_ <;> intro h15
  ·
   refine sR (sB ?_)
   refine AW.ret ?_
   exact f1 (q := ⟨iCe2 (by unfold lvR; grind), rfl⟩)
  refine sR (Z1 Fx.fl30_0 ?_)
  refine Z0 Fx.ty3 ?_
  refine Z8 ?_
  refine Z19 (fun g28 => ?_) (fun g28 => ?_)
  ·
   iterate 3 refine SeqK.off rfl rfl rfl rfl rfl rfl ?_
   refine Z4 ?_
   refine sB ?_
   refine AW.condT rfl ?_
   refine sR (sB ?_)
   refine AW.ret ?_
   exact f1 (q := ⟨iCe2 (by unfold lvR; grind), rfl⟩)
  refine Z6 Fx.fl30_0 ?_
  refine Z5 Fx.ty3 ?_
  refine Z44 ?_
  refine Z7 ?_
  refine sB ?_
  refine AW.condD rfl ?_ ?_ <;> intro h24
  ·
   refine sR (sB ?_)
   refine AW.ret ?_
   exact f1 (q := ⟨iCe2 (by unfold lvR; grind), rfl⟩)
  refine sR (Z1 Fx.fl30_0 ?_)
  refine Z0 Fx.ty3 ?_
  refine SeqK.q (q_geq rfl rfl rfl) rfl rfl rfl ?_
  refine Z19 (fun g37 => ?_) (fun g37 => ?_)
  ·
   refine Z6 Fx.fl30_0 ?_
   refine Z5 Fx.ty3 ?_
   refine SeqK.on (q_leq rfl rfl rfl) rfl rfl rfl rfl rfl ?_
   refine Z4 ?_
   refine sB ?_
   refine AW.condD rfl ?_ ?_ <;> intro h33
   ·
    refine sR (sB ?_)
    refine AW.ret ?_
    exact f1 (q := ⟨iCe2 (by unfold lvR; grind), rfl⟩)
   refine sR (Z1 Fx.fl30_0 ?_)
   refine Z0 Fx.ty3 ?_
   refine Z8 ?_
   refine sB ?_
   refine AW.condD rfl ?_ ?_ <;> intro h42
   ·
    refine sR (sB ?_)
    refine AW.ret ?_
    exact f1 (q := ⟨iCe2 (by unfold lvR; grind), rfl⟩)
   refine AW.skip (sR (sB ?_))
   refine AW.ret ?_
   exact f1 (q := ⟨iCe2 (by unfold lvR; grind), rfl⟩)
  iterate 3 refine SeqK.off rfl rfl rfl rfl rfl rfl ?_
  refine Z7 ?_
  refine sB ?_
  refine AW.condF rfl ?_
  refine sR (Z1 Fx.fl30_0 ?_)
  refine Z0 Fx.ty3 ?_
  refine Z8 ?_
  refine sB ?_
  refine AW.condD rfl ?_ ?_ <;> intro h42
  ·
   refine sR (sB ?_)
   refine AW.ret ?_
   exact f1 (q := ⟨iCe2 (by unfold lvR; grind), rfl⟩)
  refine AW.skip (sR (sB ?_))
  refine AW.ret ?_
  exact f1 (q := ⟨iCe2 (by unfold lvR; grind), rfl⟩)
 iterate 3 refine SeqK.off rfl rfl rfl rfl rfl rfl ?_
 refine Z7 ?_
 refine sB ?_
 refine AW.condF rfl ?_
 refine sR (Z1 Fx.fl30_0 ?_)
 refine Z0 Fx.ty3 ?_
 refine Z8 ?_
 refine Z19 (fun g28 => ?_) (fun g28 => ?_)
 ·
  iterate 3 refine SeqK.off rfl rfl rfl rfl rfl rfl ?_
  refine Z4 ?_
  refine sB ?_
  refine AW.condT rfl ?_
  refine sR (sB ?_)
  refine AW.ret ?_
  exact f1 (q := ⟨iCe2 (by unfold lvR; grind), rfl⟩)
 refine Z6 Fx.fl30_0 ?_
 refine Z5 Fx.ty3 ?_
 refine Z44 ?_
 refine Z7 ?_
 refine sB ?_
 refine AW.condD rfl ?_ ?_ <;> intro h24
 ·
  refine sR (sB ?_)
  refine AW.ret ?_
  exact f1 (q := ⟨iCe2 (by unfold lvR; grind), rfl⟩)
 refine sR (Z1 Fx.fl30_0 ?_)
 refine Z0 Fx.ty3 ?_
 refine SeqK.q (q_geq rfl rfl rfl) rfl rfl rfl ?_
 refine Z19 (fun g37 => ?_) (fun g37 => ?_)
 ·
  refine Z6 Fx.fl30_0 ?_
  refine Z5 Fx.ty3 ?_
  refine SeqK.on (q_leq rfl rfl rfl) rfl rfl rfl rfl rfl ?_
  refine Z4 ?_
  refine sB ?_
  refine AW.condD rfl ?_ ?_ <;> intro h33
  ·
   refine sR (sB ?_)
   refine AW.ret ?_
   exact f1 (q := ⟨iCe2 (by unfold lvR; grind), rfl⟩)
  refine sR (Z1 Fx.fl30_0 ?_)
  refine Z0 Fx.ty3 ?_
  refine Z8 ?_
  refine sB ?_
  refine AW.condD rfl ?_ ?_ <;> intro h42
  ·
   refine sR (sB ?_)
   refine AW.ret ?_
   exact f1 (q := ⟨iCe2 (by unfold lvR; grind), rfl⟩)
  refine AW.skip (sR (sB ?_))
  refine AW.ret ?_
  exact f1 (q := ⟨iCe2 (by unfold lvR; grind), rfl⟩)
 iterate 3 refine SeqK.off rfl rfl rfl rfl rfl rfl ?_
 refine Z7 ?_
 refine sB ?_
 refine AW.condF rfl ?_
 refine sR (Z1 Fx.fl30_0 ?_)
 refine Z0 Fx.ty3 ?_
 refine Z8 ?_
 refine sB ?_
 refine AW.condD rfl ?_ ?_ <;> intro h42
 ·
  refine sR (sB ?_)
  refine AW.ret ?_
  exact f1 (q := ⟨iCe2 (by unfold lvR; grind), rfl⟩)
 refine AW.skip (sR (sB ?_))
 refine AW.ret ?_
 exact f1 (q := ⟨iCe2 (by unfold lvR; grind), rfl⟩)

mutual
def depN : Ex → Nat
  | .mk op _ _ _ _ _ _ xs => depNs xs + if op ≠ 0 then 1 else 0
def depNs : List Ex → Nat
  | [] => 0
  | e :: r => max (depN e) (depNs r)
end
theorem depN_eq (e : Ex) : depN e = depNs e.args + if e.op ≠ 0 then 1 else 0 := by cases e; rw [depN]
theorem depNs_app : ∀ (a b : List Ex), depNs (a ++ b) = max (depNs a) (depNs b)
  | [], b => by simp [depNs]
  | e :: r, b => by rw [List.cons_append, depNs, depNs_app r b, depNs]; omega
theorem depNs_take {l : List Ex} {i : Nat} (hi : i < l.length) : depNs (l.take (i + 1)) = max (depNs (l.take i)) (depN l[i]) := by
  rw [take_put hi, depNs_app, depNs, depNs]; omega
theorem depNs_mem {l : List Ex} {a : Ex} (h : a ∈ l) : depN a ≤ depNs l := by
  induction l with
  | nil => cases h
  | cons x r ih =>
    rw [depNs]
    rcases List.mem_cons.1 h with rfl | h
    · omega
    · have := ih h; omega

set_option maxHeartbeats 8000000 in
set_option maxRecDepth 20000 in
theorem depth_of (e : Ex) (ho : okE e) (hd : depN e ≤ 1000000) (ih : ∀ a ∈ e.args, Pure Tryz.prog 144 [exC a] (.c (iC ((depN a : Nat) : Int)))) : Pure Tryz.prog 144 [exC e] (.c (iC ((depN e : Nat) : Int))) := by
 have k4 := (okE_iff.1 ho).1.2.2.2
 have hde := depN_eq e
 have hd2 : depNs e.args ≤ 1000000 := by omega
 intro H
 refine Spec.enter Tryz.func144 rfl ?_
 refine AW.wk (Wk.keep 24 [(0, .c (exC e))] [] (H) rfl ⟨rfl, trivial⟩ trivial (fun _ _ h => h) rfl) ?_
 refine sR (Z16 (r := [_, _, _, _, _, _, _, _]) ?_)
 refine sB ?_
 refine sR (sB ?_)
 refine AW.seq (sR (Z1 Fx.fl30_5 ?_))
 refine Z0 Fx.ty28 ?_
 refine Z14 Fx.un28 ?_
 refine sM ?_
 refine Z3 (AW.block ?_)
 refine AW.loop (fun (i : Nat) s => ∃ (m : Int), (i ≤ e.args.length ∧ m = ((depNs (e.args.take i) : Nat) : Int)) ∧ s = ⟨24, sp [(1, .lp 1 0), (2, .c (iC 0)), (3, .c (iC m)), (7, .c (exsC .un e.args)), (8, iX .i64 (((e.args.map exT').length : Nat) : Int)), (9, iX .i64 ((i : Nat) : Int))], lv [(1, .box (zEx e))], H⟩) (fun i => e.args.length - i) 0 ⟨_, by exact Wk.keep 24 _ _ _ rfl ⟨rfl, rfl, rfl, rfl, rfl, rfl, trivial⟩ ⟨rfl, trivial⟩ (fun _ _ h => h) rfl, 0, ⟨Nat.zero_le _, rfl⟩, rfl⟩ (fun i s hs => ?_)
 obtain ⟨m, ⟨hi0, hm⟩, rfl⟩ := hs
 refine sR (Z10 ?_)
 refine Z3 (AW.seq ?_)
 refine AW.condD rfl ?_ ?_ <;> intro h10
 ·
  have hi : i < e.args.length := by rw [List.length_map] at h10; omega
  refine AW.skip (AW.seq (AW.block (sR (Z9 Fx.sl28 (idx_ex hi) ?_))))
  refine Z11 (.g [_, _, _, _, _, _, _, _]) Fx.ty30 ?_
  refine Z25 (r := [_, _, _, _, _, _, _, _]) Fx.ze30 ?_
  refine Z15 (r := [_, _, _, _, _, _, _, _]) Fx.ty30 ?_
  refine Z3 (AW.reg (sM ?_))
  refine Z12 (r := .g [_, _, _, _, _, _, _, _]) Fx.ty30 ?_
  refine Z22 Fx.fn144 (ih _ (List.getElem_mem hi)) ?_
  refine SeqK.q (q_max rfl rfl rfl) rfl rfl rfl ?_
  refine sB ?_
  refine AW.reg (Z2 ?_)
  refine sM ?_
  refine Z3 ?_
  exact ⟨i + 1, _, by exact Wk.keep 24 _ _ _ rfl ⟨rfl, rfl, rfl, rfl, rfl, rfl, trivial⟩ ⟨rfl, trivial⟩ (fun _ _ h => h) rfl, by omega, max m ((depN e.args[i] : Nat) : Int), ⟨hi, by rw [hm, depNs_take hi]; omega⟩, rfl⟩
 refine AW.exit ?_
 refine eth_e ?_
 refine eth_e ?_
 refine exit_here ?_
 refine AW.seq (AW.seq ?_)
 have hf : m = ((depNs e.args : Nat) : Int) := by rw [hm, List.take_of_length_le (by rw [List.length_map] at h10; omega)]
 refine AW.reg (Z1 Fx.fl30_0 ?_)
 refine Z0 Fx.ty3 ?_
 refine Z49 ?_
 refine Z3 ?_
 refine AW.condD rfl ?_ ?_ <;> intro h20
 ·
  have hv : depN e = depNs e.args + 1 := by rw [hde, if_pos h20]
  refine AW.reg (sM ?_)
  refine Z2 ?_
  refine sB ?_
  refine sR (sM ?_)
  refine sB ?_
  refine AW.ret ?_
  exact f1 (q := ⟨iCe2 (by omega), rfl⟩)
 have hv : depN e = depNs e.args := by rw [hde, if_neg h20]; rfl
 refine AW.skip (sR (sM ?_))
 refine sB ?_
 refine AW.ret ?_
 exact f1 (q := ⟨iCe2 (by omega), rfl⟩)

set_option maxHeartbeats 8000000 in
set_option maxRecDepth 20000 in
theorem rdepth_of (e : Ex) (ho : okE e) (hd : depN e ≤ 1000000) (ih : ∀ a ∈ e.args, Pure Tryz.prog 114 [exC a] (.c (iC ((depN a : Nat) : Int)))) : Pure Tryz.prog 114 [exC e] (.c (iC ((depN e : Nat) : Int))) := by
 have k4 := (okE_iff.1 ho).1.2.2.2
 have hde := depN_eq e
 have hd2 : depNs e.args ≤ 1000000 := by omega
 intro H
 refine Spec.enter Tryz.func114 rfl ?_
 refine AW.wk (Wk.keep 26 [(0, .c (exC e))] [] (H) rfl ⟨rfl, trivial⟩ trivial (fun _ _ h => h) rfl) ?_
 refine sR (Z16 (r := [_, _, _, _, _, _, _, _]) ?_)
 refine sB ?_
 refine sR (sB ?_)
 refine AW.seq (sR (sB ?_))
 refine AW.block ?_
 refine AW.loop (fun (i : Nat) s => ∃ (m : Int), (i ≤ e.args.length ∧ m = ((depNs (e.args.take i) : Nat) : Int)) ∧ s = ⟨26, sp [(1, .lp 1 0), (2, .c (iC 0)), (3, .c (iC m)), (4, iX .i64 ((i : Nat) : Int))], lv [(1, .box (zEx e))], H⟩) (fun i => e.args.length - i) 0 ⟨_, by exact Wk.keep 26 _ _ _ rfl ⟨rfl, rfl, rfl, rfl, trivial⟩ ⟨rfl, trivial⟩ (fun _ _ h => h) rfl, 0, ⟨Nat.zero_le _, rfl⟩, rfl⟩ (fun i s hs => ?_)
 obtain ⟨m, ⟨hi0, hm⟩, rfl⟩ := hs
 refine AW.seq (sR (sM ?_))
 refine Z1 Fx.fl30_5 ?_
 refine Z0 Fx.ty28 ?_
 refine Z14 Fx.un28 ?_
 refine Z10 ?_
 refine Z3 ?_
 refine AW.condD rfl ?_ ?_ <;> intro h9
 ·
  have hi : i < e.args.length := by rw [List.length_map] at h9; omega
  refine AW.skip (AW.seq (AW.block (AW.reg (sM ?_))))
  refine Z1 Fx.fl30_5 ?_
  refine Z0 Fx.ty28 ?_
  refine sM ?_
  refine Z9 Fx.sl28 (idx_ex hi) ?_
  refine Z11 (.g [_, _, _, _, _, _, _, _]) Fx.ty30 ?_
  refine Z22 Fx.fn114 (ih _ (List.getElem_mem hi)) ?_
  refine SeqK.q (q_max rfl rfl rfl) rfl rfl rfl ?_
  refine sB ?_
  refine AW.reg (sM ?_)
  refine Z2 ?_
  refine sB ?_
  exact ⟨i + 1, _, by exact Wk.keep 26 _ _ _ rfl ⟨rfl, rfl, rfl, rfl, trivial⟩ ⟨rfl, trivial⟩ (fun _ _ h => h) rfl, by omega, max m ((depN e.args[i] : Nat) : Int), ⟨hi, by rw [hm, depNs_take hi]; omega⟩, rfl⟩
 refine AW.exit ?_
 refine eth_e ?_
 refine eth_e ?_
 refine exit_here ?_
 refine AW.seq (AW.seq ?_)
 have hf : m = ((depNs e.args : Nat) : Int) := by rw [hm, List.take_of_length_le (by rw [List.length_map] at h9; omega)]
 refine AW.reg (Z1 Fx.fl30_0 ?_)
 refine Z0 Fx.ty3 ?_
 refine Z49 ?_
 refine Z3 ?_
 refine AW.condD rfl ?_ ?_ <;> intro h22
 ·
  have hv : depN e = depNs e.args + 1 := by rw [hde, if_pos h22]
  refine AW.reg (sM ?_)
  refine Z2 ?_
  refine sB ?_
  refine sR (sM ?_)
  refine sB ?_
  refine AW.ret ?_
  exact f1 (q := ⟨iCe2 (by omega), rfl⟩)
 have hv : depN e = depNs e.args := by rw [hde, if_neg h22]; rfl
 refine AW.skip (sR (sM ?_))
 refine sB ?_
 refine AW.ret ?_
 exact f1 (q := ⟨iCe2 (by omega), rfl⟩)

theorem depth_any (e : Ex) : okE e → depN e ≤ 1000000 → Pure Tryz.prog 144 [exC e] (.c (iC ((depN e : Nat) : Int))) := by
  induction e using Ex.rec' with
  | h e ih => exact fun ho hd => depth_of e ho hd fun a ha => ih a ha ((okE_iff.1 ho).2 a ha) (by have h1 := depNs_mem ha; have h2 := depN_eq e; omega)

theorem rdepth_any (e : Ex) : okE e → depN e ≤ 1000000 → Pure Tryz.prog 114 [exC e] (.c (iC ((depN e : Nat) : Int))) := by
  induction e using Ex.rec' with
  | h e ih => exact fun ho hd => rdepth_of e ho hd fun a ha => ih a ha ((okE_iff.1 ho).2 a ha) (by have h1 := depNs_mem ha; have h2 := depN_eq e; omega)

end Go.Proofs.YtihlgigaejhilaaGreatDoor.W
namespace Go.Proofs.YtihlgigaejhilaaGreatDoor.W
open Go.RowKit E
/-! nodes counted; what is large -/
mutual
def ndE : Ex → Nat
  | .mk op _ _ _ _ _ _ xs => (if op ≠ 0 then 1 else 0) + ndS xs
def ndS : List Ex → Nat
  | [] => 0
  | e :: r => ndE e + ndS r
end
theorem ndE_eq (e : Ex) : ndE e = (if e.op ≠ 0 then 1 else 0) + ndS e.args := by cases e; rw [ndE]
theorem ndS_app : ∀ (a b : List Ex), ndS (a ++ b) = ndS a + ndS b
  | [], b => by simp [ndS]
  | e :: r, b => by rw [List.cons_append, ndS, ndS_app r b, ndS]; omega
theorem ndS_take {l : List Ex} {i : Nat} (hi : i < l.length) : ndS (l.take (i + 1)) = ndS (l.take i) + ndE l[i] := by
  rw [take_put hi, ndS_app, ndS, ndS]; omega
theorem ndS_mem {l : List Ex} {a : Ex} (h : a ∈ l) : ndE a ≤ ndS l := by
  induction l with
  | nil => cases h
  | cons x r ih =>
    rw [ndS]
    rcases List.mem_cons.1 h with rfl | h
    · omega
    · have := ih h; omega
theorem ndS_tk {l : List Ex} {i : Nat} (hi : i < l.length) : ndS (l.take i) + ndE l[i] ≤ ndS l := by
  rw [← ndS_take hi]
  conv => rhs; rw [← List.take_append_drop (i + 1) l]
  rw [ndS_app]; omega
mutual
theorem nd_nod : ∀ (e : Ex) (m : Nat), nod e m ≤ m → ndE e ≤ nod e m
  | .mk op tb nm ix vk vn vs xs, m, h => by
    by_cases hb : 100 < nm.size + tb.size + vs.size
    · rw [nod_big (e := .mk op tb nm ix vk vn vs xs) hb] at h; omega
    · rw [nod_sm (e := .mk op tb nm ix vk vn vs xs) hb] at h ⊢
      have h1 := nds_nod xs m 1 h
      rw [ndE]
      have h1 : 1 + ndS xs ≤ _ := h1
      have h2 : (if op ≠ 0 then 1 else 0) ≤ 1 := by split <;> omega
      show _ ≤ nods xs m 1
      omega
theorem nds_nod : ∀ (l : List Ex) (m n : Nat), nods l m n ≤ m → n + ndS l ≤ nods l m n
  | [], m, n, h => by rw [nods, ndS]; omega
  | e :: r, m, n, h => by
    rw [nods] at h ⊢
    by_cases hn : n ≤ m
    · rw [if_pos hn] at h ⊢
      have h1 := nods_ge r m (n + nod e (m - n))
      have h2 := nd_nod e (m - n) (by omega)
      have h3 := nds_nod r m _ h
      rw [ndS]; omega
    · rw [if_neg hn] at h; omega
end
theorem dep_nd (e : Ex) : depN e ≤ ndE e := by
  induction e using Ex.rec' with
  | h e ih =>
    have key : ∀ l : List Ex, (∀ a ∈ l, depN a ≤ ndE a) → depNs l ≤ ndS l := by
      intro l
      induction l with
      | nil => simp [depNs]
      | cons a r ih2 =>
        intro h
        have h1 := h a (by simp)
        have h2 := ih2 fun x hx => h x (by simp [hx])
        rw [depNs, ndS]; omega
    have := key e.args ih
    rw [depN_eq, ndE_eq]; omega

set_option maxHeartbeats 8000000 in
set_option maxRecDepth 20000 in
theorem counted_of (l : List Ex) (z : Nz) (m : Nat) (hl : l.length ≤ 17592186044000) (hm : ndS l ≤ m) (hm2 : m ≤ 1000000) (ih : ∀ a ∈ l, ∀ n : Nat, ndS a.args ≤ n → n ≤ 1000000 → Pure Tryz.prog 142 [exsC .un a.args, iC (n : Int)] (.c (iC ((ndS a.args : Nat) : Int)))) : Pure Tryz.prog 142 [exsC z l, iC (m : Int)] (.c (iC ((ndS l : Nat) : Int))) := by
 intro H
 refine Spec.enter Tryz.func142 rfl ?_
 refine AW.wk (Wk.keep 35 [(0, .c (exsC z l)), (1, .c (iC (m : Int)))] [] (H) rfl ⟨rfl, rfl, trivial⟩ trivial (fun _ _ h => h) rfl) ?_
 refine sR (sB ?_)
 refine sR (sB ?_)
 refine AW.seq (sR (sM ?_))
 refine Z14 Fx.un28 ?_
 refine sM ?_
 refine Z3 (AW.block ?_)
 refine AW.loop (fun (i : Nat) s => ∃ (n : Nat), (i ≤ l.length ∧ n = ndS (l.take i)) ∧ s = ⟨35, sp [(1, .c (iC (m : Int))), (4, .c (iC 0)), (5, iX .i64 ((n : Nat) : Int)), (8, .c (exsC z l)), (9, iX .i64 (((l.map exT').length : Nat) : Int)), (10, iX .i64 ((i : Nat) : Int))], lv [], H⟩) (fun i => l.length - i) 0 ⟨_, by exact Wk.keep 35 _ _ _ rfl ⟨rfl, rfl, rfl, rfl, rfl, rfl, trivial⟩ trivial (fun _ _ h => h) rfl, 0, ⟨Nat.zero_le _, rfl⟩, rfl⟩ (fun i s hs => ?_)
 obtain ⟨n, ⟨hi0, hn⟩, rfl⟩ := hs
 refine sR (Z10 ?_)
 refine Z3 (AW.seq ?_)
 refine AW.condD rfl ?_ ?_ <;> intro h11
 ·
  have hi : i < l.length := by rw [List.length_map] at h11; omega
  have htk := ndS_tk hi
  have hne := ndE_eq l[i]
  refine AW.skip (AW.seq (AW.block (sR (Z9 Fx.sl28 (idx_ex hi) ?_))))
  refine Z11 (.g [_, _, _, _, _, _, _, _]) Fx.ty30 ?_
  refine Z25 (r := [_, _, _, _, _, _, _, _]) Fx.ze30 ?_
  refine Z15 (r := [_, _, _, _, _, _, _, _]) Fx.ty30 ?_
  refine Z3 (AW.seq (sR (Z1 Fx.fl30_0 ?_)))
  refine Z0 Fx.ty3 ?_
  refine Z49 ?_
  refine Z3 ?_
  refine AW.condD rfl ?_ ?_ <;> intro h16
  ·
   have hv : ndE l[i] = 1 + ndS l[i].args := by rw [hne, if_pos h16]
   refine AW.reg (sM ?_)
   refine Z2 ?_
   refine sB ?_
   refine AW.seq (sR (sM ?_))
   refine sM ?_
   refine SeqK.q (q_leq rfl rfl rfl) rfl rfl rfl ?_
   refine Z3 ?_
   refine AW.condD rfl ?_ ?_ <;> intro h21
   ·
    refine AW.reg (sM ?_)
    refine Z1 Fx.fl30_5 ?_
    refine Z0 Fx.ty28 ?_
    refine sM ?_
    refine sM ?_
    refine SeqK.q (q_sub _ rfl rfl rfl ((by rw [w64 (by omega) (by omega)]; omega : IntKind.i64.wrap _ = ((m - (n + 1) : Nat) : Int)))) rfl rfl rfl ?_
    refine SeqK.q (q_call _ rfl Fx.fn142 rfl (ih _ (List.getElem_mem hi) (m - (n + 1)) (by omega) (by omega)) rfl) rfl rfl rfl ?_
    refine SeqK.q (q_add _ rfl rfl rfl ((by rw [w64 (by omega) (by omega), hv]; omega : IntKind.i64.wrap _ = ((n + ndE l[i] : Nat) : Int)))) rfl rfl rfl ?_
    refine sB ?_
    refine sR (sM ?_)
    refine sM ?_
    refine SeqK.q (q_gtr rfl rfl rfl) rfl rfl rfl ?_
    refine Z3 ?_
    refine AW.condD rfl ?_ ?_ <;> intro h32
    ·
     exfalso; omega
    refine AW.skip (AW.reg (Z2 ?_))
    refine sM ?_
    refine Z3 ?_
    exact ⟨i + 1, _, by exact Wk.keep 35 _ _ _ rfl ⟨rfl, rfl, rfl, rfl, rfl, rfl, trivial⟩ trivial (fun _ _ h => h) rfl, by omega, n + ndE l[i], ⟨hi, by rw [hn, ndS_take hi]⟩, rfl⟩
   exfalso; omega
  have hv : ndE l[i] = ndS l[i].args := by rw [hne, if_neg h16, Nat.zero_add]
  refine AW.skip (AW.seq (sR (sM ?_)))
  refine sM ?_
  refine SeqK.q (q_leq rfl rfl rfl) rfl rfl rfl ?_
  refine Z3 ?_
  refine AW.condD rfl ?_ ?_ <;> intro h21
  ·
   refine AW.reg (sM ?_)
   refine Z1 Fx.fl30_5 ?_
   refine Z0 Fx.ty28 ?_
   refine sM ?_
   refine sM ?_
   refine SeqK.q (q_sub _ rfl rfl rfl ((by rw [w64 (by omega) (by omega)]; omega : IntKind.i64.wrap _ = ((m - n : Nat) : Int)))) rfl rfl rfl ?_
   refine SeqK.q (q_call _ rfl Fx.fn142 rfl (ih _ (List.getElem_mem hi) (m - n) (by omega) (by omega)) rfl) rfl rfl rfl ?_
   refine SeqK.q (q_add _ rfl rfl rfl ((by rw [w64 (by omega) (by omega), hv]; omega : IntKind.i64.wrap _ = ((n + ndE l[i] : Nat) : Int)))) rfl rfl rfl ?_
   refine sB ?_
   refine sR (sM ?_)
   refine sM ?_
   refine SeqK.q (q_gtr rfl rfl rfl) rfl rfl rfl ?_
   refine Z3 ?_
   refine AW.condD rfl ?_ ?_ <;> intro h32
   ·
    exfalso; omega
   refine AW.skip (AW.reg (Z2 ?_))
   refine sM ?_
   refine Z3 ?_
   exact ⟨i + 1, _, by exact Wk.keep 35 _ _ _ rfl ⟨rfl, rfl, rfl, rfl, rfl, rfl, trivial⟩ trivial (fun _ _ h => h) rfl, by omega, n + ndE l[i], ⟨hi, by rw [hn, ndS_take hi]⟩, rfl⟩
  exfalso; omega
 refine AW.exit ?_
 refine eth_e ?_
 refine eth_e ?_
 refine exit_here ?_
 refine AW.seq ?_
 have hf : n = ndS l := by rw [hn, List.take_of_length_le (by rw [List.length_map] at h11; omega)]
 refine AW.reg (sM ?_)
 refine sB ?_
 refine AW.ret ?_
 exact f1 (q := ⟨iCe2 (by rw [hf]), rfl⟩)

theorem counted_in (e : Ex) : okE e → ∀ n : Nat, ndS e.args ≤ n → n ≤ 1000000 → Pure Tryz.prog 142 [exsC .un e.args, iC (n : Int)] (.c (iC ((ndS e.args : Nat) : Int))) := by
  induction e using Ex.rec' with
  | h e ih => exact fun ho n h1 h2 => counted_of e.args .un n (okE_iff.1 ho).1.2.2.2 h1 h2 fun a ha => ih a ha ((okE_iff.1 ho).2 a ha)
theorem counted_any (l : List Ex) (z : Nz) (m : Nat) (hl : l.length ≤ 17592186044000) (ho : ∀ a ∈ l, okE a) (hm : ndS l ≤ m) (hm2 : m ≤ 1000000) : Pure Tryz.prog 142 [exsC z l, iC (m : Int)] (.c (iC ((ndS l : Nat) : Int))) :=
  counted_of l z m hl hm hm2 fun a ha => counted_in a (ho a ha)

set_option maxHeartbeats 8000000 in
set_option maxRecDepth 20000 in
theorem upTo_of (e : Ex) (m : Nat) (ho : okE e) (hm : ndE e ≤ m) (hm2 : m ≤ 1000000) (ih : ∀ a ∈ e.args, ∀ n : Nat, ndE a ≤ n → n ≤ 1000000 → Pure Tryz.prog 113 [exC a, iC (n : Int)] (.c (iC ((ndE a : Nat) : Int)))) : Pure Tryz.prog 113 [exC e, iC (m : Int)] (.c (iC ((ndE e : Nat) : Int))) := by
 have k4 := (okE_iff.1 ho).1.2.2.2
 have hne := ndE_eq e
 obtain ⟨c0, hc0⟩ : ∃ c0 : Nat, c0 = if e.op ≠ 0 then 1 else 0 := ⟨_, rfl⟩
 rw [← hc0] at hne
 intro H
 refine Spec.enter Tryz.func113 rfl ?_
 refine AW.wk (Wk.keep 34 [(0, .c (exC e)), (1, .c (iC (m : Int)))] [] (H) rfl ⟨rfl, rfl, trivial⟩ trivial (fun _ _ h => h) rfl) ?_
 refine sR (Z16 (r := [_, _, _, _, _, _, _, _]) ?_)
 refine sB ?_
 refine sR (sB ?_)
 refine AW.seqM (fun s => s = ⟨34, sp [(1, .c (iC (m : Int))), (2, .lp 2 0), (4, .c (iC 0)), (5, iX .i64 ((c0 : Nat) : Int))], lv [(2, .box (zEx e))], H⟩) ?_ ?_
 ·
  refine sR (Z1 Fx.fl30_0 ?_)
  refine Z0 Fx.ty3 ?_
  refine Z49 ?_
  refine Z3 ?_
  refine AW.condD rfl ?_ ?_ <;> intro h9
  ·
   refine AW.reg (sB ?_)
   exact ⟨_, by exact Wk.keep 34 _ _ _ rfl ⟨rfl, rfl, rfl, iCe2 (by first | rw [hc0, if_pos h9]; rfl | rw [hc0, if_neg h9]; rfl), trivial⟩ ⟨rfl, trivial⟩ (fun _ _ h => h) rfl, rfl⟩
  refine AW.skip ?_
  exact ⟨_, by exact Wk.keep 34 _ _ _ rfl ⟨rfl, rfl, rfl, iCe2 (by first | rw [hc0, if_pos h9]; rfl | rw [hc0, if_neg h9]; rfl), trivial⟩ ⟨rfl, trivial⟩ (fun _ _ h => h) rfl, rfl⟩
 rintro s rfl
 refine AW.seq (sR (sB ?_))
 refine AW.block ?_
 refine AW.loop (fun (i : Nat) s => ∃ (n : Nat), (i ≤ e.args.length ∧ n = c0 + ndS (e.args.take i)) ∧ s = ⟨34, sp [(1, .c (iC (m : Int))), (2, .lp 2 0), (4, .c (iC 0)), (5, iX .i64 ((n : Nat) : Int)), (6, iX .i64 ((i : Nat) : Int))], lv [(2, .box (zEx e))], H⟩) (fun i => e.args.length - i) 0 ⟨_, by exact Wk.keep 34 _ _ _ rfl ⟨rfl, rfl, rfl, rfl, rfl, trivial⟩ ⟨rfl, trivial⟩ (fun _ _ h => h) rfl, c0, ⟨Nat.zero_le _, rfl⟩, rfl⟩ (fun i s hs => ?_)
 obtain ⟨n, ⟨hi0, hn⟩, rfl⟩ := hs
 refine AW.seq (sR (sM ?_))
 refine Z1 Fx.fl30_5 ?_
 refine Z0 Fx.ty28 ?_
 refine Z14 Fx.un28 ?_
 refine Z10 ?_
 refine Z19 (fun g15 => ?_) (fun g15 => ?_)
 ·
  have hi : i < e.args.length := by rw [List.length_map] at g15; omega
  have htk := ndS_tk hi
  refine Z13 ?_
  refine Z13 ?_
  refine SeqK.on (q_leq rfl rfl rfl) rfl rfl rfl rfl rfl ?_
  refine Z4 ?_
  refine Z3 ?_
  refine AW.condD rfl ?_ ?_ <;> intro h19
  ·
   refine AW.skip (AW.seq (AW.block (AW.reg (sM ?_))))
   refine Z1 Fx.fl30_5 ?_
   refine Z0 Fx.ty28 ?_
   refine sM ?_
   refine Z9 Fx.sl28 (idx_ex hi) ?_
   refine Z11 (.g [_, _, _, _, _, _, _, _]) Fx.ty30 ?_
   refine sM ?_
   refine sM ?_
   refine SeqK.q (q_sub _ rfl rfl rfl ((by rw [w64 (by omega) (by omega)]; omega : IntKind.i64.wrap _ = ((m - n : Nat) : Int)))) rfl rfl rfl ?_
   refine SeqK.q (q_call _ rfl Fx.fn113 rfl (ih _ (List.getElem_mem hi) (m - n) (by omega) (by omega)) rfl) rfl rfl rfl ?_
   refine SeqK.q (q_add _ rfl rfl rfl ((by rw [w64 (by omega) (by omega)]; omega : IntKind.i64.wrap _ = ((n + ndE e.args[i] : Nat) : Int)))) rfl rfl rfl ?_
   refine sB ?_
   refine AW.reg (sM ?_)
   refine Z2 ?_
   refine sB ?_
   exact ⟨i + 1, _, by exact Wk.keep 34 _ _ _ rfl ⟨rfl, rfl, rfl, rfl, rfl, trivial⟩ ⟨rfl, trivial⟩ (fun _ _ h => h) rfl, by omega, n + ndE e.args[i], ⟨hi, by rw [hn, ndS_take hi]; omega⟩, rfl⟩
  exfalso; omega
 iterate 3 refine SeqK.off rfl rfl rfl rfl rfl rfl ?_
 refine Z7 ?_
 refine Z3 (AW.condF rfl ?_)
 refine AW.exit ?_
 refine eth_e ?_
 refine eth_e ?_
 refine exit_here ?_
 refine AW.seq ?_
 have hf : n = ndE e := by rw [hn, List.take_of_length_le (by rw [List.length_map] at g15; omega)]; omega
 refine AW.reg (sM ?_)
 refine sB ?_
 refine AW.ret ?_
 exact f1 (q := ⟨iCe2 (by rw [hf]), rfl⟩)

theorem upTo_any (e : Ex) : okE e → ∀ n : Nat, ndE e ≤ n → n ≤ 1000000 → Pure Tryz.prog 113 [exC e, iC (n : Int)] (.c (iC ((ndE e : Nat) : Int))) := by
  induction e using Ex.rec' with
  | h e ih => exact fun ho n h1 h2 => upTo_of e n ho h1 h2 fun a ha => ih a ha ((okE_iff.1 ho).2 a ha)

end Go.Proofs.YtihlgigaejhilaaGreatDoor.W
namespace Go.Proofs.YtihlgigaejhilaaGreatDoor.W
open Go.RowKit E
/-! texts, numbers, literals; what is large -/
abbrev txP (s : ByteArray) : Prop := (∀ j (h : j < s.data.toList.length), 32 ≤ s.data.toList[j].toNat ∧ s.data.toList[j].toNat ≤ 126) ∧ s.size ≤ 16
abbrev ltP (k n : Int) (s : ByteArray) : Prop := if k = 0 then n = 0 ∧ s = ⟨#[]⟩ else if k = 1 then (0 ≤ n ∧ n ≤ 2147483648) ∧ s = ⟨#[]⟩ else if k = 2 then n = 0 ∧ txP s else False
instance : ∀ k n s, Decidable (ltP k n s) := fun k n s => by
  unfold ltP
  exact inferInstance
abbrev vaC (k n : Int) (s : ByteArray) : C := .g [.t (.v (.int .i64 k)), .t (.v (.int .i64 n)), .t (.v (.string s))]

set_option maxHeartbeats 8000000 in
set_option maxRecDepth 20000 in
theorem text_any (u : ByteArray) (hs : u.size ≤ 1000000000000000) : Pure Tryz.prog 156 [sC u] (.c (bC (decide (txP u)))) := by
 have hl := ba_len u
 intro H
 refine Spec.enter Tryz.func156 rfl ?_
 refine AW.wk (Wk.keep 23 [(0, .c (sC u))] [] (H) rfl ⟨rfl, trivial⟩ trivial (fun _ _ h => h) rfl) ?_
 refine sR (sB ?_)
 refine AW.seq (sR (sM ?_))
 refine SeqK.q (q_lenS rfl Fx.un9 rfl) rfl rfl rfl ?_
 refine sM ?_
 refine Z3 (AW.block ?_)
 refine AW.loop (fun (i : Nat) s => (i ≤ u.data.toList.length ∧ ∀ j (h : j < u.data.toList.length), j < i → 32 ≤ u.data.toList[j].toNat ∧ u.data.toList[j].toNat ≤ 126) ∧ s = ⟨23, sp [(0, .c (sC u)), (2, .c (bC false)), (5, iX .i64 ((u.data.toList.length : Nat) : Int)), (6, iX .i64 ((i : Nat) : Int))], lv [], H⟩) (fun i => u.data.toList.length - i) 0 ⟨_, by exact Wk.keep 23 _ _ _ rfl ⟨rfl, rfl, rfl, rfl, trivial⟩ trivial (fun _ _ h => h) rfl, ⟨Nat.zero_le _, up0⟩, rfl⟩ (fun i s hs => ?_)
 obtain ⟨⟨hi0, hU⟩, rfl⟩ := hs
 refine sR (Z10 ?_)
 refine Z3 (AW.seq ?_)
 refine AW.condD rfl ?_ ?_ <;> intro h7
 ·
  have hi : i < u.data.toList.length := by omega
  refine AW.skip (AW.seq (AW.block (sR (sM ?_))))
  refine sB ?_
  refine sR (sM ?_)
  refine sM ?_
  refine SeqK.q (q_indexS _ rfl Fx.un9 rfl rfl (by omega) (idx_ba hi)) rfl rfl rfl ?_
  refine Z10 ?_
  refine Z19 (fun g13 => ?_) (fun g13 => ?_)
  ·
   iterate 4 refine SeqK.off rfl rfl rfl rfl rfl rfl ?_
   refine Z4 ?_
   refine Z3 (AW.condT rfl ?_)
   refine sR (sB ?_)
   refine AW.ret ?_
   exact f1 (q := ⟨bCe (dF (fun h => by have h9 := h.1 i hi; omega)), rfl⟩)
  refine Z13 ?_
  refine Z13 ?_
  refine Z41 Fx.un9 (idx_ba hi) ?_
  refine Z35 ?_
  refine Z7 ?_
  refine Z3 ?_
  refine AW.condD rfl ?_ ?_ <;> intro h18
  ·
   refine sR (sB ?_)
   refine AW.ret ?_
   exact f1 (q := ⟨bCe (dF (fun h => by have h9 := h.1 i hi; omega)), rfl⟩)
  refine AW.skip (AW.reg (Z2 ?_))
  refine sM ?_
  refine Z3 ?_
  exact ⟨i + 1, _, by exact Wk.keep 23 _ _ _ rfl ⟨rfl, rfl, rfl, rfl, trivial⟩ trivial (fun _ _ h => h) rfl, by omega, ⟨hi, upS (Q := fun j h => 32 ≤ u.data.toList[j].toNat ∧ u.data.toList[j].toNat ≤ 126) hi hU (by omega)⟩, rfl⟩
 refine AW.exit ?_
 refine eth_e ?_
 refine eth_e ?_
 refine exit_here ?_
 refine AW.seq ?_
 have hA := upE hU (by omega)
 refine AW.reg (sM ?_)
 refine SeqK.q (q_lenS rfl Fx.un9 rfl) rfl rfl rfl ?_
 refine SeqK.q (q_leq rfl rfl rfl) rfl rfl rfl ?_
 refine sB ?_
 refine AW.ret ?_
 exact f1 (q := ⟨bCe (dI ⟨fun h => ⟨hA, by omega⟩, fun h => by have := h.2; omega⟩), rfl⟩)

set_option maxHeartbeats 8000000 in
set_option maxRecDepth 20000 in
theorem rtext_any (u : ByteArray) (hs : u.size ≤ 1000000000000000) : Pure Tryz.prog 153 [sC u] (.c (bC (decide (txP u)))) := by
 have hl := ba_len u
 intro H
 refine Spec.enter Tryz.func153 rfl ?_
 refine AW.wk (Wk.keep 23 [(0, .c (sC u))] [] (H) rfl ⟨rfl, trivial⟩ trivial (fun _ _ h => h) rfl) ?_
 refine sR (sB ?_)
 refine AW.seq (sR (sB ?_))
 refine AW.block ?_
 refine AW.loop (fun (i : Nat) s => (i ≤ u.data.toList.length ∧ ∀ j (h : j < u.data.toList.length), j < i → 32 ≤ u.data.toList[j].toNat ∧ u.data.toList[j].toNat ≤ 126) ∧ s = ⟨23, sp [(0, .c (sC u)), (2, .c (bC false)), (3, iX .i64 ((i : Nat) : Int))], lv [], H⟩) (fun i => u.data.toList.length - i) 0 ⟨_, by exact Wk.keep 23 _ _ _ rfl ⟨rfl, rfl, rfl, trivial⟩ trivial (fun _ _ h => h) rfl, ⟨Nat.zero_le _, up0⟩, rfl⟩ (fun i s hs => ?_)
 obtain ⟨⟨hi0, hU⟩, rfl⟩ := hs
 refine AW.seq (sR (sM ?_))
 refine sM ?_
 refine SeqK.q (q_lenS rfl Fx.un9 rfl) rfl rfl rfl ?_
 refine Z10 ?_
 refine Z3 ?_
 refine AW.condD rfl ?_ ?_ <;> intro h7
 ·
  have hi : i < u.data.toList.length := by omega
  refine AW.skip (AW.seq (AW.block (sR (sM ?_))))
  refine sM ?_
  refine SeqK.q (q_indexS _ rfl Fx.un9 rfl rfl (by omega) (idx_ba hi)) rfl rfl rfl ?_
  refine Z10 ?_
  refine Z19 (fun g14 => ?_) (fun g14 => ?_)
  ·
   iterate 4 refine SeqK.off rfl rfl rfl rfl rfl rfl ?_
   refine Z4 ?_
   refine Z3 (AW.condT rfl ?_)
   refine sR (sB ?_)
   refine AW.ret ?_
   exact f1 (q := ⟨bCe (dF (fun h => by have h9 := h.1 i hi; omega)), rfl⟩)
  refine Z13 ?_
  refine Z13 ?_
  refine Z41 Fx.un9 (idx_ba hi) ?_
  refine Z35 ?_
  refine Z7 ?_
  refine Z3 ?_
  refine AW.condD rfl ?_ ?_ <;> intro h19
  ·
   refine sR (sB ?_)
   refine AW.ret ?_
   exact f1 (q := ⟨bCe (dF (fun h => by have h9 := h.1 i hi; omega)), rfl⟩)
  refine AW.skip (AW.reg (sM ?_))
  refine Z2 ?_
  refine sB ?_
  exact ⟨i + 1, _, by exact Wk.keep 23 _ _ _ rfl ⟨rfl, rfl, rfl, trivial⟩ trivial (fun _ _ h => h) rfl, by omega, ⟨hi, upS (Q := fun j h => 32 ≤ u.data.toList[j].toNat ∧ u.data.toList[j].toNat ≤ 126) hi hU (by omega)⟩, rfl⟩
 refine AW.exit ?_
 refine eth_e ?_
 refine eth_e ?_
 refine exit_here ?_
 refine AW.seq ?_
 have hA := upE hU (by omega)
 refine AW.reg (sM ?_)
 refine SeqK.q (q_lenS rfl Fx.un9 rfl) rfl rfl rfl ?_
 refine SeqK.q (q_leq rfl rfl rfl) rfl rfl rfl ?_
 refine sB ?_
 refine AW.ret ?_
 exact f1 (q := ⟨bCe (dI ⟨fun h => ⟨hA, by omega⟩, fun h => by have := h.2; omega⟩), rfl⟩)

set_option maxRecDepth 20000 in
theorem within_num (n : Int) : Pure Tryz.prog 155 [iC n, iC 0, iC 2147483648] (.c (bC (decide (0 ≤ n ∧ n ≤ 2147483648)))) := by
 intro H
 refine Spec.enter Tryz.func155 rfl ?_
 refine AW.wk (Wk.keep 15 [(0, .c (iC n)), (1, .c (iC 0)), (2, .c (iC 2147483648))] [] (H) rfl ⟨rfl, rfl, rfl, trivial⟩ trivial (fun _ _ h => h) rfl) ?_
 refine sR (sB ?_)
 refine sR (sM ?_)
 refine sM ?_
 refine SeqK.q (q_geq rfl rfl rfl) rfl rfl rfl ?_
 refine Z19 (fun g10 => ?_) (fun g10 => ?_)
 ·
  refine Z13 ?_
  refine Z13 ?_
  refine SeqK.on (q_leq rfl rfl rfl) rfl rfl rfl rfl rfl ?_
  refine Z4 ?_
  refine sB ?_
  refine AW.ret ?_
  exact f1 (q := ⟨bCe (by first | exact dI ⟨fun h => ⟨by omega, h⟩, fun h => h.2⟩ | exact dF (fun h => by omega)), rfl⟩)
 iterate 3 refine SeqK.off rfl rfl rfl rfl rfl rfl ?_
 refine Z7 ?_
 refine sB ?_
 refine AW.ret ?_
 exact f1 (q := ⟨bCe (by first | exact dI ⟨fun h => ⟨by omega, h⟩, fun h => h.2⟩ | exact dF (fun h => by omega)), rfl⟩)

set_option maxRecDepth 20000 in
theorem number_num (n : Int) : Pure Tryz.prog 152 [iC n] (.c (bC (decide (0 ≤ n ∧ n ≤ 2147483648)))) := by
 intro H
 refine Spec.enter Tryz.func152 rfl ?_
 refine AW.wk (Wk.keep 9 [(0, .c (iC n))] [] (H) rfl ⟨rfl, trivial⟩ trivial (fun _ _ h => h) rfl) ?_
 refine sR (sB ?_)
 refine sR (sM ?_)
 refine SeqK.q (q_geq rfl rfl rfl) rfl rfl rfl ?_
 refine Z19 (fun g5 => ?_) (fun g5 => ?_)
 ·
  refine Z13 ?_
  refine SeqK.on (q_leq rfl rfl rfl) rfl rfl rfl rfl rfl ?_
  refine Z4 ?_
  refine sB ?_
  refine AW.ret ?_
  exact f1 (q := ⟨bCe (by first | exact dI ⟨fun h => ⟨by omega, h⟩, fun h => h.2⟩ | exact dF (fun h => by omega)), rfl⟩)
 iterate 2 refine SeqK.off rfl rfl rfl rfl rfl rfl ?_
 refine Z7 ?_
 refine sB ?_
 refine AW.ret ?_
 exact f1 (q := ⟨bCe (by first | exact dI ⟨fun h => ⟨by omega, h⟩, fun h => h.2⟩ | exact dF (fun h => by omega)), rfl⟩)

set_option maxHeartbeats 8000000 in
set_option maxRecDepth 20000 in
theorem literal_any (k n : Int) (u : ByteArray) (hs : u.size ≤ 1000000000000000) : Pure Tryz.prog 148 [vaC k n u] (.c (bC (decide (ltP k n u)))) := by
 intro H
 refine Spec.enter Tryz.func148 rfl ?_
 refine AW.wk (Wk.keep 30 [(0, .c (vaC k n u))] [] (H) rfl ⟨rfl, trivial⟩ trivial (fun _ _ h => h) rfl) ?_
 refine sR (Z16 (r := [_, _, _]) ?_)
 refine sB ?_
 refine AW.seq (sR (Z1 Fx.fl27_0 ?_))
 refine Z0 Fx.ty3 ?_
 refine Z3 (AW.block (sR (Z8 ?_)))
 refine sB ?_
 refine AW.condD rfl ?_ ?_ <;> intro h5
 ·
  refine sR (Z12 (r := .g [_, _, _]) Fx.ty27 ?_)
  refine Z34 (zs := [_, _, _]) (r := [_, _, _]) [(0, 1), (1, 1), (2, 1)] Fx.ze27 Fx.bp27 ?_
  refine SeqK.q (q_eqlG [.int .i64 k, .int .i64 n, .string u] [.int .i64 0, .int .i64 0, .string ⟨#[]⟩] rfl rfl rfl rfl rfl (by kernel_rfl) (fun w => eq25 _ _ _ _ _ _ w)) rfl rfl rfl ?_
  refine sB ?_
  refine AW.ret ?_
  exact f1 (q := ⟨bCe (by simp [ltP, *]), rfl⟩)
 refine sR (Z8 ?_)
 refine sB ?_
 refine AW.condD rfl ?_ ?_ <;> intro h10
 ·
  refine sR (Z1 Fx.fl27_2 ?_)
  refine Z0 Fx.ty9 ?_
  refine SeqK.q (q_eqlS rfl rfl rfl) rfl rfl rfl ?_
  refine Z19 (fun g15 => ?_) (fun g15 => ?_)
  ·
   refine Z6 Fx.fl27_1 ?_
   refine Z5 Fx.ty2 ?_
   refine SeqK.on (q_call _ rfl Fx.fn155 rfl (within_num n) rfl) rfl rfl rfl rfl rfl ?_
   refine Z4 ?_
   refine sB ?_
   refine AW.ret ?_
   exact f1 (q := ⟨bCe (by simp [ltP, *]), rfl⟩)
  iterate 3 refine SeqK.off rfl rfl rfl rfl rfl rfl ?_
  refine Z7 ?_
  refine sB ?_
  refine AW.ret ?_
  exact f1 (q := ⟨bCe (by simp [ltP, *]), rfl⟩)
 refine sR (Z8 ?_)
 refine sB ?_
 refine AW.condD rfl ?_ ?_ <;> intro h20
 ·
  refine sR (Z1 Fx.fl27_1 ?_)
  refine Z0 Fx.ty2 ?_
  refine Z8 ?_
  refine Z19 (fun g25 => ?_) (fun g25 => ?_)
  ·
   refine Z6 Fx.fl27_2 ?_
   refine Z5 Fx.ty9 ?_
   refine SeqK.on (q_call _ rfl Fx.fn156 rfl (text_any u hs) rfl) rfl rfl rfl rfl rfl ?_
   refine Z4 ?_
   refine sB ?_
   refine AW.ret ?_
   exact f1 (q := ⟨bCe (by simp [ltP, *]), rfl⟩)
  iterate 3 refine SeqK.off rfl rfl rfl rfl rfl rfl ?_
  refine Z7 ?_
  refine sB ?_
  refine AW.ret ?_
  exact f1 (q := ⟨bCe (by simp [ltP, *]), rfl⟩)
 refine AW.skip (sR (sB ?_))
 refine AW.ret ?_
 exact f1 (q := ⟨bCe (by simp [ltP, *]), rfl⟩)

set_option maxHeartbeats 8000000 in
set_option maxRecDepth 20000 in
theorem rliteral_any (k n : Int) (u : ByteArray) (hs : u.size ≤ 1000000000000000) : Pure Tryz.prog 140 [vaC k n u] (.c (bC (decide (ltP k n u)))) := by
 intro H
 refine Spec.enter Tryz.func140 rfl ?_
 refine AW.wk (Wk.keep 35 [(0, .c (vaC k n u))] [] (H) rfl ⟨rfl, trivial⟩ trivial (fun _ _ h => h) rfl) ?_
 refine sR (Z16 (r := [_, _, _]) ?_)
 refine sB ?_
 refine AW.seq (sR (Z1 Fx.fl27_0 ?_))
 refine Z0 Fx.ty3 ?_
 refine Z3 (AW.block (sR (Z8 ?_)))
 refine sB ?_
 refine AW.condD rfl ?_ ?_ <;> intro h5
 ·
  refine sR (Z1 Fx.fl27_1 ?_)
  refine Z0 Fx.ty2 ?_
  refine Z8 ?_
  refine Z19 (fun g10 => ?_) (fun g10 => ?_)
  ·
   refine Z6 Fx.fl27_2 ?_
   refine Z5 Fx.ty9 ?_
   refine SeqK.on (q_eqlS rfl rfl rfl) rfl rfl rfl rfl rfl ?_
   refine Z4 ?_
   refine sB ?_
   refine AW.ret ?_
   exact f1 (q := ⟨bCe (by simp [ltP, *]), rfl⟩)
  iterate 3 refine SeqK.off rfl rfl rfl rfl rfl rfl ?_
  refine Z7 ?_
  refine sB ?_
  refine AW.ret ?_
  exact f1 (q := ⟨bCe (by simp [ltP, *]), rfl⟩)
 refine sR (Z8 ?_)
 refine sB ?_
 refine AW.condD rfl ?_ ?_ <;> intro h15
 ·
  refine sR (Z1 Fx.fl27_1 ?_)
  refine Z0 Fx.ty2 ?_
  refine Z22 Fx.fn152 (number_num n) ?_
  refine SeqK.qB (q_mvC rfl rfl) rfl rfl rfl (fun g20 => ?_) (fun g20 => ?_)
  ·
   refine Z6 Fx.fl27_2 ?_
   refine Z5 Fx.ty9 ?_
   refine SeqK.on (q_eqlS rfl rfl rfl) rfl rfl rfl rfl rfl ?_
   refine Z4 ?_
   refine sB ?_
   refine AW.ret ?_
   exact f1 (q := ⟨bCe (by simp [ltP, *]), rfl⟩)
  iterate 3 refine SeqK.off rfl rfl rfl rfl rfl rfl ?_
  refine Z7 ?_
  refine sB ?_
  refine AW.ret ?_
  exact f1 (q := ⟨bCe (by simp [ltP, *]), rfl⟩)
 refine sR (Z8 ?_)
 refine sB ?_
 refine AW.condD rfl ?_ ?_ <;> intro h25
 ·
  refine sR (Z1 Fx.fl27_1 ?_)
  refine Z0 Fx.ty2 ?_
  refine Z8 ?_
  refine Z19 (fun g30 => ?_) (fun g30 => ?_)
  ·
   refine Z6 Fx.fl27_2 ?_
   refine Z5 Fx.ty9 ?_
   refine SeqK.on (q_call _ rfl Fx.fn153 rfl (rtext_any u hs) rfl) rfl rfl rfl rfl rfl ?_
   refine Z4 ?_
   refine sB ?_
   refine AW.ret ?_
   exact f1 (q := ⟨bCe (by simp [ltP, *]), rfl⟩)
  iterate 3 refine SeqK.off rfl rfl rfl rfl rfl rfl ?_
  refine Z7 ?_
  refine sB ?_
  refine AW.ret ?_
  exact f1 (q := ⟨bCe (by simp [ltP, *]), rfl⟩)
 refine AW.skip (sR (sB ?_))
 refine AW.ret ?_
 exact f1 (q := ⟨bCe (by simp [ltP, *]), rfl⟩)

end Go.Proofs.YtihlgigaejhilaaGreatDoor.W
namespace Go.Proofs.YtihlgigaejhilaaGreatDoor.W
open Go.RowKit E
/-! names: keywords as a list and as a text with spaces -/
theorem idx_inf : ∀ (a b : List UInt8), 0 ≤ Lib.index a b ↔ ∃ x y, a = x ++ b ++ y
  | [], b => by
    rw [Lib.index]
    cases b with
    | nil => simp
    | cons c r => simp
  | c :: a, b => by
    rw [Lib.index]
    by_cases h : b.isPrefixOf (c :: a) = true
    · rw [if_pos h]
      obtain ⟨y, hy⟩ := List.isPrefixOf_iff_prefix.1 h
      exact ⟨fun _ => ⟨[], y, by rw [List.nil_append, hy]⟩, fun _ => Int.le_refl _⟩
    · rw [if_neg h]
      have ih := idx_inf a b
      have hg := Lib.index_ge a b
      by_cases h2 : (Lib.index a b == -1) = true
      · rw [if_pos h2]
        have h3 : Lib.index a b = -1 := by simpa using h2
        refine ⟨fun h => absurd h (by decide), fun ⟨x, y, e⟩ => ?_⟩
        cases x with
        | nil => exact absurd (List.isPrefixOf_iff_prefix.2 ⟨y, by rw [e]; simp⟩) h
        | cons d x =>
          have := ih.2 ⟨x, y, by simp at e; simp [e.2]⟩
          omega
      · rw [if_neg h2]
        have h3 : Lib.index a b ≠ -1 := by simpa using h2
        refine ⟨fun _ => ?_, fun _ => by omega⟩
        obtain ⟨x, y, e⟩ := ih.1 (by omega)
        exact ⟨c :: x, y, by rw [e]; simp⟩
theorem sep_eq : ∀ {u w a b : List UInt8}, 32 ∉ u → 32 ∉ w → u ++ 32 :: a = w ++ 32 :: b → u = w
  | [], [], _, _, _, _, _ => rfl
  | [], x :: w, _, _, _, hw, h => by simp at h; exact absurd (by simp [h.1]) hw
  | x :: u, [], _, _, hu, _, h => by simp at h; exact absurd (by simp [h.1]) hu
  | x :: u, y :: w, _, _, hu, hw, h => by
    simp at h
    rw [h.1, sep_eq (u := u) (w := w) (fun k => hu (by simp [k])) (fun k => hw (by simp [k])) h.2]
def KW : List (List UInt8) → List UInt8
  | [] => [32]
  | w :: r => 32 :: (w ++ KW r)
theorem KW_32 : ∀ l, ∃ t, KW l = 32 :: t
  | [] => ⟨[], rfl⟩
  | w :: r => ⟨_, rfl⟩
theorem kw_inf {u : List UInt8} (hu : 32 ∉ u) (hn : u ≠ []) : ∀ ws : List (List UInt8), (∀ w ∈ ws, 32 ∉ w) → ((∃ x y, KW ws = x ++ (32 :: (u ++ [32])) ++ y) ↔ u ∈ ws)
  | [], _ => by
    refine ⟨fun ⟨x, y, e⟩ => ?_, fun h => by simp at h⟩
    have h1 := congrArg List.length e
    have h2 : 0 < u.length := List.length_pos_iff.2 hn
    simp [KW] at h1; omega
  | w :: r, hw => by
    have ih := kw_inf hu hn r fun x hx => hw x (by simp [hx])
    have hw0 := hw w (by simp)
    obtain ⟨t, ht⟩ := KW_32 r
    constructor
    · rintro ⟨x, y, e⟩
      rw [KW] at e
      cases x with
      | nil =>
        simp at e
        rw [ht] at e
        have h1 : u ++ 32 :: y = w ++ 32 :: t := by rw [e]
        rw [sep_eq hu hw0 h1]; simp
      | cons d x =>
        simp at e
        refine List.mem_cons_of_mem _ (ih.1 ?_)
        rcases List.append_eq_append_iff.1 e.2 with ⟨c, h1, h2⟩ | ⟨c, h1, h2⟩
        · exact ⟨c, y, by rw [h2]; simp⟩
        · cases c with
          | nil => exact ⟨[], y, by simp at h2; rw [← h2]; simp⟩
          | cons q c =>
            simp at h2
            exact absurd (by rw [h1, ← h2.1]; simp) hw0
    · intro h
      rcases List.mem_cons.1 h with rfl | h
      · exact ⟨[], t, by rw [KW, ht]; simp⟩
      · obtain ⟨x, y, e⟩ := ih.2 h
        exact ⟨32 :: (w ++ x), y, by rw [KW, e]; simp⟩

def kwds : List ByteArray := [⟨#[97, 110, 100]⟩, ⟨#[97, 115]⟩, ⟨#[97, 115, 99]⟩, ⟨#[98, 101, 103, 105, 110]⟩, ⟨#[98, 101, 116, 119, 101, 101, 110]⟩, ⟨#[98, 121]⟩, ⟨#[99, 104, 101, 99, 107]⟩, ⟨#[99, 111, 109, 109, 105, 116]⟩, ⟨#[99, 111, 117, 110, 116]⟩, ⟨#[99, 114, 101, 97, 116, 101]⟩, ⟨#[100, 101, 108, 101, 116, 101]⟩, ⟨#[100, 101, 115, 99]⟩, ⟨#[102, 111, 114, 101, 105, 103, 110]⟩, ⟨#[102, 114, 111, 109]⟩, ⟨#[103, 114, 111, 117, 112]⟩, ⟨#[105, 110]⟩, ⟨#[105, 110, 115, 101, 114, 116]⟩, ⟨#[105, 110, 116, 101, 103, 101, 114]⟩, ⟨#[105, 110, 116, 111]⟩, ⟨#[105, 115]⟩, ⟨#[106, 111, 105, 110]⟩, ⟨#[107, 101, 121]⟩, ⟨#[108, 101, 110, 103, 116, 104]⟩, ⟨#[108, 105, 107, 101]⟩, ⟨#[108, 105, 109, 105, 116]⟩, ⟨#[109, 97, 120]⟩, ⟨#[109, 105, 110]⟩, ⟨#[110, 111, 116]⟩, ⟨#[110, 117, 108, 108]⟩, ⟨#[111, 110]⟩, ⟨#[111, 114]⟩, ⟨#[111, 114, 100, 101, 114]⟩, ⟨#[112, 114, 105, 109, 97, 114, 121]⟩, ⟨#[114, 101, 102, 101, 114, 101, 110, 99, 101, 115]⟩, ⟨#[114, 101, 108, 101, 97, 115, 101]⟩, ⟨#[114, 111, 108, 108, 98, 97, 99, 107]⟩, ⟨#[115, 97, 118, 101, 112, 111, 105, 110, 116]⟩, ⟨#[115, 101, 108, 101, 99, 116]⟩, ⟨#[115, 101, 116]⟩, ⟨#[115, 117, 109]⟩, ⟨#[116, 97, 98, 108, 101]⟩, ⟨#[116, 101, 120, 116]⟩, ⟨#[116, 111]⟩, ⟨#[117, 110, 105, 113, 117, 101]⟩, ⟨#[117, 112, 100, 97, 116, 101]⟩, ⟨#[118, 97, 108, 117, 101, 115]⟩, ⟨#[119, 104, 101, 114, 101]⟩]
theorem kwd_KW : kwd.data.toList = KW (kwds.map (·.data.toList)) := by decide +kernel
theorem kwds_sp : ∀ w ∈ kwds.map (·.data.toList), (32 : UInt8) ∉ w := by decide +kernel
def memD {α : Type} [DecidableEq α] (a : α) : ∀ l : List α, Decidable (a ∈ l)
  | [] => isFalse (by simp)
  | b :: r => match decEq a b with
    | isTrue e => isTrue (by simp [e])
    | isFalse e => match memD a r with
      | isTrue h => isTrue (by simp [h])
      | isFalse h => isFalse (by simp [e, h])
instance (u : ByteArray) : Decidable (u ∈ kwds) := memD u kwds
theorem ba_empty {u : ByteArray} (h : u.size = 0) : u = ⟨#[]⟩ := by
  cases u
  congr 1
  exact Array.eq_empty_of_size_eq_zero h
abbrev nmQ (u : ByteArray) : Prop := (1 ≤ u.size ∧ u.size ≤ 24) ∧ (∀ h : 0 < u.data.toList.length, 97 ≤ u.data.toList[0].toNat ∧ u.data.toList[0].toNat ≤ 122) ∧ (∀ j (h : j < u.data.toList.length), chrP u.data.toList[j]) ∧ u ∉ kwds
instance : DecidablePred nmQ := fun u => @instDecidableAnd _ _ inferInstance (@instDecidableAnd _ _ inferInstance (@instDecidableAnd _ _ inferInstance inferInstance))
theorem con_kw {u : ByteArray} (h0 : 1 ≤ u.size) (h : ∀ j (h : j < u.data.toList.length), chrP u.data.toList[j]) : Lib.contains kwd.data.toList (spc ++ u ++ spc).data.toList = true ↔ u ∈ kwds := by
  have hu : (32 : UInt8) ∉ u.data.toList := fun hm => by
    obtain ⟨j, hj, e⟩ := List.mem_iff_getElem.1 hm
    have h1 : (97 ≤ u.data.toList[j].toNat ∧ u.data.toList[j].toNat ≤ 122) ∨ (48 ≤ u.data.toList[j].toNat ∧ u.data.toList[j].toNat ≤ 57) ∨ u.data.toList[j].toNat = 95 := h j hj
    rw [e] at h1
    have h2 : (32 : UInt8).toNat = 32 := rfl
    omega
  have hn : u.data.toList ≠ [] := fun e => by
    have := ba_len u
    rw [e] at this
    have h3 : (0 : Nat) = u.size := this
    omega
  have e1 : (spc ++ u ++ spc).data.toList = 32 :: (u.data.toList ++ [32]) := by simp [spc]
  rw [Lib.contains, decide_eq_true_eq, idx_inf, e1, kwd_KW, kw_inf hu hn _ kwds_sp, List.mem_map]
  constructor
  · rintro ⟨w, hw, e⟩
    have : w = u := by
      cases w; cases u
      congr 1
      exact Array.toList_inj.1 e
    rw [← this]; exact hw
  · intro hm; exact ⟨u, hm, rfl⟩
theorem contains_tab (u : ByteArray) (hu : u.size ≤ 1000000) : Pure Tryz.prog 154 [sC kwd, sC (spc ++ u ++ spc)] (.c (bC (Lib.contains kwd.data.toList (spc ++ u ++ spc).data.toList))) :=
  Pure.of_tab [.string kwd, .string (spc ++ u ++ spc)] (fun w hw => by
    obtain ⟨m, hm⟩ := hw.int (g := 0) rfl
    exact Tryz.strings_Contains kwd (spc ++ u ++ spc) m w (by rw [kwd_size]; omega) hm) fun c => .t (.v rfl)

set_option maxHeartbeats 8000000 in
set_option maxRecDepth 20000 in
theorem aname_any (u : ByteArray) (hu : u.size ≤ 1000000000000000) : Pure Tryz.prog 147 [sC u] (.c (bC (decide (nmQ u)))) := by
 intro H
 refine Spec.enter Tryz.func147 rfl ?_
 refine AW.wk (Wk.keep 55 [(0, .c (sC u))] [] (H) rfl ⟨rfl, trivial⟩ trivial (fun _ _ h => h) rfl) ?_
 refine sR (sB ?_)
 refine AW.seq (AW.seq ?_)
 have hl := ba_len u
 have e1 : spc.size = 1 := rfl
 have e2 : (⟨#[32]⟩ : ByteArray).size = 1 := rfl
 refine AW.reg (sM ?_)
 refine SeqK.q (q_eqlS rfl rfl rfl) rfl rfl rfl ?_
 refine Z19 (fun g7 => ?_) (fun g7 => ?_)
 ·
  iterate 3 refine SeqK.off rfl rfl rfl rfl rfl rfl ?_
  refine Z4 ?_
  refine sM ?_
  iterate 3 refine SeqK.off rfl rfl rfl rfl rfl rfl ?_
  refine Z4 ?_
  refine sM ?_
  iterate 3 refine SeqK.off rfl rfl rfl rfl rfl rfl ?_
  refine Z4 ?_
  refine sM ?_
  iterate 4 refine SeqK.off rfl rfl rfl rfl rfl rfl ?_
  refine Z4 ?_
  refine Z3 (AW.condT rfl ?_)
  refine sR (sB ?_)
  refine AW.ret ?_
  exact f1 (q := ⟨bCe (dF (fun h => by first | exact absurd h.1.1 (by rw [g7]; decide) | (first | (have := h.1; omega) | (have h9 := h.2.1 h0; omega) | exact h.2.2.2 ((con_kw h.1.1 h.2.2.1).1 h27)))), rfl⟩)
 refine Z13 ?_
 refine SeqK.on (q_lenS rfl Fx.un9 rfl) rfl rfl rfl rfl rfl ?_
 refine Z35 ?_
 refine Z7 ?_
 refine Z19 (fun g12 => ?_) (fun g12 => ?_)
 ·
  iterate 3 refine SeqK.off rfl rfl rfl rfl rfl rfl ?_
  refine Z4 ?_
  refine sM ?_
  iterate 3 refine SeqK.off rfl rfl rfl rfl rfl rfl ?_
  refine Z4 ?_
  refine sM ?_
  iterate 4 refine SeqK.off rfl rfl rfl rfl rfl rfl ?_
  refine Z4 ?_
  refine Z3 (AW.condT rfl ?_)
  refine sR (sB ?_)
  refine AW.ret ?_
  exact f1 (q := ⟨bCe (dF (fun h => by first | exact absurd h.1.1 (by rw [g7]; decide) | (first | (have := h.1; omega) | (have h9 := h.2.1 h0; omega) | exact h.2.2.2 ((con_kw h.1.1 h.2.2.1).1 h27)))), rfl⟩)
 have h0 : 0 < u.data.toList.length := by rw [hl]; by_cases hz : u.size = 0; exact absurd (ba_empty hz) g7; omega
 refine Z13 ?_
 refine Z41 Fx.un9 (idx_ba (i := 0) h0) ?_
 refine SeqK.on (q_lss rfl rfl rfl) rfl rfl rfl rfl rfl ?_
 refine Z7 ?_
 refine Z19 (fun g17 => ?_) (fun g17 => ?_)
 ·
  iterate 3 refine SeqK.off rfl rfl rfl rfl rfl rfl ?_
  refine Z4 ?_
  refine sM ?_
  iterate 4 refine SeqK.off rfl rfl rfl rfl rfl rfl ?_
  refine Z4 ?_
  refine Z3 (AW.condT rfl ?_)
  refine sR (sB ?_)
  refine AW.ret ?_
  exact f1 (q := ⟨bCe (dF (fun h => by first | exact absurd h.1.1 (by rw [g7]; decide) | (first | (have := h.1; omega) | (have h9 := h.2.1 h0; omega) | exact h.2.2.2 ((con_kw h.1.1 h.2.2.1).1 h27)))), rfl⟩)
 refine Z13 ?_
 refine Z41 Fx.un9 (idx_ba (i := 0) h0) ?_
 refine Z35 ?_
 refine Z7 ?_
 refine Z19 (fun g22 => ?_) (fun g22 => ?_)
 ·
  iterate 4 refine SeqK.off rfl rfl rfl rfl rfl rfl ?_
  refine Z4 ?_
  refine Z3 (AW.condT rfl ?_)
  refine sR (sB ?_)
  refine AW.ret ?_
  exact f1 (q := ⟨bCe (dF (fun h => by first | exact absurd h.1.1 (by rw [g7]; decide) | (first | (have := h.1; omega) | (have h9 := h.2.1 h0; omega) | exact h.2.2.2 ((con_kw h.1.1 h.2.2.1).1 h27)))), rfl⟩)
 refine Z13 ?_
 refine SeqK.on (q_addS rfl rfl rfl (by omega)) rfl rfl rfl rfl rfl ?_
 refine SeqK.on (q_addS rfl rfl rfl (by simp only [ByteArray.size_append]; omega)) rfl rfl rfl rfl rfl ?_
 refine SeqK.on (q_call _ rfl Fx.fn154 rfl (contains_tab u (by omega)) rfl) rfl rfl rfl rfl rfl ?_
 refine Z7 ?_
 refine Z3 ?_
 refine AW.cond _ rfl (fun h27 => ?_) (fun h27 => ?_)
 ·
  refine sR (sB ?_)
  refine AW.ret ?_
  exact f1 (q := ⟨bCe (dF (fun h => by first | exact absurd h.1.1 (by rw [g7]; decide) | (first | (have := h.1; omega) | (have h9 := h.2.1 h0; omega) | exact h.2.2.2 ((con_kw h.1.1 h.2.2.1).1 h27)))), rfl⟩)
 refine AW.skip (AW.seq (AW.seq ?_))
 have hsz : 1 ≤ u.size ∧ u.size ≤ 24 := by omega
 have hfst : 97 ≤ u.data.toList[0].toNat ∧ u.data.toList[0].toNat ≤ 122 := by omega
 refine AW.reg (sM ?_)
 refine SeqK.q (q_lenS rfl Fx.un9 rfl) rfl rfl rfl ?_
 refine sM ?_
 refine Z3 (AW.block ?_)
 refine AW.loop (fun (i : Nat) s => (i ≤ u.data.toList.length ∧ ∀ j (h : j < u.data.toList.length), j < i → chrP u.data.toList[j]) ∧ s = ⟨55, sp [(0, .c (sC u)), (2, .c (bC false)), (29, iX .i64 ((u.data.toList.length : Nat) : Int)), (30, iX .i64 ((i : Nat) : Int))], lv [], H⟩) (fun i => u.data.toList.length - i) 0 ⟨_, by exact Wk.keep 55 _ _ _ rfl ⟨rfl, rfl, rfl, rfl, trivial⟩ trivial (fun _ _ h => h) rfl, ⟨Nat.zero_le _, up0⟩, rfl⟩ (fun i s hs => ?_)
 obtain ⟨⟨hi0, hU⟩, rfl⟩ := hs
 refine sR (Z10 ?_)
 refine Z3 (AW.seq ?_)
 refine AW.condD rfl ?_ ?_ <;> intro h31
 ·
  have hi : i < u.data.toList.length := by omega
  refine AW.skip (AW.seq (AW.block (sR (sM ?_))))
  refine sB ?_
  refine sR (sM ?_)
  refine sM ?_
  refine SeqK.q (q_indexS _ rfl Fx.un9 rfl rfl (by omega) (idx_ba hi)) rfl rfl rfl ?_
  refine sB ?_
  refine sR (sM ?_)
  refine Z49 ?_
  refine Z19 (fun g38 => ?_) (fun g38 => ?_)
  ·
   refine Z13 ?_
   refine SeqK.on (q_lss rfl rfl rfl) rfl rfl rfl rfl rfl ?_
   refine SeqK.onD (q_mvC rfl rfl) rfl rfl rfl rfl rfl (fun g41 => ?_) (fun g41 => ?_)
   ·
    iterate 2 refine SeqK.off rfl rfl rfl rfl rfl rfl ?_
    refine Z42 ?_
    refine Z4 ?_
    refine sM ?_
    refine Z13 ?_
    refine SeqK.on (q_lss rfl rfl rfl) rfl rfl rfl rfl rfl ?_
    refine SeqK.onD (q_mvC rfl rfl) rfl rfl rfl rfl rfl (fun g49 => ?_) (fun g49 => ?_)
    ·
     iterate 2 refine SeqK.off rfl rfl rfl rfl rfl rfl ?_
     refine Z42 ?_
     refine Z4 ?_
     refine Z3 (AW.condT rfl ?_)
     refine sR (sB ?_)
     refine AW.ret ?_
     exact f1 (q := ⟨bCe (dF (fun h => by have h9 : (97 ≤ u.data.toList[i].toNat ∧ u.data.toList[i].toNat ≤ 122) ∨ (48 ≤ u.data.toList[i].toNat ∧ u.data.toList[i].toNat ≤ 57) ∨ u.data.toList[i].toNat = 95 := h.2.2.1 i hi; omega)), rfl⟩)
    refine Z13 ?_
    refine Z35 ?_
    refine Z46 ?_
    refine Z4 ?_
    refine Z3 ?_
    refine AW.condD rfl ?_ ?_ <;> intro h53
    ·
     refine sR (sB ?_)
     refine AW.ret ?_
     exact f1 (q := ⟨bCe (dF (fun h => by have h9 : (97 ≤ u.data.toList[i].toNat ∧ u.data.toList[i].toNat ≤ 122) ∨ (48 ≤ u.data.toList[i].toNat ∧ u.data.toList[i].toNat ≤ 57) ∨ u.data.toList[i].toNat = 95 := h.2.2.1 i hi; omega)), rfl⟩)
    refine AW.skip (AW.reg (Z2 ?_))
    refine sM ?_
    refine Z3 ?_
    exact ⟨i + 1, _, by exact Wk.keep 55 _ _ _ rfl ⟨rfl, rfl, rfl, rfl, trivial⟩ trivial (fun _ _ h => h) rfl, by omega, ⟨hi, upS hi hU (by show (_ ∧ _) ∨ (_ ∧ _) ∨ _ = _; omega)⟩, rfl⟩
   refine Z13 ?_
   refine Z35 ?_
   refine Z46 ?_
   refine Z4 ?_
   refine Z19 (fun g46 => ?_) (fun g46 => ?_)
   ·
    refine Z13 ?_
    refine SeqK.on (q_lss rfl rfl rfl) rfl rfl rfl rfl rfl ?_
    refine SeqK.onD (q_mvC rfl rfl) rfl rfl rfl rfl rfl (fun g49 => ?_) (fun g49 => ?_)
    ·
     iterate 2 refine SeqK.off rfl rfl rfl rfl rfl rfl ?_
     refine Z42 ?_
     refine Z4 ?_
     refine Z3 (AW.condT rfl ?_)
     refine sR (sB ?_)
     refine AW.ret ?_
     exact f1 (q := ⟨bCe (dF (fun h => by have h9 : (97 ≤ u.data.toList[i].toNat ∧ u.data.toList[i].toNat ≤ 122) ∨ (48 ≤ u.data.toList[i].toNat ∧ u.data.toList[i].toNat ≤ 57) ∨ u.data.toList[i].toNat = 95 := h.2.2.1 i hi; omega)), rfl⟩)
    refine Z13 ?_
    refine Z35 ?_
    refine Z46 ?_
    refine Z4 ?_
    refine Z3 ?_
    refine AW.condD rfl ?_ ?_ <;> intro h53
    ·
     refine sR (sB ?_)
     refine AW.ret ?_
     exact f1 (q := ⟨bCe (dF (fun h => by have h9 : (97 ≤ u.data.toList[i].toNat ∧ u.data.toList[i].toNat ≤ 122) ∨ (48 ≤ u.data.toList[i].toNat ∧ u.data.toList[i].toNat ≤ 57) ∨ u.data.toList[i].toNat = 95 := h.2.2.1 i hi; omega)), rfl⟩)
    refine AW.skip (AW.reg (Z2 ?_))
    refine sM ?_
    refine Z3 ?_
    exact ⟨i + 1, _, by exact Wk.keep 55 _ _ _ rfl ⟨rfl, rfl, rfl, rfl, trivial⟩ trivial (fun _ _ h => h) rfl, by omega, ⟨hi, upS hi hU (by show (_ ∧ _) ∨ (_ ∧ _) ∨ _ = _; omega)⟩, rfl⟩
   iterate 3 refine SeqK.off rfl rfl rfl rfl rfl rfl ?_
   iterate 2 refine SeqK.offU rfl rfl rfl rfl rfl ?_
   refine SeqK.off rfl rfl rfl rfl rfl rfl ?_
   refine Z7 ?_
   refine Z3 (AW.condF rfl ?_)
   refine AW.skip (AW.reg (Z2 ?_))
   refine sM ?_
   refine Z3 ?_
   exact ⟨i + 1, _, by exact Wk.keep 55 _ _ _ rfl ⟨rfl, rfl, rfl, rfl, trivial⟩ trivial (fun _ _ h => h) rfl, by omega, ⟨hi, upS hi hU (by show (_ ∧ _) ∨ (_ ∧ _) ∨ _ = _; omega)⟩, rfl⟩
  iterate 3 refine SeqK.off rfl rfl rfl rfl rfl rfl ?_
  iterate 2 refine SeqK.offU rfl rfl rfl rfl rfl ?_
  refine SeqK.off rfl rfl rfl rfl rfl rfl ?_
  refine Z7 ?_
  refine sM ?_
  iterate 3 refine SeqK.off rfl rfl rfl rfl rfl rfl ?_
  iterate 2 refine SeqK.offU rfl rfl rfl rfl rfl ?_
  refine SeqK.off rfl rfl rfl rfl rfl rfl ?_
  refine Z7 ?_
  refine Z3 (AW.condF rfl ?_)
  refine AW.skip (AW.reg (Z2 ?_))
  refine sM ?_
  refine Z3 ?_
  exact ⟨i + 1, _, by exact Wk.keep 55 _ _ _ rfl ⟨rfl, rfl, rfl, rfl, trivial⟩ trivial (fun _ _ h => h) rfl, by omega, ⟨hi, upS hi hU (by show (_ ∧ _) ∨ (_ ∧ _) ∨ _ = _; omega)⟩, rfl⟩
 refine AW.exit ?_
 refine eth_e ?_
 refine eth_e ?_
 refine exit_here ?_
 refine AW.seq ?_
 have hA := upE hU (by omega)
 refine AW.reg (sB ?_)
 refine AW.ret ?_
 exact f1 (q := ⟨bCe (dT ⟨hsz, fun _ => hfst, hA, fun hk => by rw [(con_kw hsz.1 hA).2 hk] at h27; cases h27⟩), rfl⟩)

end Go.Proofs.YtihlgigaejhilaaGreatDoor.W
namespace Go.Proofs.YtihlgigaejhilaaGreatDoor.W
open Go.RowKit E
/-! names, by the reference -/
abbrev rQ (u : ByteArray) (j : Nat) (h : j < u.data.toList.length) : Prop := (97 ≤ u.data.toList[j].toNat ∧ u.data.toList[j].toNat ≤ 122) ∨ (j ≠ 0 ∧ (u.data.toList[j].toNat = 95 ∨ (48 ≤ u.data.toList[j].toNat ∧ u.data.toList[j].toNat ≤ 57)))
theorem nm_iff {u : ByteArray} : nmQ u ↔ (∀ j (h : j < u.data.toList.length), rQ u j h) ∧ (1 ≤ u.size ∧ u.size ≤ 24) ∧ u ∉ kwds := by
  constructor
  · rintro ⟨h1, h2, h3, h4⟩
    refine ⟨fun j h => ?_, h1, h4⟩
    by_cases hj : j = 0
    · subst hj; exact .inl (h2 h)
    · have h5 : (97 ≤ u.data.toList[j].toNat ∧ u.data.toList[j].toNat ≤ 122) ∨ (48 ≤ u.data.toList[j].toNat ∧ u.data.toList[j].toNat ≤ 57) ∨ u.data.toList[j].toNat = 95 := h3 j h
      show (_ ∧ _) ∨ (_ ∧ (_ ∨ (_ ∧ _)))
      omega
  · rintro ⟨h1, h2, h4⟩
    refine ⟨h2, fun h => ?_, fun j h => ?_, h4⟩
    · have h5 : (97 ≤ u.data.toList[0].toNat ∧ u.data.toList[0].toNat ≤ 122) ∨ ((0 : Nat) ≠ 0 ∧ (u.data.toList[0].toNat = 95 ∨ (48 ≤ u.data.toList[0].toNat ∧ u.data.toList[0].toNat ≤ 57))) := h1 0 h
      omega
    · have h5 : (97 ≤ u.data.toList[j].toNat ∧ u.data.toList[j].toNat ≤ 122) ∨ (j ≠ 0 ∧ (u.data.toList[j].toNat = 95 ∨ (48 ≤ u.data.toList[j].toNat ∧ u.data.toList[j].toNat ≤ 57))) := h1 j h
      show (_ ∧ _) ∨ (_ ∧ _) ∨ _ = _
      omega
theorem kwds_len : kwds.length = 47 := rfl

set_option maxHeartbeats 8000000 in
set_option maxRecDepth 20000 in
theorem keyword_any (u : ByteArray) : Pure Tryz.prog 151 [sC u] (.c (bC (decide (u ∈ kwds)))) := by
 have hk47 := kwds_len
 intro H
 refine Spec.enter Tryz.func151 rfl ?_
 refine AW.wk (Wk.keep 18 [(0, .c (sC u))] [] (H) rfl ⟨rfl, trivial⟩ trivial (fun _ _ h => h) rfl) ?_
 refine sR (sB ?_)
 refine sR (Z38 Fx.el25 ?_)
 refine sB ?_
 refine AW.xw 3 rfl (XW.es (es' := kwds.map sT) rfl) ?_
 refine AW.seq (sR (sB ?_))
 refine AW.block ?_
 refine AW.loop (fun (i : Nat) s => (i ≤ kwds.length ∧ ∀ j (h : j < kwds.length), j < i → kwds[j] ≠ u) ∧ s = ⟨18, sp [(0, .c (sC u)), (2, .c (bC false)), (3, .c (.a (.t (.sl .un 1 (kwds.map sT))))), (4, iX .i64 ((i : Nat) : Int))], lv [], H⟩) (fun i => kwds.length - i) 0 ⟨_, by exact Wk.keep 18 _ _ _ rfl ⟨rfl, rfl, rfl, rfl, trivial⟩ trivial (fun _ _ h => h) rfl, ⟨Nat.zero_le _, up0⟩, rfl⟩ (fun i s hs => ?_)
 obtain ⟨⟨hi0, hU⟩, rfl⟩ := hs
 refine AW.seq (sR (sM ?_))
 refine sM ?_
 refine Z14 Fx.un25 ?_
 refine Z10 ?_
 refine Z3 ?_
 refine AW.condD rfl ?_ ?_ <;> intro h9
 ·
  have hi : i < kwds.length := by rw [List.length_map] at h9; omega
  refine AW.skip (AW.seq (AW.block (sR (sM ?_))))
  refine sM ?_
  refine Z9 Fx.sl25 (idx_map (f := sT) hi) ?_
  refine Z11 (.a _) Fx.ty9 ?_
  refine sM ?_
  refine SeqK.q (q_eqlS rfl rfl rfl) rfl rfl rfl ?_
  refine Z3 ?_
  refine AW.condD rfl ?_ ?_ <;> intro h17
  ·
   refine sR (sB ?_)
   refine AW.ret ?_
   exact f1 (q := ⟨bCe (dT (h17 ▸ List.getElem_mem hi)), rfl⟩)
  refine AW.skip (AW.reg (sM ?_))
  refine Z2 ?_
  refine sB ?_
  exact ⟨i + 1, _, by exact Wk.keep 18 _ _ _ rfl ⟨rfl, rfl, rfl, rfl, trivial⟩ trivial (fun _ _ h => h) rfl, by omega, ⟨hi, upS (Q := fun j h => kwds[j] ≠ u) hi hU h17⟩, rfl⟩
 refine AW.exit ?_
 refine eth_e ?_
 refine eth_e ?_
 refine exit_here ?_
 refine sR (sB ?_)
 refine AW.ret ?_
 exact f1 (q := ⟨bCe (dF (fun h => by obtain ⟨j, hj, e⟩ := List.mem_iff_getElem.1 h; exact upE hU (by rw [List.length_map] at h9; omega) j hj e)), rfl⟩)

set_option maxHeartbeats 8000000 in
set_option maxRecDepth 20000 in
theorem rname_any (u : ByteArray) (hu : u.size ≤ 1000000000000000) : Pure Tryz.prog 139 [sC u] (.c (bC (decide (nmQ u)))) := by
 have hl := ba_len u
 intro H
 refine Spec.enter Tryz.func139 rfl ?_
 refine AW.wk (Wk.keep 58 [(0, .c (sC u))] [] (H) rfl ⟨rfl, trivial⟩ trivial (fun _ _ h => h) rfl) ?_
 refine sR (sB ?_)
 refine AW.seq (sR (sB ?_))
 refine AW.block ?_
 refine AW.loop (fun (i : Nat) s => (i ≤ u.data.toList.length ∧ ∀ j (h : j < u.data.toList.length), j < i → rQ u j h) ∧ s = ⟨58, sp [(0, .c (sC u)), (2, .c (bC false)), (3, iX .i64 ((i : Nat) : Int))], lv [], H⟩) (fun i => u.data.toList.length - i) 0 ⟨_, by exact Wk.keep 58 _ _ _ rfl ⟨rfl, rfl, rfl, trivial⟩ trivial (fun _ _ h => h) rfl, ⟨Nat.zero_le _, up0⟩, rfl⟩ (fun i s hs => ?_)
 obtain ⟨⟨hi0, hU⟩, rfl⟩ := hs
 refine AW.seq (sR (sM ?_))
 refine sM ?_
 refine SeqK.q (q_lenS rfl Fx.un9 rfl) rfl rfl rfl ?_
 refine Z10 ?_
 refine Z3 ?_
 refine AW.condD rfl ?_ ?_ <;> intro h8
 ·
  have hi : i < u.data.toList.length := by omega
  refine AW.skip (AW.seq (AW.block (sR (sM ?_))))
  refine sM ?_
  refine SeqK.q (q_indexS _ rfl Fx.un9 rfl rfl (by omega) (idx_ba hi)) rfl rfl rfl ?_
  refine SeqK.q (q_geq rfl rfl rfl) rfl rfl rfl ?_
  refine Z19 (fun g15 => ?_) (fun g15 => ?_)
  ·
   refine Z13 ?_
   refine Z13 ?_
   refine Z41 Fx.un9 (idx_ba hi) ?_
   refine SeqK.on (q_leq rfl rfl rfl) rfl rfl rfl rfl rfl ?_
   refine Z4 ?_
   refine sB ?_
   refine sR (sM ?_)
   refine Z33 ?_
   refine SeqK.qB (q_mvC rfl rfl) rfl rfl rfl (fun g23 => ?_) (fun g23 => ?_)
   ·
    have g23a := nd_t g23
    refine Z13 ?_
    refine Z44 ?_
    refine SeqK.onD (q_mvC rfl rfl) rfl rfl rfl rfl rfl (fun g26 => ?_) (fun g26 => ?_)
    ·
     iterate 5 refine SeqK.off rfl rfl rfl rfl rfl rfl ?_
     iterate 10 refine SeqK.offU rfl rfl rfl rfl rfl ?_
     refine SeqK.off rfl rfl rfl rfl rfl rfl ?_
     refine Z42 ?_
     refine Z4 ?_
     refine Z3 (AW.condT rfl ?_)
     refine sR (sB ?_)
     refine AW.ret ?_
     exact f1 (q := ⟨bCe (dF (fun h => by (have h5 : (97 ≤ u.data.toList[i].toNat ∧ u.data.toList[i].toNat ≤ 122) ∨ (i ≠ 0 ∧ (u.data.toList[i].toNat = 95 ∨ (48 ≤ u.data.toList[i].toNat ∧ u.data.toList[i].toNat ≤ 57))) := (nm_iff.1 h).1 i hi; omega))), rfl⟩)
    refine Z13 ?_
    refine Z13 ?_
    refine Z41 Fx.un9 (idx_ba hi) ?_
    refine SeqK.on (q_neq rfl rfl rfl) rfl rfl rfl rfl rfl ?_
    refine SeqK.onD (q_mvC rfl rfl) rfl rfl rfl rfl rfl (fun g31 => ?_) (fun g31 => ?_)
    ·
     refine Z13 ?_
     refine Z13 ?_
     refine Z41 Fx.un9 (idx_ba hi) ?_
     refine SeqK.on (q_lss rfl rfl rfl) rfl rfl rfl rfl rfl ?_
     refine SeqK.onD (q_mvC rfl rfl) rfl rfl rfl rfl rfl (fun g36 => ?_) (fun g36 => ?_)
     ·
      iterate 4 refine SeqK.off rfl rfl rfl rfl rfl rfl ?_
      refine Z42 ?_
      refine Z42 ?_
      refine Z46 ?_
      refine Z4 ?_
      refine Z3 (AW.condT rfl ?_)
      refine sR (sB ?_)
      refine AW.ret ?_
      exact f1 (q := ⟨bCe (dF (fun h => by (have h5 : (97 ≤ u.data.toList[i].toNat ∧ u.data.toList[i].toNat ≤ 122) ∨ (i ≠ 0 ∧ (u.data.toList[i].toNat = 95 ∨ (48 ≤ u.data.toList[i].toNat ∧ u.data.toList[i].toNat ≤ 57))) := (nm_iff.1 h).1 i hi; omega))), rfl⟩)
     refine Z13 ?_
     refine Z13 ?_
     refine Z41 Fx.un9 (idx_ba hi) ?_
     refine Z35 ?_
     refine Z46 ?_
     refine Z42 ?_
     refine Z46 ?_
     refine Z4 ?_
     refine Z3 ?_
     refine AW.condD rfl ?_ ?_ <;> intro h44
     ·
      refine sR (sB ?_)
      refine AW.ret ?_
      exact f1 (q := ⟨bCe (dF (fun h => by (have h5 : (97 ≤ u.data.toList[i].toNat ∧ u.data.toList[i].toNat ≤ 122) ∨ (i ≠ 0 ∧ (u.data.toList[i].toNat = 95 ∨ (48 ≤ u.data.toList[i].toNat ∧ u.data.toList[i].toNat ≤ 57))) := (nm_iff.1 h).1 i hi; omega))), rfl⟩)
     refine AW.skip (AW.reg (sM ?_))
     refine Z2 ?_
     refine sB ?_
     exact ⟨i + 1, _, by exact Wk.keep 58 _ _ _ rfl ⟨rfl, rfl, rfl, trivial⟩ trivial (fun _ _ h => h) rfl, by omega, ⟨hi, upS hi hU (by show (_ ∧ _) ∨ (_ ∧ (_ ∨ (_ ∧ _))); omega)⟩, rfl⟩
    iterate 5 refine SeqK.off rfl rfl rfl rfl rfl rfl ?_
    iterate 4 refine SeqK.offU rfl rfl rfl rfl rfl ?_
    refine SeqK.off rfl rfl rfl rfl rfl rfl ?_
    refine Z46 ?_
    refine Z46 ?_
    refine Z4 ?_
    refine Z3 (AW.condF rfl ?_)
    refine AW.skip (AW.reg (sM ?_))
    refine Z2 ?_
    refine sB ?_
    exact ⟨i + 1, _, by exact Wk.keep 58 _ _ _ rfl ⟨rfl, rfl, rfl, trivial⟩ trivial (fun _ _ h => h) rfl, by omega, ⟨hi, upS hi hU (by show (_ ∧ _) ∨ (_ ∧ (_ ∨ (_ ∧ _))); omega)⟩, rfl⟩
   have g23a := nd_f g23
   iterate 3 refine SeqK.off rfl rfl rfl rfl rfl rfl ?_
   iterate 16 refine SeqK.offU rfl rfl rfl rfl rfl ?_
   refine SeqK.off rfl rfl rfl rfl rfl rfl ?_
   refine Z7 ?_
   refine Z3 (AW.condF rfl ?_)
   refine AW.skip (AW.reg (sM ?_))
   refine Z2 ?_
   refine sB ?_
   exact ⟨i + 1, _, by exact Wk.keep 58 _ _ _ rfl ⟨rfl, rfl, rfl, trivial⟩ trivial (fun _ _ h => h) rfl, by omega, ⟨hi, upS hi hU (by show (_ ∧ _) ∨ (_ ∧ (_ ∨ (_ ∧ _))); omega)⟩, rfl⟩
  iterate 4 refine SeqK.off rfl rfl rfl rfl rfl rfl ?_
  refine Z7 ?_
  refine sB ?_
  refine sR (sM ?_)
  refine Z33 ?_
  refine sM ?_
  refine Z13 ?_
  refine Z44 ?_
  refine SeqK.onD (q_mvC rfl rfl) rfl rfl rfl rfl rfl (fun g26 => ?_) (fun g26 => ?_)
  ·
   iterate 5 refine SeqK.off rfl rfl rfl rfl rfl rfl ?_
   iterate 10 refine SeqK.offU rfl rfl rfl rfl rfl ?_
   refine SeqK.off rfl rfl rfl rfl rfl rfl ?_
   refine Z42 ?_
   refine Z4 ?_
   refine Z3 (AW.condT rfl ?_)
   refine sR (sB ?_)
   refine AW.ret ?_
   exact f1 (q := ⟨bCe (dF (fun h => by (have h5 : (97 ≤ u.data.toList[i].toNat ∧ u.data.toList[i].toNat ≤ 122) ∨ (i ≠ 0 ∧ (u.data.toList[i].toNat = 95 ∨ (48 ≤ u.data.toList[i].toNat ∧ u.data.toList[i].toNat ≤ 57))) := (nm_iff.1 h).1 i hi; omega))), rfl⟩)
  refine Z13 ?_
  refine Z13 ?_
  refine Z41 Fx.un9 (idx_ba hi) ?_
  refine SeqK.on (q_neq rfl rfl rfl) rfl rfl rfl rfl rfl ?_
  refine SeqK.onD (q_mvC rfl rfl) rfl rfl rfl rfl rfl (fun g31 => ?_) (fun g31 => ?_)
  ·
   refine Z13 ?_
   refine Z13 ?_
   refine Z41 Fx.un9 (idx_ba hi) ?_
   refine SeqK.on (q_lss rfl rfl rfl) rfl rfl rfl rfl rfl ?_
   refine SeqK.onD (q_mvC rfl rfl) rfl rfl rfl rfl rfl (fun g36 => ?_) (fun g36 => ?_)
   ·
    iterate 4 refine SeqK.off rfl rfl rfl rfl rfl rfl ?_
    refine Z42 ?_
    refine Z42 ?_
    refine Z46 ?_
    refine Z4 ?_
    refine Z3 (AW.condT rfl ?_)
    refine sR (sB ?_)
    refine AW.ret ?_
    exact f1 (q := ⟨bCe (dF (fun h => by (have h5 : (97 ≤ u.data.toList[i].toNat ∧ u.data.toList[i].toNat ≤ 122) ∨ (i ≠ 0 ∧ (u.data.toList[i].toNat = 95 ∨ (48 ≤ u.data.toList[i].toNat ∧ u.data.toList[i].toNat ≤ 57))) := (nm_iff.1 h).1 i hi; omega))), rfl⟩)
   refine Z13 ?_
   refine Z13 ?_
   refine Z41 Fx.un9 (idx_ba hi) ?_
   refine Z35 ?_
   refine Z46 ?_
   refine Z42 ?_
   refine Z46 ?_
   refine Z4 ?_
   refine Z3 ?_
   refine AW.condD rfl ?_ ?_ <;> intro h44
   ·
    refine sR (sB ?_)
    refine AW.ret ?_
    exact f1 (q := ⟨bCe (dF (fun h => by (have h5 : (97 ≤ u.data.toList[i].toNat ∧ u.data.toList[i].toNat ≤ 122) ∨ (i ≠ 0 ∧ (u.data.toList[i].toNat = 95 ∨ (48 ≤ u.data.toList[i].toNat ∧ u.data.toList[i].toNat ≤ 57))) := (nm_iff.1 h).1 i hi; omega))), rfl⟩)
   refine AW.skip (AW.reg (sM ?_))
   refine Z2 ?_
   refine sB ?_
   exact ⟨i + 1, _, by exact Wk.keep 58 _ _ _ rfl ⟨rfl, rfl, rfl, trivial⟩ trivial (fun _ _ h => h) rfl, by omega, ⟨hi, upS hi hU (by show (_ ∧ _) ∨ (_ ∧ (_ ∨ (_ ∧ _))); omega)⟩, rfl⟩
  iterate 5 refine SeqK.off rfl rfl rfl rfl rfl rfl ?_
  iterate 4 refine SeqK.offU rfl rfl rfl rfl rfl ?_
  refine SeqK.off rfl rfl rfl rfl rfl rfl ?_
  refine Z46 ?_
  refine Z46 ?_
  refine Z4 ?_
  refine Z3 (AW.condF rfl ?_)
  refine AW.skip (AW.reg (sM ?_))
  refine Z2 ?_
  refine sB ?_
  exact ⟨i + 1, _, by exact Wk.keep 58 _ _ _ rfl ⟨rfl, rfl, rfl, trivial⟩ trivial (fun _ _ h => h) rfl, by omega, ⟨hi, upS hi hU (by show (_ ∧ _) ∨ (_ ∧ (_ ∨ (_ ∧ _))); omega)⟩, rfl⟩
 refine AW.exit ?_
 refine eth_e ?_
 refine eth_e ?_
 refine exit_here ?_
 refine AW.seq ?_
 have hA := upE hU (by omega)
 refine AW.reg (sM ?_)
 refine SeqK.q (q_lenS rfl Fx.un9 rfl) rfl rfl rfl ?_
 refine SeqK.q (q_gtr rfl rfl rfl) rfl rfl rfl ?_
 refine Z19 (fun g48 => ?_) (fun g48 => ?_)
 ·
  refine Z13 ?_
  refine SeqK.on (q_lenS rfl Fx.un9 rfl) rfl rfl rfl rfl rfl ?_
  refine SeqK.on (q_leq rfl rfl rfl) rfl rfl rfl rfl rfl ?_
  refine Z4 ?_
  refine Z19 (fun g53 => ?_) (fun g53 => ?_)
  ·
   refine Z13 ?_
   refine SeqK.on (q_call _ rfl Fx.fn151 rfl (keyword_any u) rfl) rfl rfl rfl rfl rfl ?_
   refine SeqK.on (q_not rfl rfl) rfl rfl rfl rfl rfl ?_
   refine Z4 ?_
   refine sB ?_
   refine AW.ret ?_
   exact f1 (q := ⟨bCe (by first | (rw [show decide (nmQ u) = decide (u ∉ kwds) from decide_eq_decide.2 ⟨fun h => (nm_iff.1 h).2.2, fun h => nm_iff.2 ⟨hA, ⟨by omega, by omega⟩, h⟩⟩]; simp; done) | exact dF (fun h => by have h9 := h.1; omega)), rfl⟩)
  iterate 3 refine SeqK.off rfl rfl rfl rfl rfl rfl ?_
  refine Z7 ?_
  refine sB ?_
  refine AW.ret ?_
  exact f1 (q := ⟨bCe (by first | (rw [show decide (nmQ u) = decide (u ∉ kwds) from decide_eq_decide.2 ⟨fun h => (nm_iff.1 h).2.2, fun h => nm_iff.2 ⟨hA, ⟨by omega, by omega⟩, h⟩⟩]; simp; done) | exact dF (fun h => by have h9 := h.1; omega)), rfl⟩)
 iterate 3 refine SeqK.off rfl rfl rfl rfl rfl rfl ?_
 refine Z7 ?_
 refine sM ?_
 iterate 3 refine SeqK.off rfl rfl rfl rfl rfl rfl ?_
 refine Z7 ?_
 refine sB ?_
 refine AW.ret ?_
 exact f1 (q := ⟨bCe (by first | (rw [show decide (nmQ u) = decide (u ∉ kwds) from decide_eq_decide.2 ⟨fun h => (nm_iff.1 h).2.2, fun h => nm_iff.2 ⟨hA, ⟨by omega, by omega⟩, h⟩⟩]; simp; done) | exact dF (fun h => by have h9 := h.1; omega)), rfl⟩)

end Go.Proofs.YtihlgigaejhilaaGreatDoor.W
namespace Go.Proofs.YtihlgigaejhilaaGreatDoor.W
open Go.RowKit E
/-! expressions that are well-formed -/
abbrev v0P (e : Ex) : Prop := e.vk = 0 ∧ e.vn = 0 ∧ e.vs = ⟨#[]⟩
def fmN (e : Ex) : Prop := if e.op = 2 then nmQ e.nm ∧ (e.tb = ⟨#[]⟩ ∨ nmQ e.tb) ∧ v0P e else if e.op = 1 then (e.tb = ⟨#[]⟩ ∧ e.nm = ⟨#[]⟩) ∧ ltP e.vk e.vn e.vs else (e.op = 16 → (e.args.getD 1 ex0).op = 1 ∧ (e.args.getD 1 ex0).vk = 2) ∧ (e.tb = ⟨#[]⟩ ∧ e.nm = ⟨#[]⟩) ∧ v0P e
instance : DecidablePred fmN := fun e => by
  unfold fmN
  exact inferInstance
def fmB (e : Ex) : Bool := decide (opsN e.op = e.args.length) && (e.args.attach.all (fun a => fmB a.1) && decide (fmN e))
termination_by SizeOf.sizeOf e
decreasing_by exact args_lt a.2
theorem fmB_eq (e : Ex) : fmB e = (decide (opsN e.op = e.args.length) && (e.args.all fmB && decide (fmN e))) := by
  rw [fmB]; congr 2
  rw [List.all_eq, List.all_eq, decide_eq_decide]
  exact ⟨fun h a ha => h ⟨a, ha⟩ (List.mem_attach _ _), fun h a _ => h a.1 a.2⟩
theorem fm_of {e : Ex} (h : opsN e.op = e.args.length) (k : e.args.all fmB = true) : fmB e = decide (fmN e) := by rw [fmB_eq, decide_eq_true h, k]; rfl
theorem fm_no1 {e : Ex} (h : ¬ opsN e.op = e.args.length) : fmB e = false := by rw [fmB_eq, decide_eq_false h]; rfl
theorem fm_no2 {e : Ex} (k : e.args.all fmB = false) : fmB e = false := by rw [fmB_eq, k]; simp
set_option maxRecDepth 20000 in
theorem notFormed_of (e : Ex) (h : Pure Tryz.prog 133 [exC e] (.c (bC (fmB e)))) : Pure Tryz.prog 146 [exC e] (.c (bC (!fmB e))) := by
 intro H
 refine Spec.enter Tryz.func146 rfl ?_
 refine AW.wk (Wk.keep 6 [(0, .c (exC e))] [] (H) rfl ⟨rfl, trivial⟩ trivial (fun _ _ h => h) rfl) ?_
 refine sR (Z16 (r := [_, _, _, _, _, _, _, _]) ?_)
 refine sB ?_
 refine sR (Z12 (r := .g [_, _, _, _, _, _, _, _]) Fx.ty30 ?_)
 refine Z22 Fx.fn133 (h) ?_
 refine Z33 ?_
 refine sB ?_
 refine AW.ret ?_
 exact f1 (q := ⟨rfl, rfl⟩)

set_option maxHeartbeats 8000000 in
set_option maxRecDepth 20000 in
theorem formed_of (e : Ex) (ho : okE e) (ih : ∀ a ∈ e.args, Pure Tryz.prog 133 [exC a] (.c (bC (fmB a)))) : Pure Tryz.prog 133 [exC e] (.c (bC (fmB e))) := by
 obtain ⟨k1, k2, k3, k4⟩ := (okE_iff.1 ho).1
 have hany : ∀ a ∈ e.args, ∀ H1 : Heap, E.Spec Tryz.prog 146 [exC a] H1 fun x H2 => x = .c (bC (!fmB a)) ∧ H2 = H1 := fun a ha H1 => notFormed_of a (ih a ha) H1
 intro H
 refine Spec.enter Tryz.func133 rfl ?_
 refine AW.wk (Wk.keep 83 [(0, .c (exC e))] [] (H) rfl ⟨rfl, trivial⟩ trivial (fun _ _ h => h) rfl) ?_
 refine sR (Z16 (r := [_, _, _, _, _, _, _, _]) ?_)
 refine sB ?_
 refine AW.seq (AW.seq (AW.draw Fx.mo ?_))
 refine Z23 Fx.fl30_0 ?_
 refine Z20 Fx.ty3 ?_
 refine Z52 Fx.fn145 (operands_any e.op) ?_
 refine Z23 Fx.fl30_5 ?_
 refine Z20 Fx.ty28 ?_
 refine LexK.q (q_len rfl Fx.un28 rfl) rfl rfl rfl ?_
 refine LexK.q (q_neq rfl rfl rfl) rfl rfl rfl ?_
 refine LexK.qD (q_mvC rfl rfl) rfl rfl rfl (fun g11 => ?_) (fun g11 => ?_)
 ·
  iterate 3 refine LexK.off rfl rfl rfl rfl rfl rfl ?_
  refine Z43 ?_
  refine Z30 ?_
  refine AW.condT rfl ?_
  refine sR (sB ?_)
  refine AW.ret ?_
  exact f1 (q := ⟨bCe (by first | (rw [fm_no1 (by rw [List.length_map] at g11; exact g11)]; done) | (rw [fm_no2 (by rw [← any_not, h15]; rfl)])), rfl⟩)
 refine Z24 Fx.fl30_5 ?_
 refine Z21 Fx.ty28 ?_
 refine LexK.rOn (g_call rfl Fx.fn95 rfl (Spec.arg (l := [exsC .un e.args]) (r := []) XW.fn0 (anyF_ex _ 146 [] (fun a => !fmB a) e.args .un Fx.fn146 k4 fun a ha H1 h1 => hany a ha H1)) rfl rfl rfl) rfl rfl rfl ?_
 refine Z31 ?_
 refine Z30 ?_
 refine AW.cond _ rfl (fun h15 => ?_) (fun h15 => ?_)
 ·
  refine sR (sB ?_)
  refine AW.ret ?_
  exact f1 (q := ⟨bCe (by first | (rw [fm_no1 (by rw [List.length_map] at g11; exact g11)]; done) | (rw [fm_no2 (by rw [← any_not, h15]; rfl)])), rfl⟩)
 refine AW.skip (AW.seq (AW.seq ?_))
 have hA : opsN e.op = e.args.length := by rw [List.length_map] at g11; exact Classical.not_not.1 g11
 have hB : e.args.all fmB = true := by rw [← any_not, h15]; rfl
 refine AW.reg (Z1 Fx.fl30_0 ?_)
 refine Z0 Fx.ty3 ?_
 refine Z3 (AW.block (sR (Z8 ?_)))
 refine sB ?_
 refine AW.condD rfl ?_ ?_ <;> intro h18
 ·
  refine sR (Z1 Fx.fl30_2 ?_)
  refine Z0 Fx.ty9 ?_
  refine SeqK.q (q_call _ rfl Fx.fn147 rfl (aname_any e.nm (by omega)) rfl) rfl rfl rfl ?_
  refine SeqK.qB (q_mvC rfl rfl) rfl rfl rfl (fun g23 => ?_) (fun g23 => ?_)
  ·
   refine Z6 Fx.fl30_1 ?_
   refine Z5 Fx.ty9 ?_
   refine SeqK.on (q_eqlS rfl rfl rfl) rfl rfl rfl rfl rfl ?_
   refine SeqK.onD (q_mvC rfl rfl) rfl rfl rfl rfl rfl (fun g27 => ?_) (fun g27 => ?_)
   ·
    iterate 3 refine SeqK.off rfl rfl rfl rfl rfl rfl ?_
    refine Z42 ?_
    refine Z4 ?_
    refine sM ?_
    refine Z6 Fx.fl30_4 ?_
    refine Z37 (r := .g [_, _, _]) Fx.ty27 ?_
    refine SeqK.on (q_build2 (zs := [_, _, _]) (r := [_, _, _]) [(0, 1), (1, 1), (2, 1)] _ rfl Fx.ze27 rfl Fx.bp27 rfl rfl rfl rfl) rfl rfl rfl rfl rfl ?_
    refine SeqK.on (q_eqlG [.int .i64 e.vk, .int .i64 e.vn, .string e.vs] [.int .i64 0, .int .i64 0, .string ⟨#[]⟩] rfl rfl rfl rfl rfl (by kernel_rfl) (fun w => eq25 _ _ _ _ _ _ w)) rfl rfl rfl rfl rfl ?_
    refine Z4 ?_
    refine sB ?_
    refine AW.ret ?_
    exact f1 (q := ⟨bCe (by rw [fm_of hA hB]; (try simp only [ne_eq, Classical.not_not] at *); simp [fmN, Bool.and_assoc, *]), rfl⟩)
   refine Z6 Fx.fl30_1 ?_
   refine Z5 Fx.ty9 ?_
   refine SeqK.on (q_call _ rfl Fx.fn147 rfl (aname_any e.tb (by omega)) rfl) rfl rfl rfl rfl rfl ?_
   refine Z46 ?_
   refine Z4 ?_
   refine SeqK.qB (q_mvC rfl rfl) rfl rfl rfl (fun g33 => ?_) (fun g33 => ?_)
   ·
    refine Z6 Fx.fl30_4 ?_
    refine Z37 (r := .g [_, _, _]) Fx.ty27 ?_
    refine SeqK.on (q_build2 (zs := [_, _, _]) (r := [_, _, _]) [(0, 1), (1, 1), (2, 1)] _ rfl Fx.ze27 rfl Fx.bp27 rfl rfl rfl rfl) rfl rfl rfl rfl rfl ?_
    refine SeqK.on (q_eqlG [.int .i64 e.vk, .int .i64 e.vn, .string e.vs] [.int .i64 0, .int .i64 0, .string ⟨#[]⟩] rfl rfl rfl rfl rfl (by kernel_rfl) (fun w => eq25 _ _ _ _ _ _ w)) rfl rfl rfl rfl rfl ?_
    refine Z4 ?_
    refine sB ?_
    refine AW.ret ?_
    exact f1 (q := ⟨bCe (by rw [fm_of hA hB]; (try simp only [ne_eq, Classical.not_not] at *); simp [fmN, Bool.and_assoc, *]), rfl⟩)
   iterate 4 refine SeqK.off rfl rfl rfl rfl rfl rfl ?_
   refine Z7 ?_
   refine sB ?_
   refine AW.ret ?_
   exact f1 (q := ⟨bCe (by rw [fm_of hA hB]; (try simp only [ne_eq, Classical.not_not] at *); simp [fmN, Bool.and_assoc, *]), rfl⟩)
  iterate 4 refine SeqK.off rfl rfl rfl rfl rfl rfl ?_
  iterate 3 refine SeqK.offU rfl rfl rfl rfl rfl ?_
  refine SeqK.off rfl rfl rfl rfl rfl rfl ?_
  refine Z7 ?_
  refine sM ?_
  iterate 4 refine SeqK.off rfl rfl rfl rfl rfl rfl ?_
  refine Z7 ?_
  refine sB ?_
  refine AW.ret ?_
  exact f1 (q := ⟨bCe (by rw [fm_of hA hB]; (try simp only [ne_eq, Classical.not_not] at *); simp [fmN, Bool.and_assoc, *]), rfl⟩)
 refine sR (Z8 ?_)
 refine sB ?_
 refine AW.condD rfl ?_ ?_ <;> intro h39
 ·
  refine sR (Z1 Fx.fl30_1 ?_)
  refine Z0 Fx.ty9 ?_
  refine SeqK.q (q_eqlS rfl rfl rfl) rfl rfl rfl ?_
  refine Z19 (fun g44 => ?_) (fun g44 => ?_)
  ·
   refine Z6 Fx.fl30_2 ?_
   refine Z5 Fx.ty9 ?_
   refine SeqK.on (q_eqlS rfl rfl rfl) rfl rfl rfl rfl rfl ?_
   refine Z4 ?_
   refine Z19 (fun g49 => ?_) (fun g49 => ?_)
   ·
    refine Z6 Fx.fl30_4 ?_
    refine Z37 (r := .g [_, _, _]) Fx.ty27 ?_
    refine SeqK.on (q_call _ rfl Fx.fn148 rfl (literal_any e.vk e.vn e.vs (by omega)) rfl) rfl rfl rfl rfl rfl ?_
    refine Z4 ?_
    refine sB ?_
    refine AW.ret ?_
    exact f1 (q := ⟨bCe (by rw [fm_of hA hB]; (try simp only [ne_eq, Classical.not_not] at *); simp [fmN, Bool.and_assoc, *]), rfl⟩)
   iterate 3 refine SeqK.off rfl rfl rfl rfl rfl rfl ?_
   refine Z7 ?_
   refine sB ?_
   refine AW.ret ?_
   exact f1 (q := ⟨bCe (by rw [fm_of hA hB]; (try simp only [ne_eq, Classical.not_not] at *); simp [fmN, Bool.and_assoc, *]), rfl⟩)
  iterate 3 refine SeqK.off rfl rfl rfl rfl rfl rfl ?_
  refine Z7 ?_
  refine sM ?_
  iterate 3 refine SeqK.off rfl rfl rfl rfl rfl rfl ?_
  refine Z7 ?_
  refine sB ?_
  refine AW.ret ?_
  exact f1 (q := ⟨bCe (by rw [fm_of hA hB]; (try simp only [ne_eq, Classical.not_not] at *); simp [fmN, Bool.and_assoc, *]), rfl⟩)
 refine sR (Z8 ?_)
 refine sB ?_
 refine AW.condD rfl ?_ ?_ <;> intro h54
 ·
  have hl2 : e.args.length = 2 := by rw [h54] at hA; have h9 : (2 : Int) = e.args.length := hA; omega
  have hg : e.args.getD 1 ex0 = e.args[1] := by rw [List.getD_eq_getElem?_getD, List.getElem?_eq_getElem (by omega)]; rfl
  refine sR (Z1 Fx.fl30_5 ?_)
  refine Z0 Fx.ty28 ?_
  refine SeqK.q (q_index _ rfl Fx.sl28 rfl rfl (by omega) (idx_ex (show 1 < e.args.length by omega))) rfl rfl rfl ?_
  refine Z11 (.g [_, _, _, _, _, _, _, _]) Fx.ty30 ?_
  refine Z25 (r := [_, _, _, _, _, _, _, _]) Fx.ze30 ?_
  refine Z15 (r := [_, _, _, _, _, _, _, _]) Fx.ty30 ?_
  refine Z3 (sR (Z1 Fx.fl30_0 ?_))
  refine Z0 Fx.ty3 ?_
  refine Z49 ?_
  refine Z19 (fun g63 => ?_) (fun g63 => ?_)
  ·
   iterate 4 refine SeqK.off rfl rfl rfl rfl rfl rfl ?_
   refine Z4 ?_
   refine Z3 (AW.condT rfl ?_)
   refine sR (sB ?_)
   refine AW.ret ?_
   exact f1 (q := ⟨bCe (by rw [fm_of hA hB]; (try simp only [ne_eq, Classical.not_not] at *); simp [fmN, Bool.and_assoc, *]), rfl⟩)
  refine Z6 Fx.fl30_4 ?_
  refine Z6 Fx.fl27_0 ?_
  refine Z5 Fx.ty3 ?_
  refine SeqK.on (q_neq rfl rfl rfl) rfl rfl rfl rfl rfl ?_
  refine Z7 ?_
  refine Z3 ?_
  refine AW.condD rfl ?_ ?_ <;> intro h68
  ·
   refine sR (sB ?_)
   refine AW.ret ?_
   exact f1 (q := ⟨bCe (by rw [fm_of hA hB]; (try simp only [ne_eq, Classical.not_not] at *); simp [fmN, Bool.and_assoc, *]), rfl⟩)
  refine AW.skip (sR (Z1 Fx.fl30_1 ?_))
  refine Z0 Fx.ty9 ?_
  refine SeqK.q (q_eqlS rfl rfl rfl) rfl rfl rfl ?_
  refine Z19 (fun g72 => ?_) (fun g72 => ?_)
  ·
   refine Z6 Fx.fl30_2 ?_
   refine Z5 Fx.ty9 ?_
   refine SeqK.on (q_eqlS rfl rfl rfl) rfl rfl rfl rfl rfl ?_
   refine Z4 ?_
   refine Z19 (fun g77 => ?_) (fun g77 => ?_)
   ·
    refine Z6 Fx.fl30_4 ?_
    refine Z37 (r := .g [_, _, _]) Fx.ty27 ?_
    refine SeqK.on (q_build2 (zs := [_, _, _]) (r := [_, _, _]) [(0, 1), (1, 1), (2, 1)] _ rfl Fx.ze27 rfl Fx.bp27 rfl rfl rfl rfl) rfl rfl rfl rfl rfl ?_
    refine SeqK.on (q_eqlG [.int .i64 e.vk, .int .i64 e.vn, .string e.vs] [.int .i64 0, .int .i64 0, .string ⟨#[]⟩] rfl rfl rfl rfl rfl (by kernel_rfl) (fun w => eq25 _ _ _ _ _ _ w)) rfl rfl rfl rfl rfl ?_
    refine Z4 ?_
    refine sB ?_
    refine AW.ret ?_
    exact f1 (q := ⟨bCe (by rw [fm_of hA hB]; (try simp only [ne_eq, Classical.not_not] at *); simp [fmN, Bool.and_assoc, *]), rfl⟩)
   iterate 4 refine SeqK.off rfl rfl rfl rfl rfl rfl ?_
   refine Z7 ?_
   refine sB ?_
   refine AW.ret ?_
   exact f1 (q := ⟨bCe (by rw [fm_of hA hB]; (try simp only [ne_eq, Classical.not_not] at *); simp [fmN, Bool.and_assoc, *]), rfl⟩)
  iterate 3 refine SeqK.off rfl rfl rfl rfl rfl rfl ?_
  refine Z7 ?_
  refine sM ?_
  iterate 4 refine SeqK.off rfl rfl rfl rfl rfl rfl ?_
  refine Z7 ?_
  refine sB ?_
  refine AW.ret ?_
  exact f1 (q := ⟨bCe (by rw [fm_of hA hB]; (try simp only [ne_eq, Classical.not_not] at *); simp [fmN, Bool.and_assoc, *]), rfl⟩)
 refine AW.skip (sR (Z1 Fx.fl30_1 ?_))
 refine Z0 Fx.ty9 ?_
 refine SeqK.q (q_eqlS rfl rfl rfl) rfl rfl rfl ?_
 refine Z19 (fun g72 => ?_) (fun g72 => ?_)
 ·
  refine Z6 Fx.fl30_2 ?_
  refine Z5 Fx.ty9 ?_
  refine SeqK.on (q_eqlS rfl rfl rfl) rfl rfl rfl rfl rfl ?_
  refine Z4 ?_
  refine Z19 (fun g77 => ?_) (fun g77 => ?_)
  ·
   refine Z6 Fx.fl30_4 ?_
   refine Z37 (r := .g [_, _, _]) Fx.ty27 ?_
   refine SeqK.on (q_build2 (zs := [_, _, _]) (r := [_, _, _]) [(0, 1), (1, 1), (2, 1)] _ rfl Fx.ze27 rfl Fx.bp27 rfl rfl rfl rfl) rfl rfl rfl rfl rfl ?_
   refine SeqK.on (q_eqlG [.int .i64 e.vk, .int .i64 e.vn, .string e.vs] [.int .i64 0, .int .i64 0, .string ⟨#[]⟩] rfl rfl rfl rfl rfl (by kernel_rfl) (fun w => eq25 _ _ _ _ _ _ w)) rfl rfl rfl rfl rfl ?_
   refine Z4 ?_
   refine sB ?_
   refine AW.ret ?_
   exact f1 (q := ⟨bCe (by rw [fm_of hA hB]; (try simp only [ne_eq, Classical.not_not] at *); simp [fmN, Bool.and_assoc, *]), rfl⟩)
  iterate 4 refine SeqK.off rfl rfl rfl rfl rfl rfl ?_
  refine Z7 ?_
  refine sB ?_
  refine AW.ret ?_
  exact f1 (q := ⟨bCe (by rw [fm_of hA hB]; (try simp only [ne_eq, Classical.not_not] at *); simp [fmN, Bool.and_assoc, *]), rfl⟩)
 iterate 3 refine SeqK.off rfl rfl rfl rfl rfl rfl ?_
 refine Z7 ?_
 refine sM ?_
 iterate 4 refine SeqK.off rfl rfl rfl rfl rfl rfl ?_
 refine Z7 ?_
 refine sB ?_
 refine AW.ret ?_
 exact f1 (q := ⟨bCe (by rw [fm_of hA hB]; (try simp only [ne_eq, Classical.not_not] at *); simp [fmN, Bool.and_assoc, *]), rfl⟩)

theorem formed_any (e : Ex) : okE e → Pure Tryz.prog 133 [exC e] (.c (bC (fmB e))) := by
  induction e using Ex.rec' with
  | h e ih => exact fun ho => formed_of e ho fun a ha => ih a ha ((okE_iff.1 ho).2 a ha)

set_option maxHeartbeats 8000000 in
set_option maxRecDepth 20000 in
theorem rformed_of (e : Ex) (ho : okE e) (ih : ∀ a ∈ e.args, Pure Tryz.prog 115 [exC a] (.c (bC (fmB a)))) : Pure Tryz.prog 115 [exC e] (.c (bC (fmB e))) := by
 obtain ⟨k1, k2, k3, k4⟩ := (okE_iff.1 ho).1
 intro H
 refine Spec.enter Tryz.func115 rfl ?_
 refine AW.wk (Wk.keep 85 [(0, .c (exC e))] [] (H) rfl ⟨rfl, trivial⟩ trivial (fun _ _ h => h) rfl) ?_
 refine sR (Z16 (r := [_, _, _, _, _, _, _, _]) ?_)
 refine sB ?_
 refine AW.seq (AW.seq (AW.draw Fx.mo ?_))
 refine Z23 Fx.fl30_0 ?_
 refine Z20 Fx.ty3 ?_
 refine Z52 Fx.fn138 (args_any e.op) ?_
 refine Z23 Fx.fl30_5 ?_
 refine Z20 Fx.ty28 ?_
 refine LexK.q (q_len rfl Fx.un28 rfl) rfl rfl rfl ?_
 refine LexK.q (q_neq rfl rfl rfl) rfl rfl rfl ?_
 refine Z30 ?_
 refine AW.condD rfl ?_ ?_ <;> intro h10
 ·
  refine sR (sB ?_)
  refine AW.ret ?_
  exact f1 (q := ⟨bCe (by rw [fm_no1 (by rw [List.length_map] at h10; exact h10)]), rfl⟩)
 have hA : opsN e.op = e.args.length := by rw [List.length_map] at h10; exact Classical.not_not.1 h10
 refine AW.skip (AW.seq (sR (sB ?_)))
 refine AW.block ?_
 refine AW.loop (fun (i : Nat) s => (i ≤ e.args.length ∧ ∀ j (h : j < e.args.length), j < i → fmB e.args[j] = true) ∧ s = ⟨85, sp [(1, .lp 1 0), (2, .c (bC false)), (3, iX .i64 ((i : Nat) : Int))], lv [(1, .box (zEx e))], H⟩) (fun i => e.args.length - i) 0 ⟨_, by exact Wk.keep 85 _ _ _ rfl ⟨rfl, rfl, rfl, trivial⟩ ⟨rfl, trivial⟩ (fun _ _ h => h) rfl, ⟨Nat.zero_le _, up0⟩, rfl⟩ (fun i s hs => ?_)
 obtain ⟨⟨hi0, hU⟩, rfl⟩ := hs
 refine AW.seq (sR (sM ?_))
 refine Z1 Fx.fl30_5 ?_
 refine Z0 Fx.ty28 ?_
 refine Z14 Fx.un28 ?_
 refine Z10 ?_
 refine Z3 ?_
 refine AW.condD rfl ?_ ?_ <;> intro h15
 ·
  have hi : i < e.args.length := by rw [List.length_map] at h15; omega
  refine AW.skip (AW.seq (AW.block (sR (Z1 Fx.fl30_5 ?_))))
  refine Z0 Fx.ty28 ?_
  refine sM ?_
  refine Z9 Fx.sl28 (idx_ex hi) ?_
  refine Z11 (.g [_, _, _, _, _, _, _, _]) Fx.ty30 ?_
  refine Z22 Fx.fn115 (ih _ (List.getElem_mem hi)) ?_
  refine Z33 ?_
  refine Z3 ?_
  refine AW.cond _ rfl (fun h24 => ?_) (fun h24 => ?_)
  ·
   have hno : fmB e.args[i] = false := by simpa using h24
   refine sR (sB ?_)
   refine AW.ret ?_
   exact f1 (q := ⟨bCe (by rw [fm_no2 (List.all_eq_false.2 ⟨_, List.getElem_mem hi, by simp [hno]⟩)]), rfl⟩)
  have hyes : fmB e.args[i] = true := by simpa using h24
  refine AW.skip (AW.reg (sM ?_))
  refine Z2 ?_
  refine sB ?_
  exact ⟨i + 1, _, by exact Wk.keep 85 _ _ _ rfl ⟨rfl, rfl, rfl, trivial⟩ ⟨rfl, trivial⟩ (fun _ _ h => h) rfl, by omega, ⟨hi, upS hi hU (hyes)⟩, rfl⟩
 refine AW.exit ?_
 refine eth_e ?_
 refine eth_e ?_
 refine exit_here ?_
 refine AW.seq (AW.seq ?_)
 have hB : e.args.all fmB = true := List.all_eq_true.2 fun x hx => by obtain ⟨j, hj, rfl⟩ := List.mem_iff_getElem.1 hx; exact upE hU (by rw [List.length_map] at h15; omega) j hj
 refine AW.reg (Z1 Fx.fl30_0 ?_)
 refine Z0 Fx.ty3 ?_
 refine Z8 ?_
 refine Z3 ?_
 refine AW.condD rfl ?_ ?_ <;> intro h27
 ·
  refine sR (Z1 Fx.fl30_2 ?_)
  refine Z0 Fx.ty9 ?_
  refine SeqK.q (q_call _ rfl Fx.fn139 rfl (rname_any e.nm (by omega)) rfl) rfl rfl rfl ?_
  refine SeqK.qB (q_mvC rfl rfl) rfl rfl rfl (fun g31 => ?_) (fun g31 => ?_)
  ·
   refine Z6 Fx.fl30_1 ?_
   refine Z5 Fx.ty9 ?_
   refine SeqK.on (q_eqlS rfl rfl rfl) rfl rfl rfl rfl rfl ?_
   refine SeqK.onD (q_mvC rfl rfl) rfl rfl rfl rfl rfl (fun g35 => ?_) (fun g35 => ?_)
   ·
    iterate 3 refine SeqK.off rfl rfl rfl rfl rfl rfl ?_
    refine Z42 ?_
    refine Z4 ?_
    refine sM ?_
    refine Z6 Fx.fl30_4 ?_
    refine Z37 (r := .g [_, _, _]) Fx.ty27 ?_
    refine SeqK.on (q_build2 (zs := [_, _, _]) (r := [_, _, _]) [(0, 1), (1, 1), (2, 1)] _ rfl Fx.ze27 rfl Fx.bp27 rfl rfl rfl rfl) rfl rfl rfl rfl rfl ?_
    refine SeqK.on (q_eqlG [.int .i64 e.vk, .int .i64 e.vn, .string e.vs] [.int .i64 0, .int .i64 0, .string ⟨#[]⟩] rfl rfl rfl rfl rfl (by kernel_rfl) (fun w => eq25 _ _ _ _ _ _ w)) rfl rfl rfl rfl rfl ?_
    refine Z4 ?_
    refine sB ?_
    refine AW.ret ?_
    exact f1 (q := ⟨bCe (by rw [fm_of hA hB]; (try simp only [ne_eq, Classical.not_not] at *); simp [fmN, Bool.and_assoc, *]), rfl⟩)
   refine Z6 Fx.fl30_1 ?_
   refine Z5 Fx.ty9 ?_
   refine SeqK.on (q_call _ rfl Fx.fn139 rfl (rname_any e.tb (by omega)) rfl) rfl rfl rfl rfl rfl ?_
   refine Z46 ?_
   refine Z4 ?_
   refine SeqK.qB (q_mvC rfl rfl) rfl rfl rfl (fun g41 => ?_) (fun g41 => ?_)
   ·
    refine Z6 Fx.fl30_4 ?_
    refine Z37 (r := .g [_, _, _]) Fx.ty27 ?_
    refine SeqK.on (q_build2 (zs := [_, _, _]) (r := [_, _, _]) [(0, 1), (1, 1), (2, 1)] _ rfl Fx.ze27 rfl Fx.bp27 rfl rfl rfl rfl) rfl rfl rfl rfl rfl ?_
    refine SeqK.on (q_eqlG [.int .i64 e.vk, .int .i64 e.vn, .string e.vs] [.int .i64 0, .int .i64 0, .string ⟨#[]⟩] rfl rfl rfl rfl rfl (by kernel_rfl) (fun w => eq25 _ _ _ _ _ _ w)) rfl rfl rfl rfl rfl ?_
    refine Z4 ?_
    refine sB ?_
    refine AW.ret ?_
    exact f1 (q := ⟨bCe (by rw [fm_of hA hB]; (try simp only [ne_eq, Classical.not_not] at *); simp [fmN, Bool.and_assoc, *]), rfl⟩)
   iterate 4 refine SeqK.off rfl rfl rfl rfl rfl rfl ?_
   refine Z7 ?_
   refine sB ?_
   refine AW.ret ?_
   exact f1 (q := ⟨bCe (by rw [fm_of hA hB]; (try simp only [ne_eq, Classical.not_not] at *); simp [fmN, Bool.and_assoc, *]), rfl⟩)
  iterate 4 refine SeqK.off rfl rfl rfl rfl rfl rfl ?_
  iterate 3 refine SeqK.offU rfl rfl rfl rfl rfl ?_
  refine SeqK.off rfl rfl rfl rfl rfl rfl ?_
  refine Z7 ?_
  refine sM ?_
  iterate 4 refine SeqK.off rfl rfl rfl rfl rfl rfl ?_
  refine Z7 ?_
  refine sB ?_
  refine AW.ret ?_
  exact f1 (q := ⟨bCe (by rw [fm_of hA hB]; (try simp only [ne_eq, Classical.not_not] at *); simp [fmN, Bool.and_assoc, *]), rfl⟩)
 refine AW.skip (AW.seq (sR (Z1 Fx.fl30_1 ?_)))
 refine Z0 Fx.ty9 ?_
 refine SeqK.q (q_neqS rfl rfl rfl) rfl rfl rfl ?_
 refine Z19 (fun g50 => ?_) (fun g50 => ?_)
 ·
  iterate 3 refine SeqK.off rfl rfl rfl rfl rfl rfl ?_
  refine Z4 ?_
  refine Z3 (AW.condT rfl ?_)
  refine sR (sB ?_)
  refine AW.ret ?_
  exact f1 (q := ⟨bCe (by rw [fm_of hA hB]; (try simp only [ne_eq, Classical.not_not] at *); simp [fmN, Bool.and_assoc, *]), rfl⟩)
 refine Z6 Fx.fl30_2 ?_
 refine Z5 Fx.ty9 ?_
 refine SeqK.on (q_neqS rfl rfl rfl) rfl rfl rfl rfl rfl ?_
 refine Z7 ?_
 refine Z3 ?_
 refine AW.condD rfl ?_ ?_ <;> intro h54
 ·
  refine sR (sB ?_)
  refine AW.ret ?_
  exact f1 (q := ⟨bCe (by rw [fm_of hA hB]; (try simp only [ne_eq, Classical.not_not] at *); simp [fmN, Bool.and_assoc, *]), rfl⟩)
 refine AW.skip (AW.seq (sR (Z1 Fx.fl30_0 ?_)))
 refine Z0 Fx.ty3 ?_
 refine Z8 ?_
 refine Z3 ?_
 refine AW.condD rfl ?_ ?_ <;> intro h57
 ·
  refine sR (Z1 Fx.fl30_4 ?_)
  refine Z12 (r := .g [_, _, _]) Fx.ty27 ?_
  refine SeqK.q (q_call _ rfl Fx.fn140 rfl (rliteral_any e.vk e.vn e.vs (by omega)) rfl) rfl rfl rfl ?_
  refine sB ?_
  refine AW.ret ?_
  exact f1 (q := ⟨bCe (by rw [fm_of hA hB]; (try simp only [ne_eq, Classical.not_not] at *); simp [fmN, Bool.and_assoc, *]), rfl⟩)
 refine AW.skip (AW.seq (sR (Z1 Fx.fl30_0 ?_)))
 refine Z0 Fx.ty3 ?_
 refine Z8 ?_
 refine Z19 (fun g64 => ?_) (fun g64 => ?_)
 ·
  have hl2 : e.args.length = 2 := by rw [g64] at hA; have h9 : (2 : Int) = e.args.length := hA; omega
  have hg : e.args.getD 1 ex0 = e.args[1] := by rw [List.getD_eq_getElem?_getD, List.getElem?_eq_getElem (by omega)]; rfl
  refine Z6 Fx.fl30_5 ?_
  refine Z5 Fx.ty28 ?_
  refine SeqK.on (q_index _ rfl Fx.sl28 rfl rfl (by omega) (idx_ex (show 1 < e.args.length by omega))) rfl rfl rfl rfl rfl ?_
  refine SeqK.on (q_fieldP _ rfl Fx.fl30_0 rfl rfl) rfl rfl rfl rfl rfl ?_
  refine SeqK.on (q_load (.a _) rfl Fx.ty3 rfl rfl rfl) rfl rfl rfl rfl rfl ?_
  refine SeqK.on (q_neq rfl rfl rfl) rfl rfl rfl rfl rfl ?_
  refine SeqK.onD (q_mvC rfl rfl) rfl rfl rfl rfl rfl (fun g71 => ?_) (fun g71 => ?_)
  ·
   iterate 7 refine SeqK.off rfl rfl rfl rfl rfl rfl ?_
   refine Z42 ?_
   refine Z4 ?_
   refine Z3 (AW.condT rfl ?_)
   refine sR (sB ?_)
   refine AW.ret ?_
   exact f1 (q := ⟨bCe (by rw [fm_of hA hB]; (try simp only [ne_eq, Classical.not_not] at *); simp [fmN, Bool.and_assoc, *]), rfl⟩)
  refine Z6 Fx.fl30_5 ?_
  refine Z5 Fx.ty28 ?_
  refine SeqK.on (q_index _ rfl Fx.sl28 rfl rfl (by omega) (idx_ex (show 1 < e.args.length by omega))) rfl rfl rfl rfl rfl ?_
  refine SeqK.on (q_fieldP _ rfl Fx.fl30_4 rfl rfl) rfl rfl rfl rfl rfl ?_
  refine SeqK.on (q_fieldP _ rfl Fx.fl27_0 rfl rfl) rfl rfl rfl rfl rfl ?_
  refine SeqK.on (q_load (.a _) rfl Fx.ty3 rfl rfl rfl) rfl rfl rfl rfl rfl ?_
  refine SeqK.on (q_neq rfl rfl rfl) rfl rfl rfl rfl rfl ?_
  refine Z46 ?_
  refine Z4 ?_
  refine Z3 ?_
  refine AW.condD rfl ?_ ?_ <;> intro h80
  ·
   refine sR (sB ?_)
   refine AW.ret ?_
   exact f1 (q := ⟨bCe (by rw [fm_of hA hB]; (try simp only [ne_eq, Classical.not_not] at *); simp [fmN, Bool.and_assoc, *]), rfl⟩)
  refine AW.skip (sR (Z1 Fx.fl30_4 ?_))
  refine Z12 (r := .g [_, _, _]) Fx.ty27 ?_
  refine Z34 (zs := [_, _, _]) (r := [_, _, _]) [(0, 1), (1, 1), (2, 1)] Fx.ze27 Fx.bp27 ?_
  refine SeqK.q (q_eqlG [.int .i64 e.vk, .int .i64 e.vn, .string e.vs] [.int .i64 0, .int .i64 0, .string ⟨#[]⟩] rfl rfl rfl rfl rfl (by kernel_rfl) (fun w => eq25 _ _ _ _ _ _ w)) rfl rfl rfl ?_
  refine sB ?_
  refine AW.ret ?_
  exact f1 (q := ⟨bCe (by rw [fm_of hA hB]; (try simp only [ne_eq, Classical.not_not] at *); simp [fmN, Bool.and_assoc, *]), rfl⟩)
 iterate 7 refine SeqK.off rfl rfl rfl rfl rfl rfl ?_
 iterate 7 refine SeqK.offU rfl rfl rfl rfl rfl ?_
 refine SeqK.off rfl rfl rfl rfl rfl rfl ?_
 refine Z7 ?_
 refine Z3 (AW.condF rfl ?_)
 refine AW.skip (sR (Z1 Fx.fl30_4 ?_))
 refine Z12 (r := .g [_, _, _]) Fx.ty27 ?_
 refine Z34 (zs := [_, _, _]) (r := [_, _, _]) [(0, 1), (1, 1), (2, 1)] Fx.ze27 Fx.bp27 ?_
 refine SeqK.q (q_eqlG [.int .i64 e.vk, .int .i64 e.vn, .string e.vs] [.int .i64 0, .int .i64 0, .string ⟨#[]⟩] rfl rfl rfl rfl rfl (by kernel_rfl) (fun w => eq25 _ _ _ _ _ _ w)) rfl rfl rfl ?_
 refine sB ?_
 refine AW.ret ?_
 exact f1 (q := ⟨bCe (by rw [fm_of hA hB]; (try simp only [ne_eq, Classical.not_not] at *); simp [fmN, Bool.and_assoc, *]), rfl⟩)

theorem rformed_any (e : Ex) : okE e → Pure Tryz.prog 115 [exC e] (.c (bC (fmB e))) := by
  induction e using Ex.rec' with
  | h e ih => exact fun ho => rformed_of e ho fun a ha => ih a ha ((okE_iff.1 ho).2 a ha)

end Go.Proofs.YtihlgigaejhilaaGreatDoor.W
