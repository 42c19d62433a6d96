/- FormulaExclusive: the given statement, out of the walk: for every input the law returns true, and every argument reads as it did. No condition. -/
import Derived.Test.YtnnoafgdjjpidaaGreatDoorCards
import Derived.Test.YtnnoafgdjjpidaaGreatDoorTie
import Derived.LaidMore
import Derived.Lay
import Derived.ProofKit
import Derived.OpenShut
import Derived.Stop.Joined
import Derived.SevenTiedAt
import Derived.Test.YtnnoafgdjjpidaaGreatDoorM24
namespace Go.Proofs.YtnnoafgdjjpidaaGreatDoor.rowFormulaExclusive
open Go.ChangeShapes Go.WideShapes Go.ChangeAt Go.RowKit E W
set_option linter.unusedVariables false
theorem own : ownKnob Tryz.prog.godebug = none := by kernel_rfl
theorem laidOut : laidOutB Tryz.prog = true := by kernel_rfl
theorem readable : ∀ t ∈ ([26, 27, 45] : List TypeId), Tryz.prog.readableRec t = true ∧ t < Tryz.prog.types.size := by
  intro t ht
  simp only [List.mem_cons, List.not_mem_nil, or_false] at ht
  rcases ht with rfl | rfl | rfl
  all_goals exact ⟨by kernel_rfl, of_decide_eq_true (by kernel_rfl)⟩
set_option maxRecDepth 100000 in
theorem lifted (os : Os) (started : os.Started) (H : Type) (enc : TypeId × Value → H) :
    ReturnsInHanded {} Tryz.checked os 4 .any (fun w args => (Rows.formulaExclusiveSpec.pre enc Tryz.prog Tryz.f4 [] false w args ∧ laidMetH Tryz.prog Rows.formulaExclusiveRow.laid w) ∧ sizedMet enc Tryz.prog Tryz.f4 (OpenSpec.ofChange Rows.formulaExclusiveSpec) false w args) (Rows.formulaExclusiveSpec.post enc Tryz.prog Tryz.f4 false true false false) := by
  refine returnsInHanded_of_change_and (C := Tryz.checked) (X := fun w _ => laidMetH Tryz.prog Rows.formulaExclusiveRow.laid w) (fun _ _ _ hh h => h.of_heap hh) own started (by kernel_rfl) Tryz.func4
    (ChangeSpec.witness_shaped (enc := enc) (C := Tryz.checked) (os := os) (X := fun w _ => laidMetH Tryz.prog Rows.formulaExclusiveRow.laid w) false (World.laidAll Tryz.prog os Rows.formulaExclusiveRow.laid) #[.agg #[.int .i64 0, .string ⟨#[]⟩, .string ⟨#[]⟩, .int .i64 0, .int .i64 0, .int .i64 0, .string ⟨#[]⟩, .slice none 0 0], .slice none 0 0, .slice none 0 0] 8 (World.laidAll_os _ _ _) (World.shaped_of_ZipB (by kernel_rfl) (by kernel_rfl)) (by kernel_rfl) (by kernel_rfl) (by kernel_rfl) (by rw [MakeChecks.laidMetH_plain _ _ _ (by kernel_rfl)]; exact laidMet_laidAll _ (by kernel_rfl) (by kernel_rfl))) ?_
  intro W base args ds gs before hval0 hW hcnd hsz hL _
  have hval : ∀ (j : Nat) t v, Tryz.f4.params[j]? = some t → args[j]? = some v → Value.okWide Tryz.prog W .any base t v := hval0
  have hW' := hW
  obtain ⟨p, q, hA0, hV, rfl, hfz, hnd⟩ := hW
  have hA : DataW.TrodAll enc Tryz.prog W 0 (fun _ => true) true Tryz.f4.params.toList args.toList ds p := hA0
  rw [Tryz.params4] at hA hval
  have hA1 := hA
  obtain ⟨v0, vs0, d0, ds0, p0, q0, hargs, rfl, rfl, h0, r0⟩ := trodAll_cons hA
  obtain ⟨v1, vs1, d1, ds1, p1, q1, rfl, rfl, rfl, h1, r1⟩ := trodAll_cons r0
  obtain ⟨v2, vs2, d2, ds2, p2, q2, rfl, rfl, rfl, h2, r2⟩ := trodAll_cons r1
  obtain ⟨rfl, rfl, rfl⟩ := trodAll_nil r2
  obtain rfl : args = #[v0, v1, v2] := by cases args; simp_all
  obtain ⟨rfl, rfl⟩ := trodVars_none hV
  obtain ⟨x0, e0, ok0⟩ := arg_struct (F' := fun e : Ex => [.t (.v (.int .i64 e.op)), .t (.v (.string e.tb)), .t (.v (.string e.nm)), .t (.v (.int .i64 e.ix)), .t (.v (.int .i64 e.vk)), .t (.v (.int .i64 e.vn)), .t (.v (.string e.vs)), .t (.sl .un 8 (e.args.map exT'))]) (β := fun _ => none) Tryz.underlying26 (by kernel_rfl) (hval 0 26 v0 rfl rfl) (rd26) (fun _ => rfl) h0 (Sz.of hsz (j := 0) rfl rfl)
  obtain ⟨x1, e1, ok1⟩ := arg_slice (f := fun x : List Vr => (.sl .un 5 (x.map vrT))) (β := fun _ => none) Tryz.underlying27 (hval 1 27 v1 rfl rfl) (rd27) h1 (Sz.of hsz (j := 1) rfl rfl)
  obtain ⟨x2, e2, ok2⟩ := arg_slice (f := fun r : List M.RV => (.sl .un 3 (r.map rvT))) (β := fun _ => none) Tryz.underlying45 (hval 2 45 v2 rfl rfl) (rd45) h2 (Sz.of hsz (j := 2) rfl rfl)
  clear hA0 hval0 hsz
  refine (Spec.row (fun _ _ h => by cases h) (exc_law x0 x1 x2 .un .un (rd_dom ok1) ok0 (rd_row ok2) _) (.cons e0 (.cons e1 (.cons e2 .nil)))).mono fun e W' ⟨he, bel⟩ => ?_
  subst he
  exact ⟨_, rfl, _, _, _, [], _, [], hW', trodAll_mk1 (shut_bool Tryz.underlying4 _), trodAll_below laidOut _ _ _ _ readable hA1 bel, rfl, bel.frame _, fun h => by cases h⟩
theorem over : Rows.formulaExclusiveRow.holds Tryz.pinned (OpenSpec.ofChange Rows.formulaExclusiveSpec) :=
  OpenClaim.holds_of_wide 4 Tryz.f4 rfl rfl rfl rfl rfl rfl rfl ⟨rfl, rfl, rfl, rfl, rfl⟩ rfl rfl rfl rfl rfl (by kernel_rfl) Tryz.func4 (by kernel_rfl)
    (of_decide_eq_true (by kernel_rfl)) (by unfold Func.isWrapper; first | (rw [if_pos (by decide +kernel)]; kernel_rfl) | (rw [if_neg (by decide +kernel)]; exact ⟨rfl, rfl⟩))
    (fun os started H enc _ => lifted os started H enc)
theorem proved : Rows.FormulaExclusiveCardSaid :=
  Claim7.holds_tied_plain_at .later [] [.data, .data, .data, .data, .pinned] true (true, "960e3ade2bf5877723d88dac58fdb3dde851f07bf1980b459785ae596c9d2cfa") false
    over (fun _ h => by cases h) (by kernel_rfl) (fun _ h => by cases h) formulaExclusive_row_tie rfl ⟨rfl, rfl⟩ (by kernel_rfl) rfl
    (fun f fn hf hfn => by
      obtain rfl : f = 4 := Option.some.inj ((show Tryz.prog.funcNamed "disjoint/disjointlaw16.FormulaExclusive" = some 4 by kernel_rfl).symm.trans hf) |>.symm
      obtain rfl : fn = Tryz.f4 := (Option.some.inj (Tryz.func4.symm.trans hfn)).symm
      exact ⟨by kernel_rfl, fun j t ht => by
        rw [Tryz.params4] at ht
        have hm : t ∈ ([26, 27, 45] : List TypeId) := by simpa using Array.mem_of_getElem? ht
        have hall : (([26, 27, 45] : List TypeId).all fun u => !Tryz.prog.wantsStandIn u) = true := by kernel_rfl
        exact (show Tryz.prog.wantsStandIn t = false by simpa using List.all_eq_true.1 hall t hm)⟩)
    (by kernel_rfl)
end Go.Proofs.YtnnoafgdjjpidaaGreatDoor.rowFormulaExclusive
