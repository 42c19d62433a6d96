/- PlanNaive: the given statement, out of the walk: for every input the law returns true, and every argument reads as it did. No condition. -/
import Derived.Test.YtihlgigaejhilaaRows
import Derived.Test.YtihlgigaejhilaaM20
namespace Go.Proofs.Ytihlgigaejhilaa.rowPlanNaive
open Go.ChangeShapes Go.WideShapes Go.ChangeAt Go.RowKit E W
set_option linter.unusedVariables false
theorem own : ownKnob Try.prog.godebug = none := by kernel_rfl
theorem laidOut : laidOutB Try.prog = true := by kernel_rfl
theorem readable : ∀ t ∈ ([38] : List TypeId), Try.prog.readableRec t = true ∧ t < Try.prog.types.size := by
  intro t ht
  simp only [List.mem_cons, List.not_mem_nil, or_false] at ht
  subst ht
  all_goals exact ⟨by kernel_rfl, of_decide_eq_true (by kernel_rfl)⟩
set_option maxRecDepth 100000 in
theorem lifted (os : Os) (started : os.Started) (H : Type) (enc : TypeId × Value → H) :
    ReturnsInHanded {} Try.checked os 5 .any (Rows.planNaiveSpec.pre6 enc Try.prog Try.f5 Rows.planNaiveRow.domain false) (Rows.planNaiveSpec.post enc Try.prog Try.f5 false true false false) := by
  refine returnsInHanded_of_change_sized (C := Try.checked) own started (by kernel_rfl) Try.func5
    (ChangeSpec.witness6 (enc := enc) (C := Try.checked) false ⟨#[], #[.agg #[.slice none 0 0, .slice none 0 0, .slice none 0 0, .int .i64 0, .string ⟨#[]⟩, .string ⟨#[]⟩, .int .i64 0, .int .i64 0, .int .i64 0, .string ⟨#[]⟩, .slice none 0 0]], []⟩ 8 (by kernel_rfl) (by kernel_rfl) (by kernel_rfl) (by kernel_rfl)) ?_
  intro W base args ds gs before hval0 hW hcnd hsz _
  have hval : ∀ (j : Nat) t v, Try.f5.params[j]? = some t → args[j]? = some v → Value.okWide Try.prog W .any base t v := hval0
  have hW' := hW
  obtain ⟨p, q, hA0, hV, rfl, hfz, hnd⟩ := hW
  have hA : DataW.TrodAll enc Try.prog W 0 (fun _ => true) true Try.f5.params.toList args.toList ds p := hA0
  rw [Try.params5] at hA hval
  have hA1 := hA
  obtain ⟨v0, vs0, d0, ds0, p0, q0, hargs, rfl, rfl, h0, r0⟩ := trodAll_cons hA
  obtain ⟨rfl, rfl, rfl⟩ := trodAll_nil r0
  obtain rfl : args = #[v0] := by cases args; simp_all
  obtain ⟨rfl, rfl⟩ := trodVars_none hV
  obtain ⟨x0, e0, ok0⟩ := arg_struct (F' := fun c : Cs => [.t (.sl .un 5 (c.sch.map tbT)), .t (.sl .un 1 (c.frm.map i64T)), .t (.sl .un 1 (c.al.map sT)), .t (.v (.int .i64 c.wh.op)), .t (.v (.string c.wh.tb)), .t (.v (.string c.wh.nm)), .t (.v (.int .i64 c.wh.ix)), .t (.v (.int .i64 c.wh.vk)), .t (.v (.int .i64 c.wh.vn)), .t (.v (.string c.wh.vs)), .t (.sl .un 8 (c.wh.args.map exT'))]) (β := fun _ => none) Try.underlying38 (by kernel_rfl) (hval 0 38 v0 rfl rfl) (rd38) (fun _ => rfl) h0 (Sz.of hsz (j := 0) rfl rfl)
  clear hA0 hval0 hsz
  refine (Spec.row (fun _ _ h => by cases h) (E.Spec.mono (planNaive_walk x0 ok0 _) fun _ _ h => h.1) (.cons e0 .nil)).mono fun e W' ⟨he, bel⟩ => ?_
  subst he
  exact ⟨_, rfl, _, _, _, [], _, [], hW', trodAll_mk1 (shut_bool Try.underlying4 _), trodAll_below laidOut _ _ _ _ readable hA1 bel, rfl, bel.frame _, fun h => by cases h⟩
theorem over : Rows.planNaiveRow.holds Try.pinned (OpenSpec.ofChange Rows.planNaiveSpec) :=
  OpenClaim.holds_of_wide 5 Try.f5 rfl rfl rfl rfl rfl rfl rfl ⟨rfl, rfl, rfl, rfl, rfl⟩ rfl rfl rfl rfl rfl (by kernel_rfl) Try.func5 (by kernel_rfl)
    (of_decide_eq_true (by kernel_rfl)) (by unfold Func.isWrapper; first | (rw [if_pos (by decide +kernel)]; kernel_rfl) | (rw [if_neg (by decide +kernel)]; exact ⟨rfl, rfl⟩))
    (fun os started H enc _ => lifted os started H enc)
theorem proved : Rows.PlanNaiveSaid :=
  over
end Go.Proofs.Ytihlgigaejhilaa.rowPlanNaive
