/- PlanValid: the given statement, out of the walk: for every input the law returns true, and every argument reads as it did. No condition. -/
import Derived.Test.YtihlgigaejhilaaGreatRows
import Derived.Test.YtihlgigaejhilaaGreatM20
namespace Go.Proofs.YtihlgigaejhilaaGreat.rowPlanValid
open Go.ChangeShapes Go.WideShapes Go.ChangeAt Go.RowKit E W
set_option linter.unusedVariables false
theorem own : ownKnob Tryz.prog.godebug = none := by kernel_rfl
theorem laidOut : laidOutB Tryz.prog = true := by kernel_rfl
theorem readable : ∀ t ∈ ([32, 35] : List TypeId), Tryz.prog.readableRec t = true ∧ t < Tryz.prog.types.size := by
  intro t ht
  simp only [List.mem_cons, List.not_mem_nil, or_false] at ht
  rcases ht with rfl | rfl
  all_goals exact ⟨by kernel_rfl, of_decide_eq_true (by kernel_rfl)⟩
set_option maxRecDepth 100000 in
theorem lifted (os : Os) (started : os.Started) (H : Type) (enc : TypeId × Value → H) :
    ReturnsInHanded {} Tryz.checked os 3 .any (Rows.planValidSpec.pre6 enc Tryz.prog Tryz.f3 Rows.planValidRow.domain false) (Rows.planValidSpec.post enc Tryz.prog Tryz.f3 false true false false) := by
  refine returnsInHanded_of_change_sized (C := Tryz.checked) own started (by kernel_rfl) Tryz.func3
    (ChangeSpec.witness6 (enc := enc) (C := Tryz.checked) false ⟨#[], #[.agg #[.slice none 0 0, .slice none 0 0, .slice none 0 0, .int .i64 0, .string ⟨#[]⟩, .string ⟨#[]⟩, .int .i64 0, .int .i64 0, .int .i64 0, .string ⟨#[]⟩, .slice none 0 0], .agg #[.int .i64 0, .int .i64 0, .slice none 0 0, .slice none 0 0, .int .i64 0, .string ⟨#[]⟩, .string ⟨#[]⟩, .int .i64 0, .int .i64 0, .int .i64 0, .string ⟨#[]⟩, .slice none 0 0, .slice none 0 0]], []⟩ 8 (by kernel_rfl) (by kernel_rfl) (by kernel_rfl) (by kernel_rfl)) ?_
  intro W base args ds gs before hval0 hW hcnd hsz _
  have hval : ∀ (j : Nat) t v, Tryz.f3.params[j]? = some t → args[j]? = some v → Value.okWide Tryz.prog W .any base t v := hval0
  have hW' := hW
  obtain ⟨p, q, hA0, hV, rfl, hfz, hnd⟩ := hW
  have hA : DataW.TrodAll enc Tryz.prog W 0 (fun _ => true) true Tryz.f3.params.toList args.toList ds p := hA0
  rw [Tryz.params3] at hA hval
  have hA1 := hA
  obtain ⟨v0, vs0, d0, ds0, p0, q0, hargs, rfl, rfl, h0, r0⟩ := trodAll_cons hA
  obtain ⟨v1, vs1, d1, ds1, p1, q1, rfl, rfl, rfl, h1, r1⟩ := trodAll_cons r0
  obtain ⟨rfl, rfl, rfl⟩ := trodAll_nil r1
  obtain rfl : args = #[v0, v1] := by cases args; simp_all
  obtain ⟨rfl, rfl⟩ := trodVars_none hV
  obtain ⟨x0, e0, ok0⟩ := arg_struct (F' := fun c : Cs => [.t (.sl .un 5 (c.sch.map tbT)), .t (.sl .un 1 (c.frm.map i64T)), .t (.sl .un 1 (c.al.map sT)), .t (.v (.int .i64 c.wh.op)), .t (.v (.string c.wh.tb)), .t (.v (.string c.wh.nm)), .t (.v (.int .i64 c.wh.ix)), .t (.v (.int .i64 c.wh.vk)), .t (.v (.int .i64 c.wh.vn)), .t (.v (.string c.wh.vs)), .t (.sl .un 8 (c.wh.args.map exT'))]) (β := fun _ => none) Tryz.underlying32 (by kernel_rfl) (hval 0 32 v0 rfl rfl) (rd32) (fun _ => rfl) h0 (Sz.of hsz (j := 0) rfl rfl)
  obtain ⟨x1, e1, ok1⟩ := arg_struct (F' := fun p : Pl => [.t (.v (.int .i64 p.k)), .t (.v (.int .i64 p.src)), .t (.sl .un 1 (p.cols.map i64T)), .t (.sl .un 8 (p.keys.map exT')), .t (.v (.int .i64 p.flt.op)), .t (.v (.string p.flt.tb)), .t (.v (.string p.flt.nm)), .t (.v (.int .i64 p.flt.ix)), .t (.v (.int .i64 p.flt.vk)), .t (.v (.int .i64 p.flt.vn)), .t (.v (.string p.flt.vs)), .t (.sl .un 8 (p.flt.args.map exT')), .t (.sl .un 13 (p.args.map plT'))]) (β := fun _ => none) Tryz.underlying35 (by kernel_rfl) (hval 1 35 v1 rfl rfl) (rd35) (fun _ => rfl) h1 (Sz.of hsz (j := 1) rfl rfl)
  clear hA0 hval0 hsz
  refine (Spec.row (fun _ _ h => by cases h) (E.Spec.mono (planValid_walk x0 ok0 x1 ok1 _) fun _ _ h => h.1) (.cons e0 (.cons e1 .nil))).mono fun e W' ⟨he, bel⟩ => ?_
  subst he
  exact ⟨_, rfl, _, _, _, [], _, [], hW', trodAll_mk1 (shut_bool Tryz.underlying4 _), trodAll_below laidOut _ _ _ _ readable hA1 bel, rfl, bel.frame _, fun h => by cases h⟩
theorem over : Rows.planValidRow.holds Tryz.pinned (OpenSpec.ofChange Rows.planValidSpec) :=
  OpenClaim.holds_of_wide 3 Tryz.f3 rfl rfl rfl rfl rfl rfl rfl ⟨rfl, rfl, rfl, rfl, rfl⟩ rfl rfl rfl rfl rfl (by kernel_rfl) Tryz.func3 (by kernel_rfl)
    (of_decide_eq_true (by kernel_rfl)) (by unfold Func.isWrapper; first | (rw [if_pos (by decide +kernel)]; kernel_rfl) | (rw [if_neg (by decide +kernel)]; exact ⟨rfl, rfl⟩))
    (fun os started H enc _ => lifted os started H enc)
theorem proved : Rows.PlanValidSaid :=
  over
end Go.Proofs.YtihlgigaejhilaaGreat.rowPlanValid
