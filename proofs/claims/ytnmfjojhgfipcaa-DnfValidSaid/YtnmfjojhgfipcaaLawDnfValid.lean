/- DnfValid: the given statement, out of the walk: for every input the law returns true, and every argument reads as it did. No condition. -/
import Derived.Test.YtnmfjojhgfipcaaRows
import Derived.Test.YtnmfjojhgfipcaaM18
namespace Go.Proofs.Ytnmfjojhgfipcaa.rowDnfValid
open Go.ChangeShapes Go.WideShapes Go.ChangeAt Go.RowKit E W
set_option linter.unusedVariables false
theorem own : ownKnob Try.prog.godebug = none := by kernel_rfl
theorem laidOut : laidOutB Try.prog = true := by kernel_rfl
theorem readable : ∀ t ∈ ([28, 29] : List TypeId), Try.prog.readableRec t = true ∧ t < Try.prog.types.size := by
  intro t ht
  simp only [List.mem_cons, List.not_mem_nil, or_false] at ht
  rcases ht with rfl | rfl
  all_goals exact ⟨by kernel_rfl, of_decide_eq_true (by kernel_rfl)⟩
set_option maxRecDepth 100000 in
theorem lifted (os : Os) (started : os.Started) (H : Type) (enc : TypeId × Value → H) :
    ReturnsInHanded {} Try.checked os 7 .any (Rows.dnfValidSpec.pre6 enc Try.prog Try.f7 Rows.dnfValidRow.domain false) (Rows.dnfValidSpec.post enc Try.prog Try.f7 false true false false) := by
  refine returnsInHanded_of_change_sized (C := Try.checked) own started (by kernel_rfl) Try.func7
    (ChangeSpec.witness6 (enc := enc) (C := Try.checked) false ⟨#[], #[.agg #[.slice none 0 0, .slice none 0 0, .slice none 0 0, .slice none 0 0, .slice none 0 0, .slice none 0 0, .slice none 0 0], .slice none 0 0], []⟩ 8 (by kernel_rfl) (by kernel_rfl) (by kernel_rfl) (by kernel_rfl)) ?_
  intro W base args ds gs before hval0 hW hcnd hsz _
  have hval : ∀ (j : Nat) t v, Try.f7.params[j]? = some t → args[j]? = some v → Value.okWide Try.prog W .any base t v := hval0
  have hW' := hW
  obtain ⟨p, q, hA0, hV, rfl, hfz, hnd⟩ := hW
  have hA : DataW.TrodAll enc Try.prog W 0 (fun _ => true) true Try.f7.params.toList args.toList ds p := hA0
  rw [Try.params7] at hA hval
  have hA1 := hA
  obtain ⟨v0, vs0, d0, ds0, p0, q0, hargs, rfl, rfl, h0, r0⟩ := trodAll_cons hA
  obtain ⟨v1, vs1, d1, ds1, p1, q1, rfl, rfl, rfl, h1, r1⟩ := trodAll_cons r0
  obtain ⟨rfl, rfl, rfl⟩ := trodAll_nil r1
  obtain rfl : args = #[v0, v1] := by cases args; simp_all
  obtain ⟨rfl, rfl⟩ := trodVars_none hV
  obtain ⟨x0, e0, ok0⟩ := arg_struct (F' := fun c : Cl => [.t (.sl .un 1 (c.nl.map i64T)), .t (.sl .un 1 (c.nn.map i64T)), .t (.sl .un 4 (c.ax.map axT)), .t (.sl .un 3 (c.is.map ctT)), .t (.sl .un 4 (c.ts.map tsT)), .t (.sl .un 2 (c.sm.map prT)), .t (.sl .un 2 (c.df.map prT))]) (β := fun _ => none) Try.underlying28 (by kernel_rfl) (hval 0 28 v0 rfl rfl) (rd28) (fun _ => rfl) h0 (Sz.of hsz (j := 0) rfl rfl)
  obtain ⟨x1, e1, ok1⟩ := arg_slice (f := fun x : List Vr => (.sl .un 5 (x.map vrT))) (β := fun _ => none) Try.underlying29 (hval 1 29 v1 rfl rfl) (rd29) h1 (Sz.of hsz (j := 1) rfl rfl)
  clear hA0 hval0 hsz
  refine (Spec.row (fun _ _ h => by cases h) (valid_law x0 x1 .un (rg_of ok0) (rgV_of ok0) (rg_dom ok1) _) (.cons e0 (.cons e1 .nil))).mono fun e W' ⟨he, bel⟩ => ?_
  subst he
  exact ⟨_, rfl, _, _, _, [], _, [], hW', trodAll_mk1 (shut_bool Try.underlying4 _), trodAll_below laidOut _ _ _ _ readable hA1 bel, rfl, bel.frame _, fun h => by cases h⟩
theorem over : Rows.dnfValidRow.holds Try.pinned (OpenSpec.ofChange Rows.dnfValidSpec) :=
  OpenClaim.holds_of_wide 7 Try.f7 rfl rfl rfl rfl rfl rfl rfl ⟨rfl, rfl, rfl, rfl, rfl⟩ rfl rfl rfl rfl rfl (by kernel_rfl) Try.func7 (by kernel_rfl)
    (of_decide_eq_true (by kernel_rfl)) (by unfold Func.isWrapper; first | (rw [if_pos (by decide +kernel)]; kernel_rfl) | (rw [if_neg (by decide +kernel)]; exact ⟨rfl, rfl⟩))
    (fun os started H enc _ => lifted os started H enc)
theorem proved : Rows.DnfValidSaid :=
  over
end Go.Proofs.Ytnmfjojhgfipcaa.rowDnfValid
