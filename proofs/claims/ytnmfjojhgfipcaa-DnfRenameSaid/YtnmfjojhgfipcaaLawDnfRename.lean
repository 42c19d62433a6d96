/- DnfRename: the given statement, out of the walk: for every input the law returns true, and every argument reads as it did. No condition. -/
import Derived.Test.YtnmfjojhgfipcaaRows
import Derived.Test.YtnmfjojhgfipcaaM19
namespace Go.Proofs.Ytnmfjojhgfipcaa.rowDnfRename
open Go.ChangeShapes Go.WideShapes Go.ChangeAt Go.RowKit E W
set_option linter.unusedVariables false
theorem own : ownKnob Try.prog.godebug = none := by kernel_rfl
theorem laidOut : laidOutB Try.prog = true := by kernel_rfl
theorem readable : ∀ t ∈ ([39] : List TypeId), Try.prog.readableRec t = true ∧ t < Try.prog.types.size := by
  intro t ht
  simp only [List.mem_cons, List.not_mem_nil, or_false] at ht
  subst ht
  all_goals exact ⟨by kernel_rfl, of_decide_eq_true (by kernel_rfl)⟩
set_option maxRecDepth 100000 in
theorem lifted (os : Os) (started : os.Started) (H : Type) (enc : TypeId × Value → H) :
    ReturnsInHanded {} Try.checked os 5 .any (Rows.dnfRenameSpec.pre6 enc Try.prog Try.f5 Rows.dnfRenameRow.domain false) (Rows.dnfRenameSpec.post enc Try.prog Try.f5 false true false false) := by
  refine returnsInHanded_of_change_sized (C := Try.checked) own started (by kernel_rfl) Try.func5
    (ChangeSpec.witness6 (enc := enc) (C := Try.checked) false ⟨#[], #[.agg #[.slice none 0 0, .slice none 0 0, .slice none 0 0, .slice none 0 0, .slice none 0 0, .slice none 0 0, .slice none 0 0, .slice none 0 0, .slice none 0 0, .slice none 0 0, .int .i64 0]], []⟩ 8 (by kernel_rfl) (by kernel_rfl) (by kernel_rfl) (by kernel_rfl)) ?_
  intro W base args ds gs before hval0 hW hcnd hsz _
  have hval : ∀ (j : Nat) t v, Try.f5.params[j]? = some t → args[j]? = some v → Value.okWide Try.prog W .any base t v := hval0
  have hW' := hW
  obtain ⟨p, q, hA0, hV, rfl, hfz, hnd⟩ := hW
  have hA : DataW.TrodAll enc Try.prog W 0 (fun _ => true) true Try.f5.params.toList args.toList ds p := hA0
  rw [Try.params5] at hA hval
  have hA1 := hA
  obtain ⟨v0, vs0, d0, ds0, p0, q0, hargs, rfl, rfl, h0, r0⟩ := trodAll_cons hA
  obtain ⟨rfl, rfl, rfl⟩ := trodAll_nil r0
  obtain rfl : args = #[v0] := by cases args; simp_all
  obtain ⟨rfl, rfl⟩ := trodVars_none hV
  obtain ⟨x0, e0, ok0⟩ := arg_struct (F' := fun x : Rn => [.t (.sl .un 1 (x.c.nl.map i64T)), .t (.sl .un 1 (x.c.nn.map i64T)), .t (.sl .un 4 (x.c.ax.map axT)), .t (.sl .un 3 (x.c.is.map ctT)), .t (.sl .un 4 (x.c.ts.map tsT)), .t (.sl .un 2 (x.c.sm.map prT)), .t (.sl .un 2 (x.c.df.map prT)), .t (.sl .un 5 (x.l.map vrT)), .t (.sl .un 3 (x.r.map rvT)), .t (.sl .un 1 (x.q.map i64T)), .t (.v (.int .i64 x.n))]) (β := fun _ => none) Try.underlying39 (by kernel_rfl) (hval 0 39 v0 rfl rfl) (rd39) (fun _ => rfl) h0 (Sz.of hsz (j := 0) rfl rfl)
  clear hA0 hval0 hsz
  refine (Spec.row (fun _ _ h => by cases h) (rename_law x0.c x0.l x0.r x0.q x0.n (rg_of ok0.1) (rg_dom ok0.2.1) (rg_row ok0.2.2.1).1 (rg_row ok0.2.2.1).2 (by have := ok0.2.2.2.1.1; omega) _) (.cons e0 .nil)).mono fun e W' ⟨he, bel⟩ => ?_
  subst he
  exact ⟨_, rfl, _, _, _, [], _, [], hW', trodAll_mk1 (shut_bool Try.underlying4 _), trodAll_below laidOut _ _ _ _ readable hA1 bel, rfl, bel.frame _, fun h => by cases h⟩
theorem over : Rows.dnfRenameRow.holds Try.pinned (OpenSpec.ofChange Rows.dnfRenameSpec) :=
  OpenClaim.holds_of_wide 5 Try.f5 rfl rfl rfl rfl rfl rfl rfl ⟨rfl, rfl, rfl, rfl, rfl⟩ rfl rfl rfl rfl rfl (by kernel_rfl) Try.func5 (by kernel_rfl)
    (of_decide_eq_true (by kernel_rfl)) (by unfold Func.isWrapper; first | (rw [if_pos (by decide +kernel)]; kernel_rfl) | (rw [if_neg (by decide +kernel)]; exact ⟨rfl, rfl⟩))
    (fun os started H enc _ => lifted os started H enc)
theorem proved : Rows.DnfRenameSaid :=
  over
end Go.Proofs.Ytnmfjojhgfipcaa.rowDnfRename
