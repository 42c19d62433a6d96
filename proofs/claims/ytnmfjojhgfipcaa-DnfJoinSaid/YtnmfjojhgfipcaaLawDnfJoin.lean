/- DnfJoin: the given statement, out of the walk: for every input the law returns true, and every argument reads as it did. No condition. -/
import Derived.Test.YtnmfjojhgfipcaaRows
import Derived.Test.YtnmfjojhgfipcaaM20
namespace Go.Proofs.Ytnmfjojhgfipcaa.rowDnfJoin
open Go.ChangeShapes Go.WideShapes Go.ChangeAt Go.RowKit E W
set_option linter.unusedVariables false
theorem own : ownKnob Try.prog.godebug = none := by kernel_rfl
theorem laidOut : laidOutB Try.prog = true := by kernel_rfl
theorem readable : ∀ t ∈ ([46] : List TypeId), Try.prog.readableRec t = true ∧ t < Try.prog.types.size := by
  intro t ht
  simp only [List.mem_cons, List.not_mem_nil, or_false] at ht
  subst ht
  all_goals exact ⟨by kernel_rfl, of_decide_eq_true (by kernel_rfl)⟩
set_option maxRecDepth 100000 in
theorem lifted (os : Os) (started : os.Started) (H : Type) (enc : TypeId × Value → H) :
    ReturnsInHanded {} Try.checked os 6 .any (Rows.dnfJoinSpec.pre6 enc Try.prog Try.f6 Rows.dnfJoinRow.domain false) (Rows.dnfJoinSpec.post enc Try.prog Try.f6 false true false false) := by
  refine returnsInHanded_of_change_sized (C := Try.checked) own started (by kernel_rfl) Try.func6
    (ChangeSpec.witness6 (enc := enc) (C := Try.checked) false ⟨#[], #[.agg #[.slice none 0 0, .slice none 0 0, .slice none 0 0, .slice none 0 0, .slice none 0 0, .slice none 0 0, .slice none 0 0, .slice none 0 0, .slice none 0 0, .slice none 0 0, .slice none 0 0, .slice none 0 0, .slice none 0 0, .slice none 0 0, .slice none 0 0, .slice none 0 0]], []⟩ 8 (by kernel_rfl) (by kernel_rfl) (by kernel_rfl) (by kernel_rfl)) ?_
  intro W base args ds gs before hval0 hW hcnd hsz _
  have hval : ∀ (j : Nat) t v, Try.f6.params[j]? = some t → args[j]? = some v → Value.okWide Try.prog W .any base t v := hval0
  have hW' := hW
  obtain ⟨p, q, hA0, hV, rfl, hfz, hnd⟩ := hW
  have hA : DataW.TrodAll enc Try.prog W 0 (fun _ => true) true Try.f6.params.toList args.toList ds p := hA0
  rw [Try.params6] at hA hval
  have hA1 := hA
  obtain ⟨v0, vs0, d0, ds0, p0, q0, hargs, rfl, rfl, h0, r0⟩ := trodAll_cons hA
  obtain ⟨rfl, rfl, rfl⟩ := trodAll_nil r0
  obtain rfl : args = #[v0] := by cases args; simp_all
  obtain ⟨rfl, rfl⟩ := trodVars_none hV
  obtain ⟨x0, e0, ok0⟩ := arg_struct (F' := fun x : Pa => [.t (.sl .un 1 (x.a.nl.map i64T)), .t (.sl .un 1 (x.a.nn.map i64T)), .t (.sl .un 4 (x.a.ax.map axT)), .t (.sl .un 3 (x.a.is.map ctT)), .t (.sl .un 4 (x.a.ts.map tsT)), .t (.sl .un 2 (x.a.sm.map prT)), .t (.sl .un 2 (x.a.df.map prT)), .t (.sl .un 1 (x.b.nl.map i64T)), .t (.sl .un 1 (x.b.nn.map i64T)), .t (.sl .un 4 (x.b.ax.map axT)), .t (.sl .un 3 (x.b.is.map ctT)), .t (.sl .un 4 (x.b.ts.map tsT)), .t (.sl .un 2 (x.b.sm.map prT)), .t (.sl .un 2 (x.b.df.map prT)), .t (.sl .un 5 (x.l.map vrT)), .t (.sl .un 3 (x.r.map rvT))]) (β := fun _ => none) Try.underlying46 (by kernel_rfl) (hval 0 46 v0 rfl rfl) (rd46) (fun _ => rfl) h0 (Sz.of hsz (j := 0) rfl rfl)
  clear hA0 hval0 hsz
  refine (Spec.row (fun _ _ h => by cases h) (join_law x0.a x0.b x0.l x0.r (rg_of ok0.1) (rg_of ok0.2.1) (rg_dom ok0.2.2.1) (rg_row ok0.2.2.2.1).1 (rg_row ok0.2.2.2.1).2 _) (.cons e0 .nil)).mono fun e W' ⟨he, bel⟩ => ?_
  subst he
  exact ⟨_, rfl, _, _, _, [], _, [], hW', trodAll_mk1 (shut_bool Try.underlying4 _), trodAll_below laidOut _ _ _ _ readable hA1 bel, rfl, bel.frame _, fun h => by cases h⟩
theorem over : Rows.dnfJoinRow.holds Try.pinned (OpenSpec.ofChange Rows.dnfJoinSpec) :=
  OpenClaim.holds_of_wide 6 Try.f6 rfl rfl rfl rfl rfl rfl rfl ⟨rfl, rfl, rfl, rfl, rfl⟩ rfl rfl rfl rfl rfl (by kernel_rfl) Try.func6 (by kernel_rfl)
    (of_decide_eq_true (by kernel_rfl)) (by unfold Func.isWrapper; first | (rw [if_pos (by decide +kernel)]; kernel_rfl) | (rw [if_neg (by decide +kernel)]; exact ⟨rfl, rfl⟩))
    (fun os started H enc _ => lifted os started H enc)
theorem proved : Rows.DnfJoinSaid :=
  over
end Go.Proofs.Ytnmfjojhgfipcaa.rowDnfJoin
