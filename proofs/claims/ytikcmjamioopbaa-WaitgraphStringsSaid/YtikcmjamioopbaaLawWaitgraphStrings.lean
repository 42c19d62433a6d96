/- WaitgraphStrings: the given statement, out of the walk: for every input the law returns true, and every argument reads as it did. No condition. -/
import Derived.Test.YtikcmjamioopbaaRows
import Derived.Test.YtikcmjamioopbaaM13
namespace Go.Proofs.Ytikcmjamioopbaa.rowWaitgraphStrings
open Go.ChangeShapes Go.WideShapes Go.ChangeAt Go.RowKit E W
set_option linter.unusedVariables false
theorem own : ownKnob Try.prog.godebug = none := by kernel_rfl
theorem laidOut : laidOutB Try.prog = true := by kernel_rfl
theorem readable : ∀ t ∈ ([53, 5] : List TypeId), Try.prog.readableRec t = true ∧ t < Try.prog.types.size := by
  intro t ht
  simp only [List.mem_cons, List.not_mem_nil, or_false] at ht
  rcases ht with rfl | rfl
  all_goals exact ⟨by kernel_rfl, of_decide_eq_true (by kernel_rfl)⟩
set_option maxRecDepth 100000 in
theorem lifted (os : Os) (started : os.Started) (H : Type) (enc : TypeId × Value → H) :
    ReturnsInHanded {} Try.checked os 10 .any (Rows.waitgraphStringsSpec.pre6 enc Try.prog Try.f10 Rows.waitgraphStringsRow.domain false) (Rows.waitgraphStringsSpec.post enc Try.prog Try.f10 false true false false) := by
  refine returnsInHanded_of_change_sized (C := Try.checked) own started (by kernel_rfl) Try.func10
    (ChangeSpec.witness6 (enc := enc) (C := Try.checked) false ⟨#[], #[.slice none 0 0, .int .u8 0], []⟩ 8 (by kernel_rfl) (by kernel_rfl) (by kernel_rfl) (by kernel_rfl)) ?_
  intro W base args ds gs before hval0 hW hcnd hsz _
  have hval : ∀ (j : Nat) t v, Try.f10.params[j]? = some t → args[j]? = some v → Value.okWide Try.prog W .any base t v := hval0
  have hW' := hW
  obtain ⟨p, q, hA0, hV, rfl, hfz, hnd⟩ := hW
  have hA : DataW.TrodAll enc Try.prog W 0 (fun _ => true) true Try.f10.params.toList args.toList ds p := hA0
  rw [Try.params10] at hA hval
  have hA1 := hA
  obtain ⟨v0, vs0, d0, ds0, p0, q0, hargs, rfl, rfl, h0, r0⟩ := trodAll_cons hA
  obtain ⟨v1, vs1, d1, ds1, p1, q1, rfl, rfl, rfl, h1, r1⟩ := trodAll_cons r0
  obtain ⟨rfl, rfl, rfl⟩ := trodAll_nil r1
  obtain rfl : args = #[v0, v1] := by cases args; simp_all
  obtain ⟨rfl, rfl⟩ := trodVars_none hV
  obtain ⟨x0, e0, ok0⟩ := arg_slice (f := fun x : List (List Int) => (.sl .un 2 (x.map fun x => (x.map (fun x : Int => ([.v (.int .u8 x)] : List T))).flatten))) (β := fun _ => none) Try.underlying53 (hval 0 53 v0 rfl rfl) (rd53) h0 (Sz.of hsz (j := 0) rfl rfl)
  obtain ⟨x1, e1, ok1⟩ := arg_int (f := fun x : Int => (.v (.int .u8 x))) (β := fun _ => none) Try.underlying5 (hval 1 5 v1 rfl rfl) (fun N => (Reads.int Try.underlying5)) h1 (Sz.of hsz (j := 1) rfl rfl)
  clear hA0 hval0 hsz
  refine (Spec.row (strings_any x0 x1 (fun x hx => ok0.2.2 x hx) ⟨of_decide_eq_true (Bool.and_eq_true_iff.1 ok1).1, of_decide_eq_true (Bool.and_eq_true_iff.1 ok1).2⟩ _) (.cons e0 (.cons e1 .nil))).mono fun e W' ⟨he, bel⟩ => ?_
  subst he
  exact ⟨_, rfl, _, _, _, [], _, [], hW', trodAll_mk1 (shut_bool Try.underlying4 _), trodAll_below laidOut _ _ _ _ readable hA1 bel, rfl, bel.frame _, fun h => by cases h⟩
theorem over : Rows.waitgraphStringsRow.holds Try.pinned (OpenSpec.ofChange Rows.waitgraphStringsSpec) :=
  OpenClaim.holds_of_wide 10 Try.f10 rfl rfl rfl rfl rfl rfl rfl ⟨rfl, rfl, rfl, rfl, rfl⟩ rfl rfl rfl rfl rfl (by kernel_rfl) Try.func10 (by kernel_rfl)
    (of_decide_eq_true (by kernel_rfl)) (by unfold Func.isWrapper; first | (rw [if_pos (by decide +kernel)]; kernel_rfl) | (rw [if_neg (by decide +kernel)]; exact ⟨rfl, rfl⟩))
    (fun os started H enc _ => lifted os started H enc)
theorem proved : Rows.WaitgraphStringsSaid :=
  over
end Go.Proofs.Ytikcmjamioopbaa.rowWaitgraphStrings
