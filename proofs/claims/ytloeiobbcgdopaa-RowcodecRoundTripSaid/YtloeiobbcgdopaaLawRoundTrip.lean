/- RowcodecRoundTrip: the given statement, out of the walk: for every input the law returns true, and every argument reads as it did. No condition. -/
import Derived.Test.YtloeiobbcgdopaaRows
import Derived.Test.YtloeiobbcgdopaaFrame
import Derived.Test.YtloeiobbcgdopaaRoundTrip
namespace Go.Proofs.Ytloeiobbcgdopaa.rowRowcodecRoundTrip
open Go.ChangeShapes Go.WideShapes Go.ChangeAt Go.RowKit L Fr
open Go.ChangeMaps (open_string shut_string)
set_option linter.unusedVariables false
theorem own : ownKnob Try.prog.godebug = none := by kernel_rfl
theorem laidOut : laidOutB Try.prog = true := by kernel_rfl
theorem readable : ∀ t ∈ ([32] : List TypeId), Try.prog.readableRec t = true ∧ t < Try.prog.types.size := by
  intro t ht
  simp only [List.mem_cons, List.not_mem_nil, or_false] at ht
  subst ht
  all_goals exact ⟨by kernel_rfl, of_decide_eq_true (by kernel_rfl)⟩
set_option maxRecDepth 100000 in
theorem lifted (os : Os) (started : os.Started) (H : Type) (enc : TypeId × Value → H) :
    ReturnsInHanded {} Try.checked os 10 .any (Rows.rowcodecRoundTripSpec.pre6 enc Try.prog Try.f10 Rows.rowcodecRoundTripRow.domain false) (Rows.rowcodecRoundTripSpec.post enc Try.prog Try.f10 false true false false) := by
  refine returnsInHanded_of_change_sized (C := Try.checked) own started (by kernel_rfl) Try.func10
    (ChangeSpec.witness6 (enc := enc) (C := Try.checked) false ⟨#[], #[.slice none 0 0], []⟩ 8 (by kernel_rfl) (by kernel_rfl) (by kernel_rfl) (by kernel_rfl)) ?_
  intro W base args ds gs before hval0 hW hcnd hsz _
  have hval : ∀ (j : Nat) t v, Try.f10.params[j]? = some t → args[j]? = some v → Value.okWide Try.prog W .any base t v := hval0
  have hW' := hW
  obtain ⟨p, q, hA0, hV, rfl, hfz, hnd⟩ := hW
  have hA : DataW.TrodAll enc Try.prog W 0 (fun _ => true) true Try.f10.params.toList args.toList ds p := hA0
  rw [Try.params10] at hA hval
  have hA1 := hA
  obtain ⟨v0, vs0, d0, ds0, p0, q0, hargs, rfl, rfl, h0, r0⟩ := trodAll_cons hA
  obtain ⟨rfl, rfl, rfl⟩ := trodAll_nil r0
  obtain rfl : args = #[v0] := by cases args; simp_all
  obtain ⟨rfl, rfl⟩ := trodVars_none hV
  obtain ⟨x0, rd0, ok0⟩ := row_of_arg Try.underlying32 Try.underlying23 rfl (by kernel_rfl) (by kernel_rfl) rfl Try.underlying3 Try.underlying2 Try.underlying9 (by kernel_rfl) (hval 0 32 v0 rfl rfl) h0 (Sz.of hsz (j := 0) rfl rfl)
  clear hA0 hval0 hsz
  refine (Rt.walk v0 x0 ok0 W rd0).mono fun e W' ⟨he, bel⟩ => ?_
  subst he
  exact ⟨_, rfl, _, _, _, [], _, [], hW', trodAll_mk1 (shut_bool Try.underlying4 _), trodAll_below laidOut _ _ _ _ readable hA1 bel, rfl, bel.frame _, fun h => by cases h⟩

theorem over : Rows.rowcodecRoundTripRow.holds Try.pinned (OpenSpec.ofChange Rows.rowcodecRoundTripSpec) :=
  OpenClaim.holds_of_wide 10 Try.f10 rfl rfl rfl rfl rfl rfl rfl ⟨rfl, rfl, rfl, rfl, rfl⟩ rfl rfl rfl rfl rfl (by kernel_rfl) Try.func10 (by kernel_rfl)
    (of_decide_eq_true (by kernel_rfl)) (by unfold Func.isWrapper; first | (rw [if_pos (by decide +kernel)]; kernel_rfl) | (rw [if_neg (by decide +kernel)]; exact ⟨rfl, rfl⟩))
    (fun os started H enc _ => lifted os started H enc)

theorem proved : Rows.RowcodecRoundTripSaid :=
  over
end Go.Proofs.Ytloeiobbcgdopaa.rowRowcodecRoundTrip
