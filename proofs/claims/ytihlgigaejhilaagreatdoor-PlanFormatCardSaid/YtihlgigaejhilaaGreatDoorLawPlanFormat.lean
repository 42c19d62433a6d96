/- PlanFormat: the given statement, out of the walk: for every input the law returns true, and every argument reads as it did. No condition. -/
import Derived.Test.YtihlgigaejhilaaGreatDoorCards
import Derived.Test.YtihlgigaejhilaaGreatDoorTie
import Derived.LaidMore
import Derived.Lay
import Derived.ProofKit
import Derived.OpenShut
import Derived.Stop.Joined
import Derived.SevenTiedAt
import Derived.Test.YtihlgigaejhilaaGreatDoorM21
namespace Go.Proofs.YtihlgigaejhilaaGreatDoor.rowPlanFormat
open Go.ChangeShapes Go.WideShapes Go.ChangeAt Go.RowKit E W
set_option linter.unusedVariables false
theorem own : ownKnob Tryz.prog.godebug = none := by kernel_rfl
theorem laidOut : laidOutB Tryz.prog = true := by kernel_rfl
theorem readable : ∀ t ∈ ([32, 35] : List TypeId), Tryz.prog.readableRec t = true ∧ t < Tryz.prog.types.size := by
  intro t ht
  simp only [List.mem_cons, List.not_mem_nil, or_false] at ht
  rcases ht with rfl | rfl
  all_goals exact ⟨by kernel_rfl, of_decide_eq_true (by kernel_rfl)⟩
set_option maxRecDepth 100000 in
theorem lifted (os : Os) (started : os.Started) (H : Type) (enc : TypeId × Value → H) :
    ReturnsInHanded {} Tryz.checked os 3 .any (fun w args => (Rows.planFormatSpec.pre enc Tryz.prog Tryz.f3 [] false w args ∧ laidMetH Tryz.prog Rows.planFormatRow.laid w) ∧ sizedMet enc Tryz.prog Tryz.f3 (OpenSpec.ofChange Rows.planFormatSpec) false w args) (Rows.planFormatSpec.post enc Tryz.prog Tryz.f3 false true false false) := by
  refine handed_and_shaped (C := Tryz.checked) (X := fun w _ => laidMetH Tryz.prog Rows.planFormatRow.laid w) (fun _ _ _ hh h => h.of_heap hh) own started (by kernel_rfl) Tryz.func3
    (ChangeSpec.witness_shaped (enc := enc) (C := Tryz.checked) (os := os) (X := fun w _ => laidMetH Tryz.prog Rows.planFormatRow.laid w) false (World.laidAll Tryz.prog os Rows.planFormatRow.laid) #[.agg #[.slice none 0 0, .slice none 0 0, .slice none 0 0, .int .i64 0, .string ⟨#[]⟩, .string ⟨#[]⟩, .int .i64 0, .int .i64 0, .int .i64 0, .string ⟨#[]⟩, .slice none 0 0], .agg #[.int .i64 0, .int .i64 0, .slice none 0 0, .slice none 0 0, .int .i64 0, .string ⟨#[]⟩, .string ⟨#[]⟩, .int .i64 0, .int .i64 0, .int .i64 0, .string ⟨#[]⟩, .slice none 0 0, .slice none 0 0]] 8 (World.laidAll_os _ _ _) (World.shaped_of_ZipB (by kernel_rfl) (by kernel_rfl)) (by kernel_rfl) (by kernel_rfl) (by kernel_rfl) (by rw [MakeChecks.laidMetH_plain _ _ _ (by kernel_rfl)]; exact laidMet_laidAll _ (by kernel_rfl) (by kernel_rfl))) ?_
  intro W base args ds gs before hval0 hW hcnd hsz hL hSh _
  have hval : ∀ (j : Nat) t v, Tryz.f3.params[j]? = some t → args[j]? = some v → Value.okWide Tryz.prog W .any base t v := hval0
  have hW' := hW
  obtain ⟨p, q, hA0, hV, rfl, hfz, hnd⟩ := hW
  have hA : DataW.TrodAll enc Tryz.prog W 0 (fun _ => true) true Tryz.f3.params.toList args.toList ds p := hA0
  rw [Tryz.params3] at hA hval
  have hA1 := hA
  obtain ⟨v0, vs0, d0, ds0, p0, q0, hargs, rfl, rfl, h0, r0⟩ := trodAll_cons hA
  obtain ⟨v1, vs1, d1, ds1, p1, q1, rfl, rfl, rfl, h1, r1⟩ := trodAll_cons r0
  obtain ⟨rfl, rfl, rfl⟩ := trodAll_nil r1
  obtain rfl : args = #[v0, v1] := by cases args; simp_all
  obtain ⟨rfl, rfl⟩ := trodVars_none hV
  obtain ⟨x0, e0, ok0⟩ := arg_struct (F' := fun c : Cs => [.t (.sl .un 5 (c.sch.map tbT)), .t (.sl .un 1 (c.frm.map i64T)), .t (.sl .un 1 (c.al.map sT)), .t (.v (.int .i64 c.wh.op)), .t (.v (.string c.wh.tb)), .t (.v (.string c.wh.nm)), .t (.v (.int .i64 c.wh.ix)), .t (.v (.int .i64 c.wh.vk)), .t (.v (.int .i64 c.wh.vn)), .t (.v (.string c.wh.vs)), .t (.sl .un 8 (c.wh.args.map exT'))]) (β := fun _ => none) Tryz.underlying32 (by kernel_rfl) (hval 0 32 v0 rfl rfl) (rd32) (fun _ => rfl) h0 (Sz.of hsz (j := 0) rfl rfl)
  obtain ⟨x1, e1, ok1⟩ := arg_struct (F' := fun p : Pl => [.t (.v (.int .i64 p.k)), .t (.v (.int .i64 p.src)), .t (.sl .un 1 (p.cols.map i64T)), .t (.sl .un 8 (p.keys.map exT')), .t (.v (.int .i64 p.flt.op)), .t (.v (.string p.flt.tb)), .t (.v (.string p.flt.nm)), .t (.v (.int .i64 p.flt.ix)), .t (.v (.int .i64 p.flt.vk)), .t (.v (.int .i64 p.flt.vn)), .t (.v (.string p.flt.vs)), .t (.sl .un 8 (p.flt.args.map exT')), .t (.sl .un 13 (p.args.map plT'))]) (β := fun _ => none) Tryz.underlying35 (by kernel_rfl) (hval 1 35 v1 rfl rfl) (rd35) (fun _ => rfl) h1 (Sz.of hsz (j := 1) rfl rfl)
  clear hA0 hval0 hsz
  have hL1 := laidMetH.filter (fun x => x.1 == "internal/strconv.uint64pow10") hL
  have eL : (Rows.planFormatRow.laid.filter fun x => x.1 == "internal/strconv.uint64pow10") = [("internal/strconv.uint64pow10", Lib.tabData .u64 Lib.pow10Tab)] := by kernel_rfl
  rw [eL] at hL1
  have hL2 : laidMet Tryz.prog [("internal/strconv.uint64pow10", Lib.tabData .u64 Lib.pow10Tab)] W := hL1
  have hOp := openBlock (g := 0) (zero := #[.int .i64 0]) (t := 3) hSh (of_decide_eq_true (by kernel_rfl)) (by kernel_rfl) rfl (by kernel_rfl) (by kernel_rfl) Tryz.underlying3
  have hTab : TabW W := tab2_of (g := 1) (g0 := 0) (Lib.tabIs_of_head (g := 1) (t := 211) (e := 169) (n := 20) (by kernel_rfl) (by kernel_rfl) Tryz.underlying211 Tryz.underlying169 (by kernel_rfl) (by kernel_rfl) hL2) (by kernel_rfl) hOp fun g q h => by
    unfold TAB at h
    split at h
    · rename_i e; injection h with h; exact .inl ⟨e, h.symm⟩
    · split at h
      · rename_i e; injection h with h; exact .inr ⟨e, h.symm⟩
      · cases h
  clear hSh hOp
  refine (Spec.row hTab (E.Spec.mono (planFormat_walk x0 ok0 x1 ok1 _) fun _ _ h => h.1) (.cons e0 (.cons e1 .nil))).mono fun e W' ⟨he, bel⟩ => ?_
  subst he
  exact ⟨_, rfl, _, _, _, [], _, [], hW', trodAll_mk1 (shut_bool Tryz.underlying4 _), trodAll_below laidOut _ _ _ _ readable hA1 bel, rfl, bel.frame _, fun h => by cases h⟩
theorem over : Rows.planFormatRow.holds Tryz.pinned (OpenSpec.ofChange Rows.planFormatSpec) :=
  OpenClaim.holds_of_wide 3 Tryz.f3 rfl rfl rfl rfl rfl rfl rfl ⟨rfl, rfl, rfl, rfl, rfl⟩ rfl rfl rfl rfl rfl (by kernel_rfl) Tryz.func3 (by kernel_rfl)
    (of_decide_eq_true (by kernel_rfl)) (by unfold Func.isWrapper; first | (rw [if_pos (by decide +kernel)]; kernel_rfl) | (rw [if_neg (by decide +kernel)]; exact ⟨rfl, rfl⟩))
    (fun os started H enc _ => lifted os started H enc)
theorem proved : Rows.PlanFormatCardSaid :=
  Claim7.holds_tied_plain_at .later [] [.data, .data, .data, .data, .pinned] true (true, "161c365d2e02408c6144acb337e5c12faa1c6b523919c6f7bd4125b3a3e1bc19") false
    over (fun _ h => by cases h) (by kernel_rfl) (fun _ h => by cases h) planFormat_row_tie rfl ⟨rfl, rfl⟩ (by kernel_rfl) rfl
    (fun f fn hf hfn => by
      obtain rfl : f = 3 := Option.some.inj ((show Tryz.prog.funcNamed "disjoint/disjointlaw44.PlanFormat" = some 3 by kernel_rfl).symm.trans hf) |>.symm
      obtain rfl : fn = Tryz.f3 := (Option.some.inj (Tryz.func3.symm.trans hfn)).symm
      exact ⟨by kernel_rfl, fun j t ht => by
        rw [Tryz.params3] at ht
        have hm : t ∈ ([32, 35] : List TypeId) := by simpa using Array.mem_of_getElem? ht
        have hall : (([32, 35] : List TypeId).all fun u => !Tryz.prog.wantsStandIn u) = true := by kernel_rfl
        exact (show Tryz.prog.wantsStandIn t = false by simpa using List.all_eq_true.1 hall t hm)⟩)
    (by kernel_rfl)
end Go.Proofs.YtihlgigaejhilaaGreatDoor.rowPlanFormat
