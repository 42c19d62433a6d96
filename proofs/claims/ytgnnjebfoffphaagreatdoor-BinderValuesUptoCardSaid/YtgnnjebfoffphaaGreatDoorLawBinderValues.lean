/- BinderValues, for everything read of bulk at most 1048576: the given statement, out of the walk: the law returns true, and every argument reads as it did. No condition besides. -/
import Derived.LaidMore
import Derived.Lay
import Derived.ProofKit
import Derived.OpenShut
import Derived.Stop.Joined
import Derived.SevenTiedAt
import Derived.Deep.DeepHandedRow
import Derived.Test.YtgnnjebfoffphaaGreatDoorCards
import Derived.Test.YtgnnjebfoffphaaGreatDoorTie
import Derived.Test.YtgnnjebfoffphaaGreatDoorM25
namespace Go.Proofs.YtgnnjebfoffphaaGreatDoor.rowBinderValues
open Go.ChangeShapes Go.WideShapes Go.ChangeAt Go.RowKit E M Q W
set_option linter.unusedVariables false
theorem own : ownKnob Tryz.prog.godebug = none := by kernel_rfl
theorem laidOut : laidOutB Tryz.prog = true := by kernel_rfl
theorem readable : ∀ t ∈ ([23, 40, 55] : List TypeId), Tryz.prog.readableRec t = true ∧ t < Tryz.prog.types.size := by
  intro t ht
  simp only [List.mem_cons, List.not_mem_nil, or_false] at ht
  rcases ht with rfl | rfl | rfl
  all_goals exact ⟨by kernel_rfl, of_decide_eq_true (by kernel_rfl)⟩
theorem witness_shaped {H : Type} {enc : TypeId × Value → H} {C : Checked} {os : Os} {f : FuncId} {fn : Func} {s : OpenSpec} {conds : List PathCond} {apart : Bool} {laid : List (String × DataW Unit)} (modest : Bool) (w0 : World) (args : Array Value) (hos : w0.os = os)
    (hsh : (w0.forCall (fun _ _ => 0) ⟨#[], args, []⟩).Shaped C.prog) (hok : Input.okWideB C.prog (w0.forCall (fun _ _ => 0) ⟨#[], args, []⟩) f ⟨#[], args, []⟩ = true)
    (hrow : s.preRow enc C.prog fn conds apart laid (w0.forCall (fun _ _ => 0) ⟨#[], args, []⟩).memory args) :
    ∃ (w : World) (tape : Tape) (i : Input), w.os = os ∧ (w.forCall tape i).Shaped C.prog ∧ i.vars = [] ∧ Input.okWide C.prog (w.forCall tape i) .any w.heap.size f i ∧
      s.preRow enc C.prog fn conds apart laid (w.forCall tape i).memory i.args ∧ ({ modest := modest } : Assume).holds C.prog (lone (Frame.enter C.prog f i.args .normal) [] (w.forCall tape i)) :=
  ⟨w0, fun _ _ => 0, ⟨#[], args, []⟩, hos, hsh, (Input.okWide_of_okWideB (base := 0) hok).1, (Input.okWide_of_okWideB hok).2, hrow, by
    simp only [Assume.holds]
    exact ⟨by simp, by simp, fun _ => Modest.zero, by simp, by simp⟩⟩
set_option maxRecDepth 100000 in
theorem lifted (os : Os) (started : os.Started) (H : Type) (enc : TypeId × Value → H) (F : Stop.Interp) :
    ReturnsInHanded {} Tryz.checked os 5 .any ((Rows.OpenSpec.upto Rows.binderValuesSpec).preRow enc Tryz.prog Tryz.f5 Rows.binderValuesUptoRow.domain false Rows.binderValuesUptoRow.laid) (((Rows.OpenSpec.upto Rows.binderValuesSpec).at F).post enc Tryz.prog Tryz.f5 false true false false) := by
  have hx : (DataW.whole enc Tryz.prog ((World.laidAll Tryz.prog os Rows.binderValuesUptoRow.laid).forCall (fun _ _ => 0) ⟨#[], #[.slice none 0 0, .agg #[.int .i64 0, .string ⟨#[]⟩, .slice none 0 0, .slice none 0 0, .slice none 0 0, .slice none 0 0, .slice none 0 0, .slice none 0 0, .slice none 0 0, .slice none 0 0, .int .i64 0, .string ⟨#[]⟩, .string ⟨#[]⟩, .int .i64 0, .int .i64 0, .int .i64 0, .string ⟨#[]⟩, .slice none 0 0, .slice none 0 0, .slice none 0 0, .int .i64 0, .string ⟨#[]⟩], .slice none 0 0], []⟩).memory Tryz.f5.params.toList (Rows.OpenSpec.upto Rows.binderValuesSpec).vars false (#[.slice none 0 0, .agg #[.int .i64 0, .string ⟨#[]⟩, .slice none 0 0, .slice none 0 0, .slice none 0 0, .slice none 0 0, .slice none 0 0, .slice none 0 0, .slice none 0 0, .slice none 0 0, .int .i64 0, .string ⟨#[]⟩, .string ⟨#[]⟩, .int .i64 0, .int .i64 0, .int .i64 0, .string ⟨#[]⟩, .slice none 0 0, .slice none 0 0, .slice none 0 0, .int .i64 0, .string ⟨#[]⟩], .slice none 0 0] : Array Value).toList 8).isSome = true := by kernel_rfl
  refine returnsInHanded_of_row (C := Tryz.checked) (s := Rows.OpenSpec.upto Rows.binderValuesSpec) own started (by kernel_rfl) Tryz.func5
    (witness_shaped (enc := enc) (C := Tryz.checked) false (World.laidAll Tryz.prog os Rows.binderValuesUptoRow.laid) #[.slice none 0 0, .agg #[.int .i64 0, .string ⟨#[]⟩, .slice none 0 0, .slice none 0 0, .slice none 0 0, .slice none 0 0, .slice none 0 0, .slice none 0 0, .slice none 0 0, .slice none 0 0, .int .i64 0, .string ⟨#[]⟩, .string ⟨#[]⟩, .int .i64 0, .int .i64 0, .int .i64 0, .string ⟨#[]⟩, .slice none 0 0, .slice none 0 0, .slice none 0 0, .int .i64 0, .string ⟨#[]⟩], .slice none 0 0] (World.laidAll_os _ _ _) (World.shaped_of_ZipB (by kernel_rfl) (by kernel_rfl)) (by kernel_rfl)
      (OpenSpec.preRow_of_cond 8 (Option.some_get hx).symm (by kernel_rfl) (fun k hk => by cases hk; kernel_rfl) (by kernel_rfl) (by rw [MakeChecks.laidMetH_plain _ _ _ (by kernel_rfl)]; exact laidMet_laidAll _ (by kernel_rfl) (by kernel_rfl)))) ?_
  intro W base args ds gs before hval0 hW _ hcond _ hL hSh _
  have hbulk := hcond _ rfl
  have hval : ∀ (j : Nat) t v, Tryz.f5.params[j]? = some t → args[j]? = some v → Value.okWide Tryz.prog W .any base t v := hval0
  have hW' := hW
  obtain ⟨p, q, hA0, hV, rfl, hfz, hnd⟩ := hW
  have hA : DataW.TrodAll enc Tryz.prog W 0 (fun _ => true) true Tryz.f5.params.toList args.toList ds p := hA0
  rw [Tryz.params5] at hA hval
  have hA1 := hA
  obtain ⟨v0, vs0, d0, ds0, p0, q0, hargs, rfl, rfl, h0, r0⟩ := trodAll_cons hA
  obtain ⟨v1, vs1, d1, ds1, p1, q1, rfl, rfl, rfl, h1, r1⟩ := trodAll_cons r0
  obtain ⟨v2, vs2, d2, ds2, p2, q2, rfl, rfl, rfl, h2, r2⟩ := trodAll_cons r1
  obtain ⟨rfl, rfl, rfl⟩ := trodAll_nil r2
  obtain rfl : args = #[v0, v1, v2] := by cases args; simp_all
  obtain ⟨rfl, rfl⟩ := trodVars_none hV
  obtain ⟨x0, e0, ok0, bk0⟩ := argB_slice (f := fun x : List Tb => (.sl .un 5 (x.map tbT))) (β := fun _ => none) Tryz.underlying23 (hval 0 23 v0 rfl rfl) (rd23) h0
  obtain ⟨x1, e1, ok1, bk1⟩ := argB_struct (F' := fun x : St => [.t (.v (.int .i64 x.k)), .t (.v (.string x.tb)), .t (.sl .un 6 (x.cr.cols.map coT)), .t (.sl .un 1 (x.cr.keys.map sLT)), .t (.sl .un 3 (x.cr.fks.map rfT)), .t (.sl .un 8 (x.cr.chks.map exT')), .t (.sl .un 1 (x.vals.map exLT)), .t (.sl .un 10 (x.sets.map asT)), .t (.sl .un 9 (x.its.map itT)), .t (.sl .un 2 (x.frm.map frT)), .t (.v (.int .i64 x.wh.op)), .t (.v (.string x.wh.tb)), .t (.v (.string x.wh.nm)), .t (.v (.int .i64 x.wh.ix)), .t (.v (.int .i64 x.wh.vk)), .t (.v (.int .i64 x.wh.vn)), .t (.v (.string x.wh.vs)), .t (.sl .un 8 (x.wh.args.map exT')), .t (.sl .un 8 (x.grp.map exT')), .t (.sl .un 2 (x.ord.map odT)), .t (.v (.int .i64 x.lim)), .t (.v (.string x.nm))]) (β := fun _ => none) Tryz.underlying40 (by kernel_rfl) (hval 1 40 v1 rfl rfl) (rd40) (fun _ => rfl) h1
  obtain ⟨x2, e2, ok2, bk2⟩ := argB_slice (f := fun x : List RV => (.sl .un 3 (x.map rvT))) (β := fun _ => none) Tryz.underlying55 (hval 2 55 v2 rfl rfl) (rd55) h2
  have hbk0 : Rows.uptoBulkAll _ ≤ 1048576 := of_decide_eq_true hbulk
  simp only [List.append_nil, Rows.uptoBulkAll] at hbk0
  have hbk : bkS [(fun x : List Tb => (.sl .un 5 (x.map tbT))) x0] + bkS (stT x1) + bkS [(fun x : List RV => (.sl .un 3 (x.map rvT))) x2] ≤ 1048576 := Nat.le_trans (Nat.add_le_add (Nat.add_le_add bk0 bk1) bk2) (by omega)
  clear hA0 hval0 hbulk hcond
  have hL1 := laidMetH.filter (fun x => x.1 == "internal/strconv.uint64pow10") hL
  have eL : (Rows.binderValuesUptoRow.laid.filter fun x => x.1 == "internal/strconv.uint64pow10") = [("internal/strconv.uint64pow10", Lib.tabData .u64 Lib.pow10Tab)] := by kernel_rfl
  rw [eL] at hL1
  have hL2 : laidMet Tryz.prog [("internal/strconv.uint64pow10", Lib.tabData .u64 Lib.pow10Tab)] W := hL1
  have hOp := openBlock (g := 0) (zero := #[.int .i64 0]) (t := 3) hSh (of_decide_eq_true (by kernel_rfl)) (by kernel_rfl) rfl (by kernel_rfl) (by kernel_rfl) Tryz.underlying3
  have hTab : TabW W := tab2_of (g := 1) (g0 := 0) (Lib.tabIs_of_head (g := 1) (t := 269) (e := 232) (n := 20) (by kernel_rfl) (by kernel_rfl) Tryz.underlying269 Tryz.underlying232 (by kernel_rfl) (by kernel_rfl) hL2) (by kernel_rfl) hOp fun g q h => by
    unfold TAB at h
    split at h
    · rename_i e; injection h with h; exact .inl ⟨e, h.symm⟩
    · split at h
      · rename_i e; injection h with h; exact .inr ⟨e, h.symm⟩
      · cases h
  refine (Spec.row hTab (values_rd (d := x0) (st := x1) (r := x2) ok0 ok1 hbk) (.cons e0 (.cons e1 (.cons e2 .nil)))).mono fun e W' ⟨he, bel⟩ => ?_
  subst he
  exact ⟨_, rfl, _, _, _, [], _, [], hW', trodAll_mk1 (shut_bool Tryz.underlying4 _), trodAll_below laidOut _ _ _ _ readable hA1 bel, rfl, bel.frame _, fun h => by cases h⟩
theorem over : Rows.BinderValuesUptoSaid :=
  OpenClaim.holds_of_cond 5 Tryz.f5 rfl rfl rfl rfl rfl rfl rfl ⟨rfl, rfl, rfl, rfl, rfl⟩ rfl rfl rfl rfl rfl (by kernel_rfl) Tryz.func5 (by kernel_rfl)
    (of_decide_eq_true (by kernel_rfl)) (by unfold Func.isWrapper; first | (rw [if_pos (by decide +kernel)]; kernel_rfl) | (rw [if_neg (by decide +kernel)]; exact ⟨rfl, rfl⟩))
    (fun os started H enc _ F => by rw [OpenClaim.pre_eq_preRow]; exact lifted os started H enc F)
theorem proved : Rows.BinderValuesUptoCardSaid :=
  Claim7.holds_tied_plain_at .later [] [.data, .data, .data, .data, .pinned] true (true, "7ca27a635f2ac6180dafeb94c819819a52376532178e01c70af4c0cf7c3a2268") false
    over (fun _ h => by cases h) (by kernel_rfl) (fun _ h => by cases h) binderValuesUpto_row_tie rfl ⟨rfl, rfl⟩ (by kernel_rfl) rfl
    (fun f fn hf hfn => by
      obtain rfl : f = 5 := Option.some.inj ((show Tryz.prog.funcNamed "disjoint/disjointlaw15.BinderValues" = some 5 by kernel_rfl).symm.trans hf) |>.symm
      obtain rfl : fn = Tryz.f5 := (Option.some.inj (Tryz.func5.symm.trans hfn)).symm
      exact ⟨by kernel_rfl, fun j t ht => by
        rw [Tryz.params5] at ht
        have hm : t ∈ ([23, 40, 55] : List TypeId) := by simpa using Array.mem_of_getElem? ht
        have hall : (([23, 40, 55] : List TypeId).all fun u => !Tryz.prog.wantsStandIn u) = true := by kernel_rfl
        exact (show Tryz.prog.wantsStandIn t = false by simpa using List.all_eq_true.1 hall t hm)⟩)
    (by kernel_rfl)
end Go.Proofs.YtgnnjebfoffphaaGreatDoor.rowBinderValues
