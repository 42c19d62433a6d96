/- Parts of the proof, one after the other: W31, W32, W33, W34, W38, W39, W40, W41. No condition. -/
import Derived.Test.YtihlgigaejhilaaGreatDoorM18
set_option linter.unusedSectionVars false
set_option linter.unusedSimpArgs false
set_option linter.unusedVariables false
namespace Go.Proofs.YtihlgigaejhilaaGreatDoor.W
open Go.RowKit E
/-! the example of the document -/
abbrev xB : ByteArray := ⟨#[120]⟩
abbrev zB : ByteArray := ⟨#[122]⟩
abbrev yB : ByteArray := ⟨#[121]⟩
abbrev colE (n : Int) : Ex := ⟨2, ⟨#[]⟩, xB, n, 0, 0, ⟨#[]⟩, []⟩
abbrev fiveE : Ex := ⟨1, ⟨#[]⟩, ⟨#[]⟩, 0, 1, 5, ⟨#[]⟩, []⟩
abbrev sameE : Ex := ⟨10, ⟨#[]⟩, ⟨#[]⟩, 0, 0, 0, ⟨#[]⟩, [colE 0, colE 2]⟩
abbrev moreE : Ex := ⟨14, ⟨#[]⟩, ⟨#[]⟩, 0, 0, 0, ⟨#[]⟩, [colE 1, fiveE]⟩
abbrev whE : Ex := ⟨18, ⟨#[]⟩, ⟨#[]⟩, 0, 0, 0, ⟨#[]⟩, [sameE, moreE]⟩
abbrev colD (s : ByteArray) : Co := ⟨s, 1, 0, 9, 0, false⟩
abbrev schE : List Tb := [⟨⟨#[97]⟩, [colD xB, colD zB], [], [], []⟩, ⟨⟨#[98]⟩, [colD yB], [], [], []⟩]
abbrev casE : Cs := ⟨schE, [0, 1], [⟨#[]⟩, ⟨#[]⟩], whE⟩
abbrev rngE : Pl := ⟨3, 0, [1], [fiveE, ex0], ex0, []⟩
abbrev lkpE : Pl := ⟨2, 1, [0], [colE 0], ex0, []⟩
abbrev planE : Pl := ⟨5, 0, [], [], ex0, [⟨4, 0, [], [], moreE, [rngE]⟩, lkpE]⟩
abbrev planQ : Pl := ⟨5, 0, [], [], ex0, [rngE, lkpE]⟩
theorem exm_ss : ssP casE.sch := by decide
theorem exm_bin : binB 8 casE.wh = true := by decide
theorem exm_wit : witB casE.sch casE.frm (num3 casE.frm.length) casE.wh = true := by decide
theorem exm_few : fewB 7 planE = true := by decide
theorem exm_fewQ : fewB 7 planQ = true := by decide
theorem exm_vld : vldS casE.sch := by decide +kernel
theorem exm_us : usM schE (bdM casE) (cnj whE) planE = some [(1, false), (1, true), (0, true)] := by decide

theorem exm_fr : frQ casE := by decide
theorem exm_rr : ∀ j (h : j < casE.frm.length), frR casE j h := by decide
theorem bnd_mk {c : Cs} (h1 : ssP c.sch) (h2 : vldS c.sch) (h3 : frQ c) (h4 : binB 8 c.wh = true) (h5 : ∀ j (h : j < c.frm.length), frR c j h) (h6 : witB c.sch c.frm (num3 c.frm.length) c.wh = true) : bndP c := ⟨⟨⟨h1, h2⟩, h3, h4⟩, h5, h6⟩
theorem exm_bnd : bndP casE := bnd_mk exm_ss exm_vld exm_fr exm_bin exm_rr exm_wit
theorem exm_usQ : usM schE (bdM casE) (cnj whE) planQ = some [(1, false), (0, true)] := by decide
theorem exm_lf1 : lfP schE (bdM casE) [] rngE := by decide
theorem exm_lf2 : lfP schE (bdM casE) ([] ++ srM planE.args[0]) lkpE := by decide
theorem exm_lf3 : lfP schE (bdM casE) ([] ++ srM rngE) lkpE := by decide
theorem exm_ov : ovB schE [0, 1] ([] ++ srM rngE) moreE = true := by decide
theorem exm_shF : shB schE (bdM casE) ⟨4, 0, [], [], moreE, [rngE]⟩ [] = true := by
  rw [shB_4 (by decide) rfl rfl]
  show (_ && (shB schE (bdM casE) rngE [] && _)) = true
  rw [shB_leaf (by decide), decide_eq_true exm_lf1]
  exact Bool.and_eq_true_iff.2 ⟨by decide, Bool.and_eq_true_iff.2 ⟨rfl, exm_ov⟩⟩
theorem exm_sh : shB schE (bdM casE) planE [] = true := by
  rw [shB_5 (by decide) (by decide) rfl]
  show (_ && (shB schE (bdM casE) ⟨4, 0, [], [], moreE, [rngE]⟩ [] && shB schE (bdM casE) lkpE ([] ++ srM planE.args[0]))) = true
  rw [exm_shF, shB_leaf (p := lkpE) (by decide), decide_eq_true exm_lf2]; rfl
theorem exm_shQ : shB schE (bdM casE) planQ [] = true := by
  rw [shB_5 (by decide) (by decide) rfl]
  show (_ && (shB schE (bdM casE) rngE [] && shB schE (bdM casE) lkpE ([] ++ srM rngE))) = true
  rw [shB_leaf (p := rngE) (by decide), decide_eq_true exm_lf1, shB_leaf (p := lkpE) (by decide), decide_eq_true exm_lf3]; rfl
theorem srt01 : srtI [0, 1] = [0, 1] := List.mergeSort_of_pairwise (by decide)
theorem exm_shp : shpP schE (bdM casE) planE := by
  refine ⟨exm_sh, ?_⟩
  rw [show srM planE = [0, 1] by decide, srt01]; decide
theorem exm_shpQ : shpP schE (bdM casE) planQ := by
  refine ⟨exm_shQ, ?_⟩
  rw [show srM planQ = [0, 1] by decide, srt01]; decide
theorem exm_pv : pvP schE (bdM casE) planE := ⟨exm_shp, by
  unfold uvB; show (match usM schE (bdM casE) (cnj whE) planE with | none => false | some us => (List.range (cnj whE).length).all (cvB us)) = true
  rw [exm_us]; decide⟩
theorem exm_pvQ : ¬ pvP schE (bdM casE) planQ := fun h => by
  have h9 := h.2
  unfold uvB at h9
  change (match usM schE (bdM casE) (cnj whE) planQ with | none => false | some us => (List.range (cnj whE).length).all (cvB us)) = true at h9
  rw [exm_usQ] at h9; revert h9; decide
theorem exm_okE : okE whE := by simp only [okE, okEs]; decide
theorem exm_okP : okP planE := by simp only [okP, okPs, okE, okEs, List.mem_cons, List.not_mem_nil, or_false, forall_eq_or_imp, forall_eq, false_implies, implies_true, and_true, true_and]; decide
theorem exm_okPQ : okP planQ := by simp only [okP, okPs, okE, okEs, List.mem_cons, List.not_mem_nil, or_false, forall_eq_or_imp, forall_eq, false_implies, implies_true, and_true, true_and]; decide

end Go.Proofs.YtihlgigaejhilaaGreatDoor.W
namespace Go.Proofs.YtihlgigaejhilaaGreatDoor.W
open Go.RowKit E
/-! the example, and the check that all laws begin with -/
set_option maxHeartbeats 16000000 in
set_option maxRecDepth 20000 in
theorem exc_fn (n : Int) : Pure Tryz.prog 34 [iC n] (.c (exC (colE n))) := by
 intro H
 refine Spec.enter Tryz.func34 rfl ?_
 refine AW.wk (Wk.keep 5 [(0, .c (iC n))] [] (H) rfl ⟨rfl, trivial⟩ trivial (fun _ _ h => h) rfl) ?_
 refine sR (Z25 (r := [_, _, _, _, _, _, _, _]) Fx.ze30 ?_)
 refine Z3 (sR (sM ?_))
 refine Z34 (zs := [_, _, _, _, _, _, _, _]) (r := [_, _, _, _, _, _, _, _]) [(0, 1), (1, 1), (2, 1), (3, 1), (4, 3), (7, 1)] Fx.ze30 Fx.bp30 ?_
 refine SeqK.xw 4 rfl (XW.g (.cons XW.reA (.cons XW.reA (.cons XW.reA (.cons XW.reA (.cons XW.reA (.cons XW.reA (.cons XW.reA (.cons (XW.nilU (sz := 8)) .nil))))))))) ?_
 refine Z15 (r := [_, _, _, _, _, _, _, _]) Fx.ty30 ?_
 refine Z3 (AW.ret ?_)
 exact fin_x (x := .c _) (H) (.cellL rfl rfl Fx.ty30 rfl rfl .nil) rfl (fun _ _ h => h) (⟨rfl, rfl⟩)

theorem exm_okC : okC casE := by
  refine ⟨by decide, fun t ht => ?_, by decide, by decide, by decide, exm_okE⟩
  have ht : t ∈ schE := ht
  simp only [schE, List.mem_cons, List.not_mem_nil, or_false] at ht
  rcases ht with rfl | rfl <;> exact ⟨by decide, by decide, by decide, by decide, by decide, by decide, by decide, by decide, by simp⟩
theorem exm_okB : okB schE (bdM casE) := ⟨by decide, by decide, by decide⟩

set_option maxHeartbeats 16000000 in
set_option maxRecDepth 20000 in
theorem example_any (H : Heap) : E.Spec Tryz.prog 15 [] H fun x H' => x = .tup [scC .un schE, bdC (bdM casE), plC planE] ∧ H' = H := by
 refine Spec.enter Tryz.func15 rfl ?_
 refine AW.wk (Wk.keep 69 [] [] (H) rfl trivial trivial (fun _ _ h => h) rfl) ?_
 refine sR (sA ?_)
 refine Z25 (r := [_, _, _, _, _, _, _, _, _, _, _, _, _, _, _, _, _, _, _, _, _, _, _, _, _, _]) Fx.ze51 ?_
 refine Z25 (r := [_, _, _, _, _, _, _, _, _, _, _, _, _]) Fx.ze35 ?_
 refine Z3 (sR (sB ?_))
 refine AW.seq (AW.xw 3 rfl XW.fn0 ?_)
 refine AW.reg (Z34 (zs := [_, _, _, _, _, _]) (r := [_, _, _, _, _, _]) [(0, 1), (1, 1), (2, 1), (3, 1), (4, 1), (5, 1)] Fx.ze82 Fx.bp82 ?_)
 refine Z25 (r := [_, _, _, _, _, _]) Fx.ze82 ?_
 refine Z15 (r := [_, _, _, _, _, _]) Fx.ty82 ?_
 refine Z3 (sR (Z34 (zs := [_, _, _, _, _, _]) (r := [_, _, _, _, _, _]) [(0, 1), (1, 1), (2, 1), (3, 1), (4, 1), (5, 1)] Fx.ze82 Fx.bp82 ?_))
 refine Z25 (r := [_, _, _, _, _, _]) Fx.ze82 ?_
 refine Z15 (r := [_, _, _, _, _, _]) Fx.ty82 ?_
 refine Z3 (sR (Z34 (zs := [_, _, _, _, _, _]) (r := [_, _, _, _, _, _]) [(0, 1), (1, 1), (2, 1), (3, 1), (4, 1), (5, 1)] Fx.ze82 Fx.bp82 ?_))
 refine Z25 (r := [_, _, _, _, _, _]) Fx.ze82 ?_
 refine Z15 (r := [_, _, _, _, _, _]) Fx.ty82 ?_
 refine Z3 (sR (Z34 (zs := [_, _, _]) (r := [_, _, _]) [(0, 1), (1, 1), (2, 1)] Fx.ze27 Fx.bp27 ?_))
 refine Z34 (zs := [_, _, _, _, _, _, _, _]) (r := [_, _, _, _, _, _, _, _]) [(0, 1), (1, 1), (2, 1), (3, 1), (4, 3), (7, 1)] Fx.ze30 Fx.bp30 ?_
 refine SeqK.xw 18 rfl (XW.g (.cons XW.reA (.cons XW.reA (.cons XW.reA (.cons XW.reA (.cons XW.reA (.cons XW.reA (.cons XW.reA (.cons (XW.nilU (sz := 8)) .nil))))))))) ?_
 refine Z25 (r := [_, _, _, _, _, _, _, _]) Fx.ze30 ?_
 refine Z15 (r := [_, _, _, _, _, _, _, _]) Fx.ty30 ?_
 refine Z3 (sR (sM ?_))
 refine SeqK.r (g_callV (f := 34) (cs := []) rfl rfl Fx.fn34 rfl (exc_fn 0 _) rfl rfl rfl) rfl ?_
 refine sM ?_
 refine SeqK.r (g_callV (f := 34) (cs := []) rfl rfl Fx.fn34 rfl (exc_fn 2 _) rfl rfl rfl) rfl ?_
 refine Z38 Fx.el28 ?_
 refine Z34 (zs := [_, _, _, _, _, _, _, _]) (r := [_, _, _, _, _, _, _, _]) [(0, 1), (1, 1), (2, 1), (3, 1), (4, 3), (7, 1)] Fx.ze30 Fx.bp30 ?_
 refine SeqK.xw 24 rfl (XW.g (.cons XW.reA (.cons XW.reA (.cons XW.reA (.cons XW.reA (.cons XW.reA (.cons XW.reA (.cons XW.reA (.cons (XW.es (es' := [colE 0, colE 2].map exT') rfl) .nil))))))))) ?_
 refine Z25 (r := [_, _, _, _, _, _, _, _]) Fx.ze30 ?_
 refine Z15 (r := [_, _, _, _, _, _, _, _]) Fx.ty30 ?_
 refine Z3 (AW.seq (AW.draw Fx.mo ?_))
 refine Z18 ?_
 refine LexK.r (g_callV (f := 34) (cs := []) rfl rfl Fx.fn34 rfl (exc_fn 1 _) rfl rfl rfl) rfl ?_
 refine Z45 (r := .g [_, _, _, _, _, _, _, _]) Fx.ty30 ?_
 refine LexK.q (q_buildSlice _ rfl Fx.el28 rfl (by decide) rfl) rfl rfl rfl ?_
 refine LexK.q (q_build2 (zs := [_, _, _, _, _, _, _, _]) (r := [_, _, _, _, _, _, _, _]) [(0, 1), (1, 1), (2, 1), (3, 1), (4, 3), (7, 1)] _ rfl Fx.ze30 rfl Fx.bp30 rfl rfl rfl rfl) rfl rfl rfl ?_
 refine LexK.r (b_alloc (r := [_, _, _, _, _, _, _, _]) rfl rfl Fx.ze30 rfl rfl rfl rfl) rfl ?_
 refine LexK.r (b_store (r := [_, _, _, _, _, _, _, _]) rfl rfl Fx.ty30 rfl rfl rfl rfl rfl rfl) rfl ?_
 refine Z30 ?_
 refine AW.xwL 9 rfl (.cons XW.reA (.cons XW.reA (.cons XW.reA (.cons XW.reA (.cons XW.reA (.cons XW.reA (.cons XW.reA (.cons (XW.es (es' := [colE 1, fiveE].map exT') rfl) .nil)))))))) ?_
 refine sR (Z12 (r := .g [_, _, _, _, _, _]) Fx.ty82 ?_)
 refine Z12 (r := .g [_, _, _, _, _, _]) Fx.ty82 ?_
 refine Z38 Fx.el36 ?_
 refine Z34 (zs := [_, _, _, _, _]) (r := [_, _, _, _, _]) [(0, 1), (1, 1), (2, 1), (3, 1), (4, 1)] Fx.ze64 Fx.bp64 ?_
 refine SeqK.xw 33 rfl (XW.g (.cons XW.reA (.cons (XW.es (es' := [colD xB, colD zB].map coT) rfl) (.cons (XW.nilU (sz := 1)) (.cons (XW.nilU (sz := 3)) (.cons (XW.nilU (sz := 8)) .nil)))))) ?_
 refine Z12 (r := .g [_, _, _, _, _, _]) Fx.ty82 ?_
 refine Z38 Fx.el36 ?_
 refine Z34 (zs := [_, _, _, _, _]) (r := [_, _, _, _, _]) [(0, 1), (1, 1), (2, 1), (3, 1), (4, 1)] Fx.ze64 Fx.bp64 ?_
 refine SeqK.xw 36 rfl (XW.g (.cons XW.reA (.cons (XW.es (es' := [colD yB].map coT) rfl) (.cons (XW.nilU (sz := 1)) (.cons (XW.nilU (sz := 3)) (.cons (XW.nilU (sz := 8)) .nil)))))) ?_
 refine Z38 Fx.el23 ?_
 refine SeqK.xw 37 rfl (XW.es (es' := schE.map tbT) rfl) ?_
 refine Z38 Fx.el24 ?_
 refine SeqK.xw 38 rfl (XW.es (es' := [0, 1].map i64T) rfl) ?_
 refine Z38 Fx.el25 ?_
 refine SeqK.xw 39 rfl (XW.es (es' := [⟨#[]⟩, ⟨#[]⟩].map sT) rfl) ?_
 refine Z12 (r := .g [_, _, _, _, _, _, _, _]) Fx.ty30 ?_
 refine Z12 (r := .g [_, _, _, _, _, _, _, _]) Fx.ty30 ?_
 refine Z38 Fx.el28 ?_
 refine SeqK.xw 42 rfl (XW.es (es' := [sameE, moreE].map exT') rfl) ?_
 refine Z34 (zs := [_, _, _, _, _, _, _, _]) (r := [_, _, _, _, _, _, _, _]) [(0, 1), (1, 1), (2, 1), (3, 1), (4, 3), (7, 1)] Fx.ze30 Fx.bp30 ?_
 refine Z34 (zs := [_, _, _, _, _, _, _, _, _, _, _]) (r := [_, _, _, _, _, _, _, _, _, _, _]) [(0, 1), (1, 1), (2, 1), (3, 8)] Fx.ze32 Fx.bp32 ?_
 refine Z25 (r := [_, _, _, _, _, _, _, _, _, _, _]) Fx.ze32 ?_
 refine Z15 (r := [_, _, _, _, _, _, _, _, _, _, _]) Fx.ty32 ?_
 refine Z3 (sR (Z12 (r := .g [_, _, _, _, _, _, _, _, _, _, _]) Fx.ty32 ?_))
 refine SeqK.callE rfl rfl rfl rfl Fx.fn4 rfl (bound_any H casE exm_okC) (fun _ _ ⟨⟨_, h, _⟩, _⟩ => by rw [h]; rfl) (fun x47 H47 q47 => ?_)
 obtain ⟨⟨b, rfl, hok⟩, hHs⟩ := q47
 replace hHs := hHs.symm
 subst hHs
 obtain rfl := hok exm_bnd
 refine SeqK.q (q_mvT rfl rfl) rfl rfl rfl ?_
 refine Z47 ?_
 refine Z47 ?_
 refine Z25 (r := [_, _, _, _, _, _, _, _, _, _, _, _, _, _, _, _, _, _, _, _, _, _, _, _, _, _]) Fx.ze51 ?_
 refine Z15 (r := [_, _, _, _, _, _, _, _, _, _, _, _, _, _, _, _, _, _, _, _, _, _, _, _, _, _]) Fx.ty51 ?_
 refine sB ?_
 refine AW.seq (AW.draw Fx.mo ?_)
 refine Z45 (r := .g [_, _, _, _, _, _, _, _]) Fx.ty30 ?_
 refine LexK.q (q_buildSlice _ rfl Fx.el24 rfl (by decide) rfl) rfl rfl rfl ?_
 refine Z45 (r := .g [_, _, _, _, _, _, _, _]) Fx.ty30 ?_
 refine LexK.q (q_build2 (zs := [_, _, _, _, _, _, _, _]) (r := [_, _, _, _, _, _, _, _]) [(0, 1), (1, 1), (2, 1), (3, 1), (4, 3), (7, 1)] _ rfl Fx.ze30 rfl Fx.bp30 rfl rfl rfl rfl) rfl rfl rfl ?_
 refine LexK.q (q_buildSlice _ rfl Fx.el28 rfl (by decide) rfl) rfl rfl rfl ?_
 refine LexK.q (q_build2 (zs := [_, _, _, _, _, _, _, _, _, _, _, _, _]) (r := [_, _, _, _, _, _, _, _, _, _, _, _, _]) [(0, 1), (1, 1), (2, 1), (3, 1), (4, 8), (12, 1)] _ rfl Fx.ze35 rfl Fx.bp35 rfl rfl rfl rfl) rfl rfl rfl ?_
 refine LexK.q (q_buildSlice _ rfl Fx.el33 rfl (by decide) rfl) rfl rfl rfl ?_
 refine LexK.q (q_build2 (zs := [_, _, _, _, _, _, _, _, _, _, _, _, _]) (r := [_, _, _, _, _, _, _, _, _, _, _, _, _]) [(0, 1), (1, 1), (2, 1), (3, 1), (4, 8), (12, 1)] _ rfl Fx.ze35 rfl Fx.bp35 rfl rfl rfl rfl) rfl rfl rfl ?_
 refine LexK.q (q_buildSlice _ rfl Fx.el24 rfl (by decide) rfl) rfl rfl rfl ?_
 refine Z18 ?_
 refine LexK.r (g_callV (f := 34) (cs := []) rfl rfl Fx.fn34 rfl (exc_fn 0 _) rfl rfl rfl) rfl ?_
 refine LexK.q (q_buildSlice _ rfl Fx.el28 rfl (by decide) rfl) rfl rfl rfl ?_
 refine LexK.q (q_build2 (zs := [_, _, _, _, _, _, _, _, _, _, _, _, _]) (r := [_, _, _, _, _, _, _, _, _, _, _, _, _]) [(0, 1), (1, 1), (2, 1), (3, 1), (4, 8), (12, 1)] _ rfl Fx.ze35 rfl Fx.bp35 rfl rfl rfl rfl) rfl rfl rfl ?_
 refine LexK.q (q_buildSlice _ rfl Fx.el33 rfl (by decide) rfl) rfl rfl rfl ?_
 refine LexK.q (q_build2 (zs := [_, _, _, _, _, _, _, _, _, _, _, _, _]) (r := [_, _, _, _, _, _, _, _, _, _, _, _, _]) [(0, 1), (1, 1), (2, 1), (3, 1), (4, 8), (12, 1)] _ rfl Fx.ze35 rfl Fx.bp35 rfl rfl rfl rfl) rfl rfl rfl ?_
 refine LexK.r (b_alloc (r := [_, _, _, _, _, _, _, _, _, _, _, _, _]) rfl rfl Fx.ze35 rfl rfl rfl rfl) rfl ?_
 refine LexK.r (b_store (r := [_, _, _, _, _, _, _, _, _, _, _, _, _]) rfl rfl Fx.ty35 rfl rfl rfl rfl rfl rfl) rfl ?_
 refine Z30 ?_
 refine AW.xwL 13 rfl (.cons XW.reA (.cons XW.reA (.cons (XW.nilU (sz := 1)) (.cons (XW.nilU (sz := 8)) (.cons XW.reA (.cons XW.reA (.cons XW.reA (.cons XW.reA (.cons XW.reA (.cons XW.reA (.cons XW.reA (.cons (XW.nilU (sz := 8)) (.cons ((XW.tw (TW.sl (.cons (.cons TW.re (.cons TW.re (.cons TW.nil (.cons TW.nil (.cons TW.re (.cons TW.re (.cons TW.re (.cons TW.re (.cons TW.re (.cons TW.re (.cons TW.re (.cons TW.re (.cons (TW.sl (.cons (.cons TW.re (.cons TW.re (.cons (TW.sl (.cons (.cons TW.re .nil) .nil)) (.cons (TW.sl (.cons (.cons TW.re (.cons TW.re (.cons TW.re (.cons TW.re (.cons TW.re (.cons TW.re (.cons TW.re (.cons TW.re .nil)))))))) (.cons (.cons TW.re (.cons TW.re (.cons TW.re (.cons TW.re (.cons TW.re (.cons TW.re (.cons TW.re (.cons TW.nil .nil)))))))) .nil))) (.cons TW.re (.cons TW.re (.cons TW.re (.cons TW.re (.cons TW.re (.cons TW.re (.cons TW.re (.cons TW.nil (.cons TW.nil .nil))))))))))))) .nil)) .nil))))))))))))) (.cons (.cons TW.re (.cons TW.re (.cons (TW.sl (.cons (.cons TW.re .nil) .nil)) (.cons (TW.sl (.cons (.cons TW.re (.cons TW.re (.cons TW.re (.cons TW.re (.cons TW.re (.cons TW.re (.cons TW.re (.cons TW.re .nil)))))))) .nil)) (.cons TW.re (.cons TW.re (.cons TW.re (.cons TW.re (.cons TW.re (.cons TW.re (.cons TW.re (.cons TW.nil (.cons TW.nil .nil))))))))))))) .nil)))).trans (XW.es (es' := planE.args.map plT') rfl)) .nil))))))))))))) ?_
 refine AW.seq (AW.draw Fx.mo ?_)
 refine Z23 Fx.fl32_0 ?_
 refine Z20 Fx.ty23 ?_
 refine Z45 (r := .g [_, _, _, _, _, _, _, _, _, _, _, _, _, _, _, _, _, _, _, _, _, _, _, _, _, _]) Fx.ty51 ?_
 refine Z45 (r := .g [_, _, _, _, _, _, _, _, _, _, _, _, _]) Fx.ty35 ?_
 refine Z36 ?_
 refine LexK.r (b_store (r := [_, _, _, _, _, _, _, _, _, _, _, _, _, _, _, _, _, _, _, _, _, _, _, _, _, _]) rfl rfl Fx.ty51 rfl rfl rfl rfl rfl rfl) rfl ?_
 refine LexK.r (b_store (r := [_, _, _, _, _, _, _, _, _, _, _, _, _]) rfl rfl Fx.ty35 rfl rfl rfl rfl rfl rfl) rfl ?_
 refine Z30 ?_
 refine AW.ret ?_
 exact fin_x (x := .tup [_, _, _]) (H) (.tmp rfl (.cellL rfl rfl Fx.ty51 rfl rfl (.cellL rfl rfl Fx.ty35 rfl rfl .nil))) rfl (fun _ _ h => h) (⟨rfl, rfl⟩)

set_option maxHeartbeats 16000000 in
set_option maxRecDepth 20000 in
theorem awake_any (H : Heap) : E.Spec Tryz.prog 5 [] H fun x H' => x = .c (bC true) ∧ H' = H := by
 refine Spec.enter Tryz.func5 rfl ?_
 refine AW.wk (Wk.keep 48 [] [] (H) rfl trivial trivial (fun _ _ h => h) rfl) ?_
 refine sR (sB ?_)
 refine sR (Z53 Fx.fn15 (example_any H) ?_)
 refine SeqK.q (q_mvT rfl rfl) rfl rfl rfl ?_
 refine Z47 ?_
 refine Z47 ?_
 refine Z47 ?_
 refine Z25 (r := [_, _, _, _, _, _, _, _, _, _, _, _, _, _, _, _, _, _, _, _, _, _, _, _, _, _]) Fx.ze51 ?_
 refine Z25 (r := [_, _, _, _, _, _, _, _, _, _, _, _, _]) Fx.ze35 ?_
 refine sA ?_
 refine Z15 (r := [_, _, _, _, _, _, _, _, _, _, _, _, _, _, _, _, _, _, _, _, _, _, _, _, _, _]) Fx.ty51 ?_
 refine Z15 (r := [_, _, _, _, _, _, _, _, _, _, _, _, _]) Fx.ty35 ?_
 refine Z3 (AW.seq (AW.draw Fx.mo ?_))
 refine Z23 Fx.fl35_5 ?_
 refine Z20 Fx.ty33 ?_
 refine LexK.q (q_index _ rfl Fx.sl33 rfl rfl (by omega) (idx_pl (l := planE.args) (i := 0) (by decide))) rfl rfl rfl ?_
 refine LexK.q (q_fieldP _ rfl Fx.fl35_5 rfl rfl) rfl rfl rfl ?_
 refine Z26 (.a _) Fx.ty33 ?_
 refine LexK.q (q_index _ rfl Fx.sl33 rfl rfl (by omega) (idx_pl (l := planE.args[0].args) (i := 0) (by decide))) rfl rfl rfl ?_
 refine Z26 (.g [_, _, _, _, _, _, _, _, _, _, _, _, _]) Fx.ty35 ?_
 refine Z23 Fx.fl35_5 ?_
 refine Z20 Fx.ty33 ?_
 refine LexK.q (q_index _ rfl Fx.sl33 rfl rfl (by omega) (idx_pl (l := planE.args) (i := 1) (by decide))) rfl rfl rfl ?_
 refine Z26 (.g [_, _, _, _, _, _, _, _, _, _, _, _, _]) Fx.ty35 ?_
 refine LexK.q (q_buildSlice _ rfl Fx.el33 rfl (by decide) rfl) rfl rfl rfl ?_
 refine LexK.q (q_build2 (zs := [_, _, _, _, _, _, _, _, _, _, _, _, _]) (r := [_, _, _, _, _, _, _, _, _, _, _, _, _]) [(0, 1), (1, 1), (2, 1), (3, 1), (4, 8), (12, 1)] _ rfl Fx.ze35 rfl Fx.bp35 rfl rfl rfl rfl) rfl rfl rfl ?_
 refine LexK.r (b_alloc (r := [_, _, _, _, _, _, _, _, _, _, _, _, _]) rfl rfl Fx.ze35 rfl rfl rfl rfl) rfl ?_
 refine LexK.r (b_store (r := [_, _, _, _, _, _, _, _, _, _, _, _, _]) rfl rfl Fx.ty35 rfl rfl rfl rfl rfl rfl) rfl ?_
 refine Z30 ?_
 refine AW.xwL 4 rfl (.cons XW.reA (.cons XW.reA (.cons (XW.nilU (sz := 1)) (.cons (XW.nilU (sz := 8)) (.cons XW.reA (.cons XW.reA (.cons XW.reA (.cons XW.reA (.cons XW.reA (.cons XW.reA (.cons XW.reA (.cons (XW.nilU (sz := 8)) (.cons (XW.es (es' := planQ.args.map plT') rfl) .nil))))))))))))) ?_
 refine sR (sM ?_)
 refine Z12 (r := .g [_, _, _, _, _, _, _, _, _, _, _, _, _, _, _, _, _, _, _, _, _, _, _, _, _, _]) Fx.ty51 ?_
 refine Z12 (r := .g [_, _, _, _, _, _, _, _, _, _, _, _, _]) Fx.ty35 ?_
 refine SeqK.r (g_call rfl Fx.fn16 rfl (pvalid_any H schE (bdM casE) exm_okB exm_okE (by decide) planE exm_okP ⟨7, by decide, exm_few⟩) rfl rfl rfl) rfl ?_
 refine SeqK.qB (q_mvC rfl rfl) rfl rfl rfl (fun g27 => ?_) (fun g27 => ?_)
 ·
  refine Z13 ?_
  refine Z37 (r := .g [_, _, _, _, _, _, _, _, _, _, _, _, _, _, _, _, _, _, _, _, _, _, _, _, _, _]) Fx.ty51 ?_
  refine Z37 (r := .g [_, _, _, _, _, _, _, _, _, _, _, _, _]) Fx.ty35 ?_
  refine SeqK.rOn (g_call rfl Fx.fn16 rfl (pvalid_any H schE (bdM casE) exm_okB exm_okE (by decide) planQ exm_okPQ ⟨7, by decide, exm_fewQ⟩) rfl rfl rfl) rfl rfl rfl ?_
  refine SeqK.on (q_not rfl rfl) rfl rfl rfl rfl rfl ?_
  refine Z4 ?_
  refine SeqK.qB (q_mvC rfl rfl) rfl rfl rfl (fun g34 => ?_) (fun g34 => ?_)
  ·
   refine Z13 ?_
   refine Z37 (r := .g [_, _, _, _, _, _, _, _, _, _, _, _, _, _, _, _, _, _, _, _, _, _, _, _, _, _]) Fx.ty51 ?_
   refine Z37 (r := .g [_, _, _, _, _, _, _, _, _, _, _, _, _]) Fx.ty35 ?_
   refine SeqK.rOn (g_call rfl Fx.fn17 rfl (shape44_any H schE (bdM casE) exm_okB planQ exm_okPQ (okF.src ⟨7, by decide, exm_fewQ⟩)) rfl rfl rfl) rfl rfl rfl ?_
   refine Z4 ?_
   refine SeqK.qB (q_mvC rfl rfl) rfl rfl rfl (fun g40 => ?_) (fun g40 => ?_)
   ·
    refine Z6 Fx.fl51_0 ?_
    refine Z6 Fx.fl47_7 ?_
    refine Z37 (r := .g [_, _, _, _, _, _, _, _]) Fx.ty30 ?_
    refine SeqK.on (q_call _ rfl Fx.fn18 rfl (conj_any whE exm_okE (by decide)) rfl) rfl rfl rfl rfl rfl ?_
    refine Z28 Fx.un28 ?_
    refine Z44 ?_
    refine Z4 ?_
    refine sB ?_
    refine AW.ret ?_
    exact f1 (q := ⟨by first | exact bCe (decide_eq_true (by rw [List.length_map]; decide)) | exact absurd exm_shpQ (of_decide_eq_false g40) | exact absurd (nd_f g34) exm_pvQ | exact absurd exm_pv (of_decide_eq_false g27), rfl⟩)
   iterate 6 refine SeqK.off rfl rfl rfl rfl rfl rfl ?_
   refine Z7 ?_
   refine sB ?_
   refine AW.ret ?_
   exact f1 (q := ⟨by first | exact bCe (decide_eq_true (by rw [List.length_map]; decide)) | exact absurd exm_shpQ (of_decide_eq_false g40) | exact absurd (nd_f g34) exm_pvQ | exact absurd exm_pv (of_decide_eq_false g27), rfl⟩)
  iterate 4 refine SeqK.off rfl rfl rfl rfl rfl rfl ?_
  refine Z7 ?_
  refine sM ?_
  iterate 6 refine SeqK.off rfl rfl rfl rfl rfl rfl ?_
  refine Z7 ?_
  refine sB ?_
  refine AW.ret ?_
  exact f1 (q := ⟨by first | exact bCe (decide_eq_true (by rw [List.length_map]; decide)) | exact absurd exm_shpQ (of_decide_eq_false g40) | exact absurd (nd_f g34) exm_pvQ | exact absurd exm_pv (of_decide_eq_false g27), rfl⟩)
 iterate 5 refine SeqK.off rfl rfl rfl rfl rfl rfl ?_
 refine Z7 ?_
 refine sM ?_
 iterate 4 refine SeqK.off rfl rfl rfl rfl rfl rfl ?_
 refine Z7 ?_
 refine sM ?_
 iterate 6 refine SeqK.off rfl rfl rfl rfl rfl rfl ?_
 refine Z7 ?_
 refine sB ?_
 refine AW.ret ?_
 exact f1 (q := ⟨by first | exact bCe (decide_eq_true (by rw [List.length_map]; decide)) | exact absurd exm_shpQ (of_decide_eq_false g40) | exact absurd (nd_f g34) exm_pvQ | exact absurd exm_pv (of_decide_eq_false g27), rfl⟩)

end Go.Proofs.YtihlgigaejhilaaGreatDoor.W
namespace Go.Proofs.YtihlgigaejhilaaGreatDoor.W
open Go.RowKit E
/-! the laws of Sources and Conjuncts, walked -/
end Go.Proofs.YtihlgigaejhilaaGreatDoor.W
namespace Go.Proofs.YtihlgigaejhilaaGreatDoor.W
open Go.RowKit E
/-! the naive plan, plain: it is small, well-formed and valid -/
abbrev numI (n : Nat) : List Int := (List.range n).map fun i : Nat => (i : Int)
theorem own_ov {s : List Tb} {v : Int} {tabs : List Int} : ∀ (k i : Nat), k = tabs.length - i → i ≤ tabs.length → ownL s v (tabs.drop i) (offM s (tabs.take i)) i = -1 ∨ ∃ j : Nat, j < tabs.length ∧ ownL s v (tabs.drop i) (offM s (tabs.take i)) i = (j : Int) ∧ ovP s tabs v (j : Int)
  | 0, i, hk, hi => by
    left; rw [List.drop_eq_nil_of_le (by omega), ownL]
  | k + 1, i, hk, hi => by
    have hl : i < tabs.length := by omega
    rw [ownL_drop hl]
    split
    · rename_i h
      refine .inr ⟨i, hl, rfl, ?_⟩
      rw [ovP, tabI_eq (by simpa using hl)]
      simpa using h
    · exact own_ov k (i + 1) (by omega) (by omega)
theorem ov_of_wit {s : List Tb} {tabs l : List Int} (hl : ∀ v ∈ l, 0 ≤ v) (e : Ex) : witB s tabs l e = true → ovB s tabs l e = true := by
  induction e using Ex.rec' with
  | h e ih =>
    intro h
    rw [witB_eq, Bool.and_eq_true, List.all_eq_true] at h
    rw [ovB_eq, Bool.and_eq_true, List.all_eq_true]
    refine ⟨?_, fun a ha => ih a ha (h.2 a ha)⟩
    rw [Bool.or_eq_true]
    by_cases h2 : e.op = 2
    · right
      have h3 := of_decide_eq_true h.1 h2
      rcases own_ov (s := s) (v := e.ix) (tabs := tabs) tabs.length 0 (by omega) (Nat.zero_le _) with h4 | ⟨j, hj, h4, h5⟩
      · have h4' : ownM s tabs e.ix = -1 := h4
        rw [h4'] at h3
        have := hl _ h3
        omega
      · have h4' : ownM s tabs e.ix = (j : Int) := h4
        rw [h4'] at h3
        exact List.any_eq_true.2 ⟨_, h3, decide_eq_true h5⟩
    · left; exact decide_eq_true h2
theorem srt_num (n : Nat) : srtI (numI n) = numI n := List.mergeSort_of_pairwise (by
  rw [List.pairwise_map]
  refine List.Pairwise.imp ?_ List.pairwise_lt_range
  intro a b h
  simp; omega)
end Go.Proofs.YtihlgigaejhilaaGreatDoor.W
namespace Go.Proofs.YtihlgigaejhilaaGreatDoor.W
open Go.RowKit E
/-! the reference's leaves of a plan -/
/-- the sources of a list hold all columns of an expression: by owner or by any source -/
theorem own_hit {s : List Tb} {v : Int} {tabs : List Int} : ∀ (k i j : Nat), k = j - i → i ≤ j → (hj : j < tabs.length) → ovP s tabs v (j : Int) → ownL s v (tabs.drop i) (offM s (tabs.take i)) i = (j : Int)
  | 0, i, j, hk, hi, hj, h => by
    obtain rfl : i = j := by omega
    rw [ownL_drop hj, if_pos]
    rw [ovP, tabI_eq (by simpa using hj)] at h
    simpa using h
  | k + 1, i, j, hk, hi, hj, h => by
    have hl : i < tabs.length := by omega
    have h2 : offM s (tabs.take (i + 1)) ≤ offM s (tabs.take j) := by
      have e : tabs.take j = tabs.take (i + 1) ++ (tabs.take j).drop (i + 1) := by
        conv => lhs; rw [← List.take_append_drop (i + 1) (tabs.take j)]
        rw [List.take_take, Nat.min_eq_left (by omega)]
      rw [e, offM_app]; omega
    rw [ownL_drop hl, if_neg, own_hit k (i + 1) j (by omega) (by omega) hj h]
    intro h3
    rw [ovP, tabI_eq (by simpa using hj)] at h
    rw [offM_take hl] at h2
    have h4 := h.1
    simp only [Int.toNat_natCast] at h4
    omega
theorem wit_ov {s : List Tb} {tabs l : List Int} (hl : ∀ v ∈ l, 0 ≤ v ∧ v < tabs.length) (e : Ex) : witB s tabs l e = ovB s tabs l e := by
  cases h : ovB s tabs l e with
  | false =>
    cases h2 : witB s tabs l e with
    | false => rfl
    | true => rw [ov_of_wit (fun v hv => (hl v hv).1) e h2] at h; cases h
  | true =>
    induction e using Ex.rec' with
    | h e ih =>
      rw [ovB_eq, Bool.and_eq_true, List.all_eq_true] at h
      rw [witB_eq, Bool.and_eq_true, List.all_eq_true]
      refine ⟨decide_eq_true fun h2 => ?_, fun a ha => ih a ha (h.2 a ha)⟩
      have h3 := h.1
      rw [Bool.or_eq_true] at h3
      rcases h3 with h3 | h3
      · exact absurd h2 (of_decide_eq_true h3)
      · obtain ⟨v, hv, h4⟩ := List.any_eq_true.1 h3
        obtain ⟨v1, v2⟩ := hl v hv
        obtain ⟨j, rfl⟩ : ∃ j : Nat, v = (j : Int) := ⟨v.toNat, by omega⟩
        have h5 : ownM s tabs e.ix = (j : Int) := own_hit j 0 j (by omega) (by omega) (by omega) (of_decide_eq_true h4)
        rw [h5]; exact hv

end Go.Proofs.YtihlgigaejhilaaGreatDoor.W
namespace Go.Proofs.YtihlgigaejhilaaGreatDoor.W
open Go.RowKit E
/-! the reference's leaves of a plan, walked -/
theorem anyTk {α : Type} {f : α → Bool} {l : List α} {i : Nat} (hi : i < l.length) : (l.take (i + 1)).any f = ((l.take i).any f || f l[i]) := by
  rw [take_put hi, List.any_append]; simp
abbrev keyR (d0 : List Tb) (b : Bd) (l : List Int) (n : Int) (k : Ex) : Prop := (k = ex0 → n ≠ 2) ∧ (k ≠ ex0 → k.op ≠ 0 ∧ ovB d0 b.tabs l k = true)
abbrev ks3 (p : Pl) : Prop := if p.k = 2 then 1 ≤ p.cols.length ∧ p.keys.length = p.cols.length else p.cols.length = 1 ∧ p.keys.length = 2 ∧ (p.keys.any fun k => decide (k ≠ ex0)) = true
abbrev ksP (d0 : List Tb) (b : Bd) (l : List Int) (p : Pl) : Prop := (∀ j (h : j < p.cols.length), colQ (ncol d0 (tabI b.tabs p.src)) p.cols j h) ∧ (∀ j (h : j < p.keys.length), keyR d0 b l p.k p.keys[j]) ∧ ks3 p
theorem within_ov (d0 : List Tb) (z : Nz) (b : Bd) (l : List Int) (zl : Nz) (hb : okB d0 b) (hl : l.length ≤ 17592186044000) (hin : inP b l) (e : Ex) (ho : okE e) : Pure Tryz.prog 14 [scC z d0, bdC b, exC e, iL zl l] (.c (bC (ovB d0 b.tabs l e))) := by
  rw [← wit_ov hin]; exact within_any d0 z b l zl hb.hc hb.ht hb.hn hl e ho

set_option maxHeartbeats 8000000 in
set_option maxRecDepth 20000 in
theorem column_of (d0 : List Tb) (z : Nz) (b : Bd) (hb : okB d0 b) (v n : Int) (hv : 0 ≤ v ∧ v < b.tabs.length) : Pure Tryz.prog 74 [scC z d0, bdC b, iC v, iC n] (.c (bC (decide (0 ≤ n ∧ n < ncol d0 (tabI b.tabs v))))) := by
 have hu : v.toNat < b.tabs.length := by omega
 obtain ⟨p1, p2⟩ := hb.ht v.toNat hu
 rw [tabI_eq hu]
 have hn := hb.hn
 have hnn : ncol d0 b.tabs[v.toNat] = (tbAt d0 b.tabs[v.toNat]).cols.length := rfl
 intro H
 refine Spec.enter Tryz.func74 rfl ?_
 refine AW.wk (Wk.keep 25 [(0, .c (scC z d0)), (1, .c (bdC b)), (2, .c (iC v)), (3, .c (iC n))] [] (H) rfl ⟨rfl, rfl, rfl, rfl, trivial⟩ trivial (fun _ _ h => h) rfl) ?_
 refine sR (Z16 (r := [_, _, _, _, _, _, _, _, _, _, _, _, _, _, _, _, _, _, _, _, _, _, _, _, _, _]) ?_)
 refine sB ?_
 refine sR (sM ?_)
 refine SeqK.q (q_geq rfl rfl rfl) rfl rfl rfl ?_
 refine Z19 (fun g11 => ?_) (fun g11 => ?_)
 ·
  refine Z13 ?_
  refine Z13 ?_
  refine Z6 Fx.fl51_2 ?_
  refine Z5 Fx.ty24 ?_
  refine Z13 ?_
  refine SeqK.on (q_index _ rfl Fx.sl24 rfl rfl (by omega) (idx_map (f := i64T) hu)) rfl rfl rfl rfl rfl ?_
  refine SeqK.on (q_load (.a _) rfl Fx.ty3 rfl rfl rfl) rfl rfl rfl rfl rfl ?_
  refine SeqK.on (q_index _ rfl Fx.sl23 rfl rfl (by omega) (idx_tab ⟨p1, p2⟩)) rfl rfl rfl rfl rfl ?_
  refine SeqK.on (q_fieldP _ rfl Fx.fl64_1 rfl rfl) rfl rfl rfl rfl rfl ?_
  refine SeqK.on (q_load (.a _) rfl Fx.ty36 rfl rfl rfl) rfl rfl rfl rfl rfl ?_
  refine Z28 Fx.un36 ?_
  refine SeqK.on (q_lss rfl rfl rfl) rfl rfl rfl rfl rfl ?_
  refine Z4 ?_
  refine sB ?_
  refine AW.ret ?_
  exact f1 (q := ⟨bCe (by first | exact dI ⟨fun h => ⟨by omega, by rw [hnn]; simp only [List.length_map] at h; omega⟩, fun h => by have h9 := h.2; rw [hnn] at h9; simp only [List.length_map]; omega⟩ | exact dF (fun h => by omega)), rfl⟩)
 iterate 12 refine SeqK.off rfl rfl rfl rfl rfl rfl ?_
 refine Z7 ?_
 refine sB ?_
 refine AW.ret ?_
 exact f1 (q := ⟨bCe (by first | exact dI ⟨fun h => ⟨by omega, by rw [hnn]; simp only [List.length_map] at h; omega⟩, fun h => by have h9 := h.2; rw [hnn] at h9; simp only [List.length_map]; omega⟩ | exact dF (fun h => by omega)), rfl⟩)

set_option maxHeartbeats 8000000 in
set_option maxRecDepth 20000 in
theorem rabsent_any (e : Ex) (ho : okE e) : Pure Tryz.prog 43 [exC e] (.c (bC (decide (e = ex0)))) := by
 intro H
 refine Spec.enter Tryz.func43 rfl ?_
 refine AW.wk (Wk.keep 6 [(0, .c (exC e))] [] (H) rfl ⟨rfl, trivial⟩ trivial (fun _ _ h => h) rfl) ?_
 refine sR (Z16 (r := [_, _, _, _, _, _, _, _]) ?_)
 refine sB ?_
 refine sR (Z12 (r := .g [_, _, _, _, _, _, _, _]) Fx.ty30 ?_)
 refine Z34 (zs := [_, _, _, _, _, _, _, _]) (r := [_, _, _, _, _, _, _, _]) [(0, 1), (1, 1), (2, 1), (3, 1), (4, 3), (7, 1)] Fx.ze30 Fx.bp30 ?_
 refine SeqK.xw 4 rfl (XW.g exEmpty) ?_
 refine Z22 Fx.fn73 (expr_any e ex0 ho) ?_
 refine sB ?_
 refine AW.ret ?_
 exact f1 (q := ⟨rfl, rfl⟩)

set_option maxHeartbeats 8000000 in
set_option maxRecDepth 20000 in
theorem keys_of (d0 : List Tb) (z : Nz) (b : Bd) (hb : okB d0 b) (l : List Int) (zl : Nz) (hl : l.length ≤ 17592186044000) (hin : inP b l) (p : Pl) (ho : okP p) (hs : 0 ≤ p.src ∧ p.src < b.tabs.length) : Pure Tryz.prog 44 [scC z d0, bdC b, plC p, iL zl l] (.c (bC (decide (ksP d0 b l p)))) := by
 intro H
 refine Spec.enter Tryz.func44 rfl ?_
 refine AW.wk (Wk.keep 121 [(0, .c (scC z d0)), (1, .c (bdC b)), (2, .c (plC p)), (3, .c (iL zl l))] [] (H) rfl ⟨rfl, rfl, rfl, rfl, trivial⟩ trivial (fun _ _ h => h) rfl) ?_
 refine sR (Z16 (r := [_, _, _, _, _, _, _, _, _, _, _, _, _, _, _, _, _, _, _, _, _, _, _, _, _, _]) ?_)
 refine Z16 (r := [_, _, _, _, _, _, _, _, _, _, _, _, _]) ?_
 refine sB ?_
 refine AW.seq (AW.seq ?_)
 obtain ⟨⟨k1, k2, k3, kf, kk⟩, k5⟩ := okP_iff.1 ho
 refine AW.reg (sB ?_)
 refine AW.block ?_
 refine AW.loop (fun (i : Nat) s => (i ≤ p.cols.length ∧ ∀ j (h : j < p.cols.length), j < i → colQ (ncol d0 (tabI b.tabs p.src)) p.cols j h) ∧ s = ⟨121, sp [(0, .c (scC z d0)), (3, .c (iL zl l)), (5, .lp 5 0), (6, .lp 6 0), (8, .c (bC false)), (9, iX .i64 ((i : Nat) : Int))], lv [(5, .box (zBd b)), (6, .box (zPl p))], H⟩) (fun i => p.cols.length - i) 0 ⟨_, by exact Wk.keep 121 _ _ _ rfl ⟨rfl, rfl, rfl, rfl, rfl, rfl, trivial⟩ ⟨rfl, rfl, trivial⟩ (fun _ _ h => h) rfl, ⟨Nat.zero_le _, up0⟩, rfl⟩ (fun i s hs => ?_)
 obtain ⟨⟨hi0, hU⟩, rfl⟩ := hs
 refine AW.seq (sR (sM ?_))
 refine Z1 Fx.fl35_2 ?_
 refine Z0 Fx.ty24 ?_
 refine Z14 Fx.un24 ?_
 refine Z10 ?_
 refine Z3 ?_
 refine AW.condD rfl ?_ ?_ <;> intro h17
 ·
  have hi : i < p.cols.length := by rw [List.length_map] at h17; omega
  refine AW.skip (AW.seq (AW.block (AW.seq (AW.draw Fx.mo ?_))))
  refine Z18 ?_
  refine Z45 (r := .g [_, _, _, _, _, _, _, _, _, _, _, _, _, _, _, _, _, _, _, _, _, _, _, _, _, _]) Fx.ty51 ?_
  refine Z23 Fx.fl35_1 ?_
  refine Z20 Fx.ty3 ?_
  refine Z23 Fx.fl35_2 ?_
  refine Z20 Fx.ty24 ?_
  refine Z18 ?_
  refine Z27 Fx.sl24 (idx_map (f := i64T) hi) ?_
  refine Z26 (.a _) Fx.ty3 ?_
  refine Z52 Fx.fn74 (column_of d0 z b hb p.src p.cols[i] hs) ?_
  refine LexK.q (q_not rfl rfl) rfl rfl rfl ?_
  refine LexK.qB (q_mvC rfl rfl) rfl rfl rfl (fun g31 => ?_) (fun g31 => ?_)
  ·
   iterate 10 refine LexK.off rfl rfl rfl rfl rfl rfl ?_
   refine Z43 ?_
   refine Z30 ?_
   refine AW.condT rfl ?_
   refine sR (sB ?_)
   refine AW.ret ?_
   exact f1 (q := ⟨bCe (dF (fun h => by have h9 := h.1 i hi; first | exact nd_t g31 h9.1 | exact h9.2 (of_decide_eq_true h42))), rfl⟩)
  refine Z24 Fx.fl35_2 ?_
  refine Z21 Fx.ty24 ?_
  refine Z29 ?_
  refine LexK.on (q_cut 0 i ((p.cols.take i).map i64T) rfl Fx.sl24 rfl (by first | rfl | exact ⟨_, rfl⟩) (by first | rfl | exact ⟨_, rfl⟩) (by omega) (by simp only [List.length_map]; omega) (by rw [List.drop_zero, List.map_take])) rfl rfl rfl rfl rfl ?_
  refine Z24 Fx.fl35_2 ?_
  refine Z21 Fx.ty24 ?_
  refine Z29 ?_
  refine Z48 Fx.sl24 (idx_map (f := i64T) hi) ?_
  refine Z39 (.a _) Fx.ty3 ?_
  refine LexK.on (q_call _ rfl Fx.fn23 rfl (has_any (p.cols.take i) .un p.cols[i] (by rw [List.length_take]; omega)) rfl) rfl rfl rfl rfl rfl ?_
  refine Z31 ?_
  refine Z30 ?_
  refine AW.cond _ rfl (fun h42 => ?_) (fun h42 => ?_)
  ·
   refine sR (sB ?_)
   refine AW.ret ?_
   exact f1 (q := ⟨bCe (dF (fun h => by have h9 := h.1 i hi; first | exact nd_t g31 h9.1 | exact h9.2 (of_decide_eq_true h42))), rfl⟩)
  refine AW.skip (AW.reg (sM ?_))
  refine Z2 ?_
  refine sB ?_
  exact ⟨i + 1, _, by exact Wk.keep 121 _ _ _ rfl ⟨rfl, rfl, rfl, rfl, rfl, rfl, trivial⟩ ⟨rfl, rfl, trivial⟩ (fun _ _ h => h) rfl, by omega, ⟨hi, upS (Q := fun j h => colQ (ncol d0 (tabI b.tabs p.src)) p.cols j h) hi hU ⟨nd_f g31, of_decide_eq_false h42⟩⟩, rfl⟩
 refine AW.exit ?_
 refine eth_e ?_
 refine eth_e ?_
 refine exit_here ?_
 refine AW.seq ?_
 have hA := upE hU (by rw [List.length_map] at h17; omega)
 refine AW.reg (sB ?_)
 refine AW.seq (sR (sB ?_))
 refine AW.block ?_
 refine AW.loop (fun (i : Nat) s => ∃ (sm : Bool), (i ≤ p.keys.length ∧ (sm = (p.keys.take i).any fun k => decide (k ≠ ex0)) ∧ ∀ j (h : j < p.keys.length), j < i → keyR d0 b l p.k p.keys[j]) ∧ s = ⟨121, sp [(0, .c (scC z d0)), (3, .c (iL zl l)), (5, .lp 5 0), (6, .lp 6 0), (8, .c (bC false)), (10, .c (bC sm)), (11, iX .i64 ((i : Nat) : Int))], lv [(5, .box (zBd b)), (6, .box (zPl p))], H⟩) (fun i => p.keys.length - i) 0 ⟨_, by exact Wk.keep 121 _ _ _ rfl ⟨rfl, rfl, rfl, rfl, rfl, rfl, rfl, trivial⟩ ⟨rfl, rfl, trivial⟩ (fun _ _ h => h) rfl, false, ⟨Nat.zero_le _, rfl, up0⟩, rfl⟩ (fun i s hs => ?_)
 obtain ⟨sm, ⟨hi0, hsm, hV⟩, rfl⟩ := hs
 refine AW.seq (sR (sM ?_))
 refine Z1 Fx.fl35_3 ?_
 refine Z0 Fx.ty28 ?_
 refine Z14 Fx.un28 ?_
 refine Z10 ?_
 refine Z3 ?_
 refine AW.condD rfl ?_ ?_ <;> intro h47
 ·
  have hi : i < p.keys.length := by rw [List.length_map] at h47; omega
  refine AW.skip (AW.seq (AW.block (sR (Z1 Fx.fl35_3 ?_))))
  refine Z0 Fx.ty28 ?_
  refine sM ?_
  refine Z9 Fx.sl28 (idx_ex hi) ?_
  refine Z11 (.g [_, _, _, _, _, _, _, _]) Fx.ty30 ?_
  refine Z22 Fx.fn43 (rabsent_any p.keys[i] (kk _ (List.getElem_mem hi))) ?_
  refine sB ?_
  refine AW.seq (AW.seq (AW.draw Fx.mo ?_))
  refine Z18 ?_
  refine LexK.qB (q_mvC rfl rfl) rfl rfl rfl (fun g57 => ?_) (fun g57 => ?_)
  ·
   refine Z24 Fx.fl35_0 ?_
   refine Z21 Fx.ty3 ?_
   refine LexK.on (q_eql rfl rfl rfl) rfl rfl rfl rfl rfl ?_
   refine Z43 ?_
   refine LexK.qD (q_mvC rfl rfl) rfl rfl rfl (fun g62 => ?_) (fun g62 => ?_)
   ·
    iterate 3 refine LexK.off rfl rfl rfl rfl rfl rfl ?_
    iterate 19 refine LexK.offU rfl rfl rfl rfl rfl ?_
    refine LexK.off rfl rfl rfl rfl rfl rfl ?_
    refine Z43 ?_
    refine Z30 ?_
    refine AW.condT rfl ?_
    refine sR (sB ?_)
    refine AW.ret ?_
    exact f1 (q := ⟨bCe (dF (fun h => by have h9 := h.2.1 i hi; first | exact h9.1 (of_decide_eq_true g57) g62 | exact (h9.2 (of_decide_eq_false g57)).1 g73 | (have h8 := (h9.2 (of_decide_eq_false g57)).2; rw [h8] at h86; cases h86))), rfl⟩)
   refine Z29 ?_
   refine LexK.on (q_not rfl rfl) rfl rfl rfl rfl rfl ?_
   refine LexK.onB (q_mvC rfl rfl) rfl rfl rfl rfl rfl (fun g65 => ?_) (fun g65 => ?_)
   ·
    exact absurd (of_decide_eq_true g57) (nd_t g65)
   iterate 8 refine LexK.off rfl rfl rfl rfl rfl rfl ?_
   iterate 10 refine LexK.offU rfl rfl rfl rfl rfl ?_
   refine LexK.off rfl rfl rfl rfl rfl rfl ?_
   refine LexK.on (q_pkF rfl rfl rfl) rfl rfl rfl rfl rfl ?_
   refine Z31 ?_
   refine Z30 ?_
   refine AW.condF rfl ?_
   refine AW.skip (AW.reg (sM ?_))
   refine SeqK.qB (q_mvC rfl rfl) rfl rfl rfl (fun g88 => ?_) (fun g88 => ?_)
   ·
    iterate 2 refine SeqK.off rfl rfl rfl rfl rfl rfl ?_
    refine Z4 ?_
    refine sB ?_
    refine AW.reg (sM ?_)
    refine Z2 ?_
    refine sB ?_
    exact ⟨i + 1, _, by exact Wk.keep 121 _ _ _ rfl ⟨rfl, rfl, rfl, rfl, rfl, rfl, rfl, trivial⟩ ⟨rfl, rfl, trivial⟩ (fun _ _ h => h) rfl, by omega, true, ⟨hi, by rw [anyTk hi, ← hsm, g88]; simp, upS (Q := fun j h => keyR d0 b l p.k p.keys[j]) hi hV ⟨fun _ => g62, fun h => absurd (of_decide_eq_true g57) h⟩⟩, rfl⟩
   refine Z13 ?_
   refine SeqK.on (q_not rfl rfl) rfl rfl rfl rfl rfl ?_
   refine Z7 ?_
   refine sB ?_
   refine AW.reg (sM ?_)
   refine Z2 ?_
   refine sB ?_
   exact ⟨i + 1, _, by exact Wk.keep 121 _ _ _ rfl ⟨rfl, rfl, rfl, rfl, rfl, rfl, rfl, trivial⟩ ⟨rfl, rfl, trivial⟩ (fun _ _ h => h) rfl, by omega, (!decide (p.keys[i] = ex0)), ⟨hi, by rw [anyTk hi, ← hsm, g88]; simp, upS (Q := fun j h => keyR d0 b l p.k p.keys[j]) hi hV ⟨fun _ => g62, fun h => absurd (of_decide_eq_true g57) h⟩⟩, rfl⟩
  iterate 3 refine LexK.off rfl rfl rfl rfl rfl rfl ?_
  refine Z31 ?_
  refine Z18 ?_
  refine Z29 ?_
  refine LexK.on (q_not rfl rfl) rfl rfl rfl rfl rfl ?_
  refine LexK.onB (q_mvC rfl rfl) rfl rfl rfl rfl rfl (fun g65 => ?_) (fun g65 => ?_)
  ·
   refine Z24 Fx.fl35_3 ?_
   refine Z21 Fx.ty28 ?_
   refine Z29 ?_
   refine Z48 Fx.sl28 (idx_ex hi) ?_
   refine LexK.on (q_fieldP _ rfl Fx.fl30_0 rfl rfl) rfl rfl rfl rfl rfl ?_
   refine Z39 (.a _) Fx.ty3 ?_
   refine LexK.on (q_eql rfl rfl rfl) rfl rfl rfl rfl rfl ?_
   refine LexK.onD (q_mvC rfl rfl) rfl rfl rfl rfl rfl (fun g73 => ?_) (fun g73 => ?_)
   ·
    iterate 10 refine LexK.off rfl rfl rfl rfl rfl rfl ?_
    refine LexK.on (q_pkT rfl rfl rfl) rfl rfl rfl rfl rfl ?_
    refine LexK.on (q_pkT rfl rfl rfl) rfl rfl rfl rfl rfl ?_
    refine Z31 ?_
    refine Z30 ?_
    refine AW.condT rfl ?_
    refine sR (sB ?_)
    refine AW.ret ?_
    exact f1 (q := ⟨bCe (dF (fun h => by have h9 := h.2.1 i hi; first | exact h9.1 (of_decide_eq_true g57) g62 | exact (h9.2 (of_decide_eq_false g57)).1 g73 | (have h8 := (h9.2 (of_decide_eq_false g57)).2; rw [h8] at h86; cases h86))), rfl⟩)
   refine Z29 ?_
   refine LexK.rOn (b_load (r := .g [_, _, _, _, _, _, _, _, _, _, _, _, _, _, _, _, _, _, _, _, _, _, _, _, _, _]) rfl Fx.ty51 rfl rfl rfl rfl rfl rfl) rfl rfl rfl ?_
   refine Z24 Fx.fl35_3 ?_
   refine Z21 Fx.ty28 ?_
   refine Z29 ?_
   refine Z48 Fx.sl28 (idx_ex hi) ?_
   refine Z39 (.g [_, _, _, _, _, _, _, _]) Fx.ty30 ?_
   refine Z29 ?_
   refine LexK.on (q_call _ rfl Fx.fn14 rfl (within_ov d0 z b l zl hb hl hin p.keys[i] (kk _ (List.getElem_mem hi))) rfl) rfl rfl rfl rfl rfl ?_
   refine LexK.on (q_not rfl rfl) rfl rfl rfl rfl rfl ?_
   refine LexK.on (q_pkF rfl rfl rfl) rfl rfl rfl rfl rfl ?_
   refine LexK.on (q_pkT rfl rfl rfl) rfl rfl rfl rfl rfl ?_
   refine Z31 ?_
   refine Z30 ?_
   refine AW.cond _ rfl (fun h86 => ?_) (fun h86 => ?_)
   ·
    refine sR (sB ?_)
    refine AW.ret ?_
    exact f1 (q := ⟨bCe (dF (fun h => by have h9 := h.2.1 i hi; first | exact h9.1 (of_decide_eq_true g57) g62 | exact (h9.2 (of_decide_eq_false g57)).1 g73 | (have h8 := (h9.2 (of_decide_eq_false g57)).2; rw [h8] at h86; cases h86))), rfl⟩)
   refine AW.skip (AW.reg (sM ?_))
   refine SeqK.qB (q_mvC rfl rfl) rfl rfl rfl (fun g88 => ?_) (fun g88 => ?_)
   ·
    iterate 2 refine SeqK.off rfl rfl rfl rfl rfl rfl ?_
    refine Z4 ?_
    refine sB ?_
    refine AW.reg (sM ?_)
    refine Z2 ?_
    refine sB ?_
    exact ⟨i + 1, _, by exact Wk.keep 121 _ _ _ rfl ⟨rfl, rfl, rfl, rfl, rfl, rfl, rfl, trivial⟩ ⟨rfl, rfl, trivial⟩ (fun _ _ h => h) rfl, by omega, true, ⟨hi, by rw [anyTk hi, ← hsm, g88]; simp, upS (Q := fun j h => keyR d0 b l p.k p.keys[j]) hi hV ⟨fun h => absurd h (of_decide_eq_false g57), fun _ => ⟨g73, by simpa using h86⟩⟩⟩, rfl⟩
   refine Z13 ?_
   refine SeqK.on (q_not rfl rfl) rfl rfl rfl rfl rfl ?_
   refine Z7 ?_
   refine sB ?_
   refine AW.reg (sM ?_)
   refine Z2 ?_
   refine sB ?_
   exact ⟨i + 1, _, by exact Wk.keep 121 _ _ _ rfl ⟨rfl, rfl, rfl, rfl, rfl, rfl, rfl, trivial⟩ ⟨rfl, rfl, trivial⟩ (fun _ _ h => h) rfl, by omega, (!decide (p.keys[i] = ex0)), ⟨hi, by rw [anyTk hi, ← hsm, g88]; simp, upS (Q := fun j h => keyR d0 b l p.k p.keys[j]) hi hV ⟨fun h => absurd h (of_decide_eq_false g57), fun _ => ⟨g73, by simpa using h86⟩⟩⟩, rfl⟩
  exact absurd (nd_f g65) (of_decide_eq_false g57)
 refine AW.exit ?_
 refine eth_e ?_
 refine eth_e ?_
 refine exit_here ?_
 refine AW.seq (AW.seq ?_)
 have hB := upE hV (by rw [List.length_map] at h47; omega)
 have hsm2 : sm = p.keys.any fun k => decide (k ≠ ex0) := by rw [hsm, List.take_of_length_le (by rw [List.length_map] at h47; omega)]
 have hL : ksP d0 b l p ↔ ks3 p := ⟨fun h => h.2.2, fun h => ⟨hA, hB, h⟩⟩
 refine AW.reg (Z1 Fx.fl35_0 ?_)
 refine Z0 Fx.ty3 ?_
 refine Z8 ?_
 refine Z3 ?_
 refine AW.condD rfl ?_ ?_ <;> intro h94
 ·
  refine sR (Z1 Fx.fl35_2 ?_)
  refine Z0 Fx.ty24 ?_
  refine Z14 Fx.un24 ?_
  refine SeqK.q (q_geq rfl rfl rfl) rfl rfl rfl ?_
  refine Z19 (fun g99 => ?_) (fun g99 => ?_)
  ·
   refine Z6 Fx.fl35_3 ?_
   refine Z5 Fx.ty28 ?_
   refine Z28 Fx.un28 ?_
   refine Z6 Fx.fl35_2 ?_
   refine Z5 Fx.ty24 ?_
   refine Z28 Fx.un24 ?_
   refine Z44 ?_
   refine Z4 ?_
   refine sB ?_
   refine AW.ret ?_
   exact f1 (q := ⟨bCe (by first | exact dI ⟨fun h => hL.2 (by unfold ks3; rw [if_pos h94]; (simp only [List.length_map] at *; omega)), fun h => by have h9 := hL.1 h; unfold ks3 at h9; rw [if_pos h94] at h9; (simp only [List.length_map] at *; omega)⟩ | exact dF (fun h => by have h9 := hL.1 h; unfold ks3 at h9; rw [if_pos h94] at h9; (simp only [List.length_map] at *; omega))), rfl⟩)
  iterate 7 refine SeqK.off rfl rfl rfl rfl rfl rfl ?_
  refine Z7 ?_
  refine sB ?_
  refine AW.ret ?_
  exact f1 (q := ⟨bCe (by first | exact dI ⟨fun h => hL.2 (by unfold ks3; rw [if_pos h94]; (simp only [List.length_map] at *; omega)), fun h => by have h9 := hL.1 h; unfold ks3 at h9; rw [if_pos h94] at h9; (simp only [List.length_map] at *; omega)⟩ | exact dF (fun h => by have h9 := hL.1 h; unfold ks3 at h9; rw [if_pos h94] at h9; (simp only [List.length_map] at *; omega))), rfl⟩)
 refine AW.skip (sR (Z1 Fx.fl35_2 ?_))
 refine Z0 Fx.ty24 ?_
 refine Z14 Fx.un24 ?_
 refine Z8 ?_
 refine Z19 (fun g112 => ?_) (fun g112 => ?_)
 ·
  refine Z6 Fx.fl35_3 ?_
  refine Z5 Fx.ty28 ?_
  refine Z28 Fx.un28 ?_
  refine Z44 ?_
  refine Z4 ?_
  refine Z19 (fun g118 => ?_) (fun g118 => ?_)
  ·
   refine Z13 ?_
   refine Z4 ?_
   refine sB ?_
   refine AW.ret ?_
   exact f1 (q := ⟨bCe (by first | exact dF (fun h => by have h9 := hL.1 h; unfold ks3 at h9; rw [if_neg h94] at h9; (simp only [List.length_map] at *; omega)) | (have h8 : ksP d0 b l p ↔ sm = true := ⟨fun h => by have h9 := hL.1 h; unfold ks3 at h9; rw [if_neg h94] at h9; rw [hsm2]; exact h9.2.2, fun h => hL.2 (by unfold ks3; rw [if_neg h94]; exact ⟨by (simp only [List.length_map] at *; omega), by (simp only [List.length_map] at *; omega), by rw [← hsm2]; exact h⟩)⟩; cases hm : sm with | false => exact dF (fun h => by have h7 := h8.1 h; rw [hm] at h7; cases h7) | true => exact dT (h8.2 hm))), rfl⟩)
  refine SeqK.off rfl rfl rfl rfl rfl rfl ?_
  refine Z7 ?_
  refine sB ?_
  refine AW.ret ?_
  exact f1 (q := ⟨bCe (by first | exact dF (fun h => by have h9 := hL.1 h; unfold ks3 at h9; rw [if_neg h94] at h9; (simp only [List.length_map] at *; omega)) | (have h8 : ksP d0 b l p ↔ sm = true := ⟨fun h => by have h9 := hL.1 h; unfold ks3 at h9; rw [if_neg h94] at h9; rw [hsm2]; exact h9.2.2, fun h => hL.2 (by unfold ks3; rw [if_neg h94]; exact ⟨by (simp only [List.length_map] at *; omega), by (simp only [List.length_map] at *; omega), by rw [← hsm2]; exact h⟩)⟩; cases hm : sm with | false => exact dF (fun h => by have h7 := h8.1 h; rw [hm] at h7; cases h7) | true => exact dT (h8.2 hm))), rfl⟩)
 iterate 4 refine SeqK.off rfl rfl rfl rfl rfl rfl ?_
 refine Z7 ?_
 refine sM ?_
 refine SeqK.off rfl rfl rfl rfl rfl rfl ?_
 refine Z7 ?_
 refine sB ?_
 refine AW.ret ?_
 exact f1 (q := ⟨bCe (by first | exact dF (fun h => by have h9 := hL.1 h; unfold ks3 at h9; rw [if_neg h94] at h9; (simp only [List.length_map] at *; omega)) | (have h8 : ksP d0 b l p ↔ sm = true := ⟨fun h => by have h9 := hL.1 h; unfold ks3 at h9; rw [if_neg h94] at h9; rw [hsm2]; exact h9.2.2, fun h => hL.2 (by unfold ks3; rw [if_neg h94]; exact ⟨by (simp only [List.length_map] at *; omega), by (simp only [List.length_map] at *; omega), by rw [← hsm2]; exact h⟩)⟩; cases hm : sm with | false => exact dF (fun h => by have h7 := h8.1 h; rw [hm] at h7; cases h7) | true => exact dT (h8.2 hm))), rfl⟩)

end Go.Proofs.YtihlgigaejhilaaGreatDoor.W
namespace Go.Proofs.YtihlgigaejhilaaGreatDoor.W
open Go.RowKit E
/-! the reference's parts of a plan -/
theorem prs_all {l : List Ex} : prs l = l.length ↔ ∀ k ∈ l, k.op ≠ 0 := by
  rw [prs, List.length_filter_eq_length_iff]; simp
theorem prs_pos {l : List Ex} : 0 < prs l ↔ ∃ k ∈ l, k.op ≠ 0 := by
  rw [prs, List.length_filter_pos_iff]; simp
theorem ex0_op {k : Ex} (h : k.op ≠ 0) : k ≠ ex0 := fun e => h (by rw [e])
theorem ks_lf {d0 : List Tb} {b : Bd} {l : List Int} {p : Pl} (hk : p.k = 2 ∨ p.k = 3) (h1 : lf1 b p) : ksP d0 b l p ↔ lfP d0 b l p := by
  constructor
  · rintro ⟨hA, hB, hC⟩
    refine ⟨h1, hA, fun j hj => ⟨fun h0 => Classical.byContradiction fun hne => ((hB j hj).2 hne).1 h0, fun h0 => ((hB j hj).2 (ex0_op h0)).2⟩, ?_⟩
    unfold ks3 at hC
    unfold lf4
    by_cases h2 : p.k = 2
    · rw [if_pos h2] at hC
      rw [if_neg (by omega), if_pos h2]
      refine ⟨by omega, hC.2, prs_all.2 fun k hk => ?_⟩
      obtain ⟨j, hj, rfl⟩ := List.mem_iff_getElem.1 hk
      exact ((hB j hj).2 fun e => (hB j hj).1 e h2).1
    · rw [if_neg h2] at hC
      rw [if_neg (by omega), if_neg h2]
      refine ⟨hC.1, hC.2.1, prs_pos.2 ?_⟩
      obtain ⟨k, hk, h3⟩ := List.any_eq_true.1 hC.2.2
      obtain ⟨j, hj, rfl⟩ := List.mem_iff_getElem.1 hk
      exact ⟨_, hk, ((hB j hj).2 (of_decide_eq_true h3)).1⟩
  · rintro ⟨_, hA, hB, hC⟩
    unfold lf4 at hC
    rw [if_neg (by omega)] at hC
    refine ⟨hA, fun j hj => ⟨fun e h2 => ?_, fun hne => ⟨fun h0 => hne ((hB j hj).1 h0), (hB j hj).2 fun h0 => hne ((hB j hj).1 h0)⟩⟩, ?_⟩
    · rw [if_pos h2] at hC
      exact prs_all.1 hC.2.2 _ (List.getElem_mem hj) (by rw [e])
    · unfold ks3
      by_cases h2 : p.k = 2
      · rw [if_pos h2] at hC
        rw [if_pos h2]; exact ⟨by omega, hC.2.1⟩
      · rw [if_neg h2] at hC
        rw [if_neg h2]
        obtain ⟨k, hk, h3⟩ := prs_pos.1 hC.2.2
        exact ⟨hC.1, hC.2.1, List.any_eq_true.2 ⟨k, hk, decide_eq_true (ex0_op h3)⟩⟩
abbrev PT (d0 : List Tb) (z : Nz) (b : Bd) (a : Pl) : Prop := ∀ (l : List Int) (zl : Nz), inP b l → l.length + (srM a).length ≤ 1000000 → Pure Tryz.prog 22 [scC z d0, bdC b, plC a, iL zl l] (.c (bC (shB d0 b a l)))

set_option maxHeartbeats 8000000 in
set_option maxRecDepth 20000 in
theorem part_of (d0 : List Tb) (z : Nz) (b : Bd) (hb : okB d0 b) (l : List Int) (zl : Nz) (hin : inP b l) (p : Pl) (hs : l.length + (srM p).length ≤ 1000000) (ho : okP p) (ih : ∀ a ∈ p.args, PT d0 z b a) : Pure Tryz.prog 22 [scC z d0, bdC b, plC p, iL zl l] (.c (bC (shB d0 b p l))) := by
 obtain ⟨⟨k1, k2, k3, kf, kk⟩, k5⟩ := okP_iff.1 ho
 intro H
 refine Spec.enter Tryz.func22 rfl ?_
 refine AW.wk (Wk.keep 169 [(0, .c (scC z d0)), (1, .c (bdC b)), (2, .c (plC p)), (3, .c (iL zl l))] [] (H) rfl ⟨rfl, rfl, rfl, rfl, trivial⟩ trivial (fun _ _ h => h) rfl) ?_
 refine sR (Z16 (r := [_, _, _, _, _, _, _, _, _, _, _, _, _, _, _, _, _, _, _, _, _, _, _, _, _, _]) ?_)
 refine Z16 (r := [_, _, _, _, _, _, _, _, _, _, _, _, _]) ?_
 refine sB ?_
 refine AW.seqM (fun s => s = ⟨169, sp [(0, .c (scC z d0)), (3, .c (iL zl l)), (5, .lp 5 0), (6, .lp 6 0), (8, .c (bC false)), (9, .c (bC (decide (lfK p))))], lv [(5, .box (zBd b)), (6, .box (zPl p))], H⟩) ?_ ?_
 ·
  refine AW.reg (Z1 Fx.fl35_0 ?_)
  refine Z0 Fx.ty3 ?_
  refine Z8 ?_
  refine Z19 (fun g13 => ?_) (fun g13 => ?_)
  ·
   iterate 3 refine SeqK.off rfl rfl rfl rfl rfl rfl ?_
   refine Z4 ?_
   refine sM ?_
   iterate 3 refine SeqK.off rfl rfl rfl rfl rfl rfl ?_
   refine Z4 ?_
   refine sB ?_
   exact ⟨_, by exact Wk.keep 169 _ _ _ rfl ⟨rfl, rfl, rfl, rfl, rfl, bCe (by first | exact dT (.inl g13) | exact dT (.inr (.inl g18)) | exact dI ⟨fun h => .inr (.inr h), fun h => by omega⟩), trivial⟩ ⟨rfl, rfl, trivial⟩ (fun _ _ h => h) rfl, rfl⟩
  refine Z6 Fx.fl35_0 ?_
  refine Z5 Fx.ty3 ?_
  refine Z44 ?_
  refine Z7 ?_
  refine Z19 (fun g18 => ?_) (fun g18 => ?_)
  ·
   iterate 3 refine SeqK.off rfl rfl rfl rfl rfl rfl ?_
   refine Z4 ?_
   refine sB ?_
   exact ⟨_, by exact Wk.keep 169 _ _ _ rfl ⟨rfl, rfl, rfl, rfl, rfl, bCe (by first | exact dT (.inl g13) | exact dT (.inr (.inl g18)) | exact dI ⟨fun h => .inr (.inr h), fun h => by omega⟩), trivial⟩ ⟨rfl, rfl, trivial⟩ (fun _ _ h => h) rfl, rfl⟩
  refine Z6 Fx.fl35_0 ?_
  refine Z5 Fx.ty3 ?_
  refine Z44 ?_
  refine Z7 ?_
  refine sB ?_
  exact ⟨_, by exact Wk.keep 169 _ _ _ rfl ⟨rfl, rfl, rfl, rfl, rfl, bCe (by first | exact dT (.inl g13) | exact dT (.inr (.inl g18)) | exact dI ⟨fun h => .inr (.inr h), fun h => by omega⟩), trivial⟩ ⟨rfl, rfl, trivial⟩ (fun _ _ h => h) rfl, rfl⟩
 rintro s rfl
 refine AW.seq (sR (sM ?_))
 refine Z19 (fun g24 => ?_) (fun g24 => ?_)
 ·
  refine Z6 Fx.fl35_1 ?_
  refine Z5 Fx.ty3 ?_
  refine SeqK.on (q_lss rfl rfl rfl) rfl rfl rfl rfl rfl ?_
  refine SeqK.onD (q_mvC rfl rfl) rfl rfl rfl rfl rfl (fun g28 => ?_) (fun g28 => ?_)
  ·
   iterate 6 refine SeqK.off rfl rfl rfl rfl rfl rfl ?_
   refine Z42 ?_
   refine Z13 ?_
   iterate 4 refine SeqK.off rfl rfl rfl rfl rfl rfl ?_
   refine Z42 ?_
   refine Z13 ?_
   iterate 4 refine SeqK.off rfl rfl rfl rfl rfl rfl ?_
   refine Z42 ?_
   refine Z4 ?_
   refine sM ?_
   iterate 3 refine SeqK.off rfl rfl rfl rfl rfl rfl ?_
   iterate 15 refine SeqK.offU rfl rfl rfl rfl rfl ?_
   refine SeqK.off rfl rfl rfl rfl rfl rfl ?_
   refine Z4 ?_
   refine Z3 (AW.condT rfl ?_)
   refine sR (sB ?_)
   refine AW.ret ?_
   exact f1 (q := ⟨bCe (by first | (rw [shB_leaf g24]; exact dF (fun h => by have h9 := h.1; first | exact nd_t g49 h9.2.2 | (first | omega | (simp only [List.length_map] at *; omega)))) | (rw [shB_no g24 (fun h => by have h9 := h.2; (first | omega | (simp only [List.length_map] at *; omega)))])), rfl⟩)
  refine Z6 Fx.fl35_1 ?_
  refine Z5 Fx.ty3 ?_
  refine Z6 Fx.fl51_2 ?_
  refine Z5 Fx.ty24 ?_
  refine Z28 Fx.un24 ?_
  refine SeqK.on (q_geq rfl rfl rfl) rfl rfl rfl rfl rfl ?_
  refine Z46 ?_
  refine SeqK.onD (q_mvC rfl rfl) rfl rfl rfl rfl rfl (fun g36 => ?_) (fun g36 => ?_)
  ·
   iterate 4 refine SeqK.off rfl rfl rfl rfl rfl rfl ?_
   refine Z42 ?_
   refine Z13 ?_
   iterate 4 refine SeqK.off rfl rfl rfl rfl rfl rfl ?_
   refine Z42 ?_
   refine Z4 ?_
   refine sM ?_
   iterate 3 refine SeqK.off rfl rfl rfl rfl rfl rfl ?_
   iterate 15 refine SeqK.offU rfl rfl rfl rfl rfl ?_
   refine SeqK.off rfl rfl rfl rfl rfl rfl ?_
   refine Z4 ?_
   refine Z3 (AW.condT rfl ?_)
   refine sR (sB ?_)
   refine AW.ret ?_
   exact f1 (q := ⟨bCe (by first | (rw [shB_leaf g24]; exact dF (fun h => by have h9 := h.1; first | exact nd_t g49 h9.2.2 | (first | omega | (simp only [List.length_map] at *; omega)))) | (rw [shB_no g24 (fun h => by have h9 := h.2; (first | omega | (simp only [List.length_map] at *; omega)))])), rfl⟩)
  refine Z6 Fx.fl35_5 ?_
  refine Z5 Fx.ty33 ?_
  refine Z28 Fx.un33 ?_
  refine SeqK.on (q_neq rfl rfl rfl) rfl rfl rfl rfl rfl ?_
  refine Z46 ?_
  refine SeqK.onD (q_mvC rfl rfl) rfl rfl rfl rfl rfl (fun g42 => ?_) (fun g42 => ?_)
  ·
   iterate 4 refine SeqK.off rfl rfl rfl rfl rfl rfl ?_
   refine Z42 ?_
   refine Z4 ?_
   refine sM ?_
   iterate 3 refine SeqK.off rfl rfl rfl rfl rfl rfl ?_
   iterate 15 refine SeqK.offU rfl rfl rfl rfl rfl ?_
   refine SeqK.off rfl rfl rfl rfl rfl rfl ?_
   refine Z4 ?_
   refine Z3 (AW.condT rfl ?_)
   refine sR (sB ?_)
   refine AW.ret ?_
   exact f1 (q := ⟨bCe (by first | (rw [shB_leaf g24]; exact dF (fun h => by have h9 := h.1; first | exact nd_t g49 h9.2.2 | (first | omega | (simp only [List.length_map] at *; omega)))) | (rw [shB_no g24 (fun h => by have h9 := h.2; (first | omega | (simp only [List.length_map] at *; omega)))])), rfl⟩)
  refine Z6 Fx.fl35_4 ?_
  refine Z37 (r := .g [_, _, _, _, _, _, _, _]) Fx.ty30 ?_
  refine SeqK.on (q_call _ rfl Fx.fn43 rfl (rabsent_any p.flt kf) rfl) rfl rfl rfl rfl rfl ?_
  refine SeqK.on (q_not rfl rfl) rfl rfl rfl rfl rfl ?_
  refine Z46 ?_
  refine Z4 ?_
  refine SeqK.qB (q_mvC rfl rfl) rfl rfl rfl (fun g49 => ?_) (fun g49 => ?_)
  ·
   iterate 3 refine SeqK.off rfl rfl rfl rfl rfl rfl ?_
   iterate 15 refine SeqK.offU rfl rfl rfl rfl rfl ?_
   refine SeqK.off rfl rfl rfl rfl rfl rfl ?_
   refine Z4 ?_
   refine Z3 (AW.condT rfl ?_)
   refine sR (sB ?_)
   refine AW.ret ?_
   exact f1 (q := ⟨bCe (by first | (rw [shB_leaf g24]; exact dF (fun h => by have h9 := h.1; first | exact nd_t g49 h9.2.2 | (first | omega | (simp only [List.length_map] at *; omega)))) | (rw [shB_no g24 (fun h => by have h9 := h.2; (first | omega | (simp only [List.length_map] at *; omega)))])), rfl⟩)
  refine Z13 ?_
  refine SeqK.on (q_not rfl rfl) rfl rfl rfl rfl rfl ?_
  refine SeqK.onB (q_mvC rfl rfl) rfl rfl rfl rfl rfl (fun g52 => ?_) (fun g52 => ?_)
  ·
   exact absurd g24 (nd_t g52)
  iterate 4 refine SeqK.off rfl rfl rfl rfl rfl rfl ?_
  iterate 4 refine SeqK.offU rfl rfl rfl rfl rfl ?_
  iterate 2 refine SeqK.off rfl rfl rfl rfl rfl rfl ?_
  iterate 4 refine SeqK.offU rfl rfl rfl rfl rfl ?_
  refine SeqK.off rfl rfl rfl rfl rfl rfl ?_
  refine Z46 ?_
  refine Z7 ?_
  refine Z3 (AW.condF rfl ?_)
  refine AW.skip (AW.seq (AW.seq ?_))
  have hlf : lfK p := g24
  have hlr : lf1 b p := ⟨⟨by omega, by (first | omega | (simp only [List.length_map] at *; omega))⟩, by (first | omega | (simp only [List.length_map] at *; omega)), nd_f g49⟩
  refine AW.reg (Z1 Fx.fl35_0 ?_)
  refine Z0 Fx.ty3 ?_
  refine Z3 (AW.block (sR (Z8 ?_)))
  refine sB ?_
  refine AW.condD rfl ?_ ?_ <;> intro h72
  ·
   refine sR (Z1 Fx.fl35_2 ?_)
   refine Z0 Fx.ty24 ?_
   refine Z14 Fx.un24 ?_
   refine Z8 ?_
   refine Z19 (fun g78 => ?_) (fun g78 => ?_)
   ·
    refine Z6 Fx.fl35_3 ?_
    refine Z5 Fx.ty28 ?_
    refine Z28 Fx.un28 ?_
    refine Z44 ?_
    refine Z4 ?_
    refine sB ?_
    refine AW.ret ?_
    exact f1 (q := ⟨bCe (by rw [shB_leaf hlf]; first | exact dI ⟨fun h => ⟨hlr, fun j hj => absurd hj (by (first | omega | (simp only [List.length_map] at *; omega))), fun j hj => absurd hj (by (first | omega | (simp only [List.length_map] at *; omega))), by unfold lf4; rw [if_pos h72]; (first | omega | (simp only [List.length_map] at *; omega))⟩, fun h => by have h9 := h.2.2.2; unfold lf4 at h9; rw [if_pos h72] at h9; (first | omega | (simp only [List.length_map] at *; omega))⟩ | exact dF (fun h => by have h9 := h.2.2.2; unfold lf4 at h9; rw [if_pos h72] at h9; (first | omega | (simp only [List.length_map] at *; omega)))), rfl⟩)
   iterate 4 refine SeqK.off rfl rfl rfl rfl rfl rfl ?_
   refine Z7 ?_
   refine sB ?_
   refine AW.ret ?_
   exact f1 (q := ⟨bCe (by rw [shB_leaf hlf]; first | exact dI ⟨fun h => ⟨hlr, fun j hj => absurd hj (by (first | omega | (simp only [List.length_map] at *; omega))), fun j hj => absurd hj (by (first | omega | (simp only [List.length_map] at *; omega))), by unfold lf4; rw [if_pos h72]; (first | omega | (simp only [List.length_map] at *; omega))⟩, fun h => by have h9 := h.2.2.2; unfold lf4 at h9; rw [if_pos h72] at h9; (first | omega | (simp only [List.length_map] at *; omega))⟩ | exact dF (fun h => by have h9 := h.2.2.2; unfold lf4 at h9; rw [if_pos h72] at h9; (first | omega | (simp only [List.length_map] at *; omega)))), rfl⟩)
  refine AW.seq (sR (Z8 ?_))
  refine sB ?_
  refine AW.condD rfl ?_ ?_ <;> intro h84
  ·
   refine AW.skip ?_
   refine AW.condD rfl ?_ ?_ <;> intro h84
   ·
    refine sR (sM ?_)
    refine Z12 (r := .g [_, _, _, _, _, _, _, _, _, _, _, _, _, _, _, _, _, _, _, _, _, _, _, _, _, _]) Fx.ty51 ?_
    refine Z12 (r := .g [_, _, _, _, _, _, _, _, _, _, _, _, _]) Fx.ty35 ?_
    refine sM ?_
    refine SeqK.q (q_call _ rfl Fx.fn44 rfl (keys_of d0 z b hb l zl (by omega) hin p ho hlr.1) rfl) rfl rfl rfl ?_
    refine sB ?_
    refine AW.ret ?_
    exact f1 (q := ⟨bCe (by rw [shB_leaf hlf]; exact dI (ks_lf (by omega) hlr)), rfl⟩)
   exfalso; omega
  refine AW.reg (Z8 ?_)
  refine sB ?_
  refine AW.condD rfl ?_ ?_ <;> intro h84
  ·
   refine sR (sM ?_)
   refine Z12 (r := .g [_, _, _, _, _, _, _, _, _, _, _, _, _, _, _, _, _, _, _, _, _, _, _, _, _, _]) Fx.ty51 ?_
   refine Z12 (r := .g [_, _, _, _, _, _, _, _, _, _, _, _, _]) Fx.ty35 ?_
   refine sM ?_
   refine SeqK.q (q_call _ rfl Fx.fn44 rfl (keys_of d0 z b hb l zl (by omega) hin p ho hlr.1) rfl) rfl rfl rfl ?_
   refine sB ?_
   refine AW.ret ?_
   exact f1 (q := ⟨bCe (by rw [shB_leaf hlf]; exact dI (ks_lf (by omega) hlr)), rfl⟩)
  exfalso; omega
 iterate 4 refine SeqK.off rfl rfl rfl rfl rfl rfl ?_
 iterate 6 refine SeqK.offU rfl rfl rfl rfl rfl ?_
 iterate 2 refine SeqK.off rfl rfl rfl rfl rfl rfl ?_
 iterate 4 refine SeqK.offU rfl rfl rfl rfl rfl ?_
 iterate 2 refine SeqK.off rfl rfl rfl rfl rfl rfl ?_
 iterate 4 refine SeqK.offU rfl rfl rfl rfl rfl ?_
 refine SeqK.off rfl rfl rfl rfl rfl rfl ?_
 refine Z7 ?_
 refine sM ?_
 refine Z13 ?_
 refine SeqK.on (q_not rfl rfl) rfl rfl rfl rfl rfl ?_
 refine SeqK.onB (q_mvC rfl rfl) rfl rfl rfl rfl rfl (fun g52 => ?_) (fun g52 => ?_)
 ·
  refine Z6 Fx.fl35_1 ?_
  refine Z5 Fx.ty3 ?_
  refine SeqK.on (q_neq rfl rfl rfl) rfl rfl rfl rfl rfl ?_
  refine SeqK.onD (q_mvC rfl rfl) rfl rfl rfl rfl rfl (fun g56 => ?_) (fun g56 => ?_)
  ·
   iterate 4 refine SeqK.off rfl rfl rfl rfl rfl rfl ?_
   refine Z42 ?_
   refine Z13 ?_
   iterate 4 refine SeqK.off rfl rfl rfl rfl rfl rfl ?_
   refine Z42 ?_
   refine Z42 ?_
   refine Z7 ?_
   refine Z3 (AW.condT rfl ?_)
   refine sR (sB ?_)
   refine AW.ret ?_
   exact f1 (q := ⟨bCe (by first | (rw [shB_leaf g24]; exact dF (fun h => by have h9 := h.1; first | exact nd_t g49 h9.2.2 | (first | omega | (simp only [List.length_map] at *; omega)))) | (rw [shB_no g24 (fun h => by have h9 := h.2; (first | omega | (simp only [List.length_map] at *; omega)))])), rfl⟩)
  refine Z6 Fx.fl35_2 ?_
  refine Z5 Fx.ty24 ?_
  refine Z28 Fx.un24 ?_
  refine SeqK.on (q_neq rfl rfl rfl) rfl rfl rfl rfl rfl ?_
  refine Z46 ?_
  refine SeqK.onD (q_mvC rfl rfl) rfl rfl rfl rfl rfl (fun g62 => ?_) (fun g62 => ?_)
  ·
   iterate 4 refine SeqK.off rfl rfl rfl rfl rfl rfl ?_
   refine Z42 ?_
   refine Z42 ?_
   refine Z7 ?_
   refine Z3 (AW.condT rfl ?_)
   refine sR (sB ?_)
   refine AW.ret ?_
   exact f1 (q := ⟨bCe (by first | (rw [shB_leaf g24]; exact dF (fun h => by have h9 := h.1; first | exact nd_t g49 h9.2.2 | (first | omega | (simp only [List.length_map] at *; omega)))) | (rw [shB_no g24 (fun h => by have h9 := h.2; (first | omega | (simp only [List.length_map] at *; omega)))])), rfl⟩)
  refine Z6 Fx.fl35_3 ?_
  refine Z5 Fx.ty28 ?_
  refine Z28 Fx.un28 ?_
  refine SeqK.on (q_neq rfl rfl rfl) rfl rfl rfl rfl rfl ?_
  refine Z46 ?_
  refine Z42 ?_
  refine Z7 ?_
  refine Z3 ?_
  refine AW.condD rfl ?_ ?_ <;> intro h69
  ·
   refine sR (sB ?_)
   refine AW.ret ?_
   exact f1 (q := ⟨bCe (by first | (rw [shB_leaf g24]; exact dF (fun h => by have h9 := h.1; first | exact nd_t g49 h9.2.2 | (first | omega | (simp only [List.length_map] at *; omega)))) | (rw [shB_no g24 (fun h => by have h9 := h.2; (first | omega | (simp only [List.length_map] at *; omega)))])), rfl⟩)
  refine AW.skip (AW.seq (AW.seq ?_))
  have hnl : ¬ lfK p := g24
  have hz : p.src = 0 ∧ p.cols.length = 0 ∧ p.keys.length = 0 := by (first | omega | (simp only [List.length_map] at *; omega))
  refine AW.reg (Z1 Fx.fl35_0 ?_)
  refine Z0 Fx.ty3 ?_
  refine Z3 (AW.block (sR (Z8 ?_)))
  refine sB ?_
  refine AW.condD rfl ?_ ?_ <;> intro h72
  ·
   exfalso; omega
  refine AW.seq (sR (Z8 ?_))
  refine sB ?_
  refine AW.condD rfl ?_ ?_ <;> intro h84
  ·
   exfalso; omega
  refine AW.reg (Z8 ?_)
  refine sB ?_
  refine AW.condD rfl ?_ ?_ <;> intro h84
  ·
   exfalso; omega
  refine sR (Z8 ?_)
  refine sB ?_
  refine AW.condD rfl ?_ ?_ <;> intro h92
  ·
   have hn : npP p := ⟨.inl h92, hz⟩
   refine AW.seq (AW.draw Fx.mo ?_)
   refine Z23 Fx.fl35_5 ?_
   refine Z20 Fx.ty33 ?_
   refine LexK.q (q_len rfl Fx.un33 rfl) rfl rfl rfl ?_
   refine LexK.q (q_eql rfl rfl rfl) rfl rfl rfl ?_
   refine LexK.qD (q_mvC rfl rfl) rfl rfl rfl (fun g98 => ?_) (fun g98 => ?_)
   ·
    have hq : p.args.length = 1 := by have h9 := g98; rw [List.length_map] at h9; omega
    refine Z24 Fx.fl35_4 ?_
    refine Z24 Fx.fl30_0 ?_
    refine Z21 Fx.ty3 ?_
    refine LexK.on (q_neq rfl rfl rfl) rfl rfl rfl rfl rfl ?_
    refine Z43 ?_
    refine LexK.qD (q_mvC rfl rfl) rfl rfl rfl (fun g104 => ?_) (fun g104 => ?_)
    ·
     refine Z29 ?_
     refine LexK.rOn (b_load (r := .g [_, _, _, _, _, _, _, _, _, _, _, _, _, _, _, _, _, _, _, _, _, _, _, _, _, _]) rfl Fx.ty51 rfl rfl rfl rfl rfl rfl) rfl rfl rfl ?_
     refine Z24 Fx.fl35_5 ?_
     refine Z21 Fx.ty33 ?_
     refine LexK.on (q_index _ rfl Fx.sl33 rfl rfl (by omega) (idx_pl (show 0 < p.args.length by omega))) rfl rfl rfl rfl rfl ?_
     refine Z39 (.g [_, _, _, _, _, _, _, _, _, _, _, _, _]) Fx.ty35 ?_
     refine Z29 ?_
     refine LexK.on (q_call _ rfl Fx.fn22 rfl (ih (p.args[0]'(by omega)) (List.getElem_mem _) l zl hin (by have h9 := flat_le (f := srM) (show 0 < p.args.length by omega); rw [← srM_in hnl] at h9; omega)) rfl) rfl rfl rfl rfl rfl ?_
     refine Z43 ?_
     refine LexK.qB (q_mvC rfl rfl) rfl rfl rfl (fun g114 => ?_) (fun g114 => ?_)
     ·
      refine Z29 ?_
      refine LexK.rOn (b_load (r := .g [_, _, _, _, _, _, _, _, _, _, _, _, _, _, _, _, _, _, _, _, _, _, _, _, _, _]) rfl Fx.ty51 rfl rfl rfl rfl rfl rfl) rfl rfl rfl ?_
      refine Z24 Fx.fl35_4 ?_
      refine LexK.rOn (b_load (r := .g [_, _, _, _, _, _, _, _]) rfl Fx.ty30 rfl rfl rfl rfl rfl rfl) rfl rfl rfl ?_
      refine LexK.on (q_build0 rfl Fx.el24) rfl rfl rfl rfl rfl ?_
      refine Z29 ?_
      refine LexK.rOn (b_app0 rfl Fx.el24 rfl rfl (by simp only [List.length_map, List.length_append]; omega) rfl rfl rfl) rfl rfl rfl ?_
      refine Z24 Fx.fl35_5 ?_
      refine Z21 Fx.ty33 ?_
      refine LexK.on (q_index _ rfl Fx.sl33 rfl rfl (by omega) (idx_pl (show 0 < p.args.length by omega))) rfl rfl rfl rfl rfl ?_
      refine Z39 (.g [_, _, _, _, _, _, _, _, _, _, _, _, _]) Fx.ty35 ?_
      refine LexK.on (q_call _ rfl Fx.fn21 rfl (rsrcs_any (p.args[0]'(by omega)) (k5 _ (List.getElem_mem _)) (by have h9 := flat_le (f := srM) (show 0 < p.args.length by omega); rw [← srM_in hnl] at h9; omega)) rfl) rfl rfl rfl rfl rfl ?_
      refine LexK.rOn (b_app rfl Fx.el24 rfl rfl rfl ((by rw [List.map_append] : _ = (l ++ srM (p.args[0]'(by omega))).map i64T)) (by have h8 : l.length + (srM (p.args[0]'(by omega))).length ≤ 1000000 := (by have h9 := flat_le (f := srM) (show 0 < p.args.length by omega); rw [← srM_in hnl] at h9; omega); simp only [List.length_map, List.length_append]; omega) rfl rfl) rfl rfl rfl ?_
      refine LexK.on (q_call _ rfl Fx.fn14 rfl (within_ov d0 z b (l ++ srM (p.args[0]'(by omega))) _ hb (by rw [List.length_append]; exact Nat.le_trans (by have h9 := flat_le (f := srM) (show 0 < p.args.length by omega); rw [← srM_in hnl] at h9; omega) (by omega : 1000000 ≤ _)) (inP_app hin (shB_in (p.args[0]'(by omega)) l (by assumption))) p.flt kf) rfl) rfl rfl rfl rfl rfl ?_
      refine Z43 ?_
      refine Z36 ?_
      refine Z30 ?_
      refine AW.ret ?_
      exact f1 (q := ⟨bCe (by first | (rw [shB_4 hn h92 (by omega)]; first | (rw [decide_eq_true g104, g114]; rfl) | (rw [g114]; simp; done) | (rw [decide_eq_false g104]; rfl)) | (rw [shB_4n hn h92 (by omega)])), rfl⟩)
     iterate 14 refine LexK.off rfl rfl rfl rfl rfl rfl ?_
     refine Z31 ?_
     refine Z36 ?_
     refine Z30 ?_
     refine AW.ret ?_
     exact f1 (q := ⟨bCe (by first | (rw [shB_4 hn h92 (by omega)]; first | (rw [decide_eq_true g104, g114]; rfl) | (rw [g114]; simp; done) | (rw [decide_eq_false g104]; rfl)) | (rw [shB_4n hn h92 (by omega)])), rfl⟩)
    iterate 8 refine LexK.off rfl rfl rfl rfl rfl rfl ?_
    refine Z31 ?_
    refine Z18 ?_
    iterate 14 refine LexK.off rfl rfl rfl rfl rfl rfl ?_
    refine Z31 ?_
    refine Z36 ?_
    refine Z30 ?_
    refine AW.ret ?_
    exact f1 (q := ⟨bCe (by first | (rw [shB_4 hn h92 (by omega)]; first | (rw [decide_eq_true g104, g114]; rfl) | (rw [g114]; simp; done) | (rw [decide_eq_false g104]; rfl)) | (rw [shB_4n hn h92 (by omega)])), rfl⟩)
   have hq : ¬ p.args.length = 1 := by have h9 := g98; rw [List.length_map] at h9; omega
   iterate 4 refine LexK.off rfl rfl rfl rfl rfl rfl ?_
   refine Z31 ?_
   refine Z18 ?_
   iterate 8 refine LexK.off rfl rfl rfl rfl rfl rfl ?_
   refine Z31 ?_
   refine Z18 ?_
   iterate 14 refine LexK.off rfl rfl rfl rfl rfl rfl ?_
   refine Z31 ?_
   refine Z36 ?_
   refine Z30 ?_
   refine AW.ret ?_
   exact f1 (q := ⟨bCe (by first | (rw [shB_4 hn h92 (by omega)]; first | (rw [decide_eq_true g104, g114]; rfl) | (rw [g114]; simp; done) | (rw [decide_eq_false g104]; rfl)) | (rw [shB_4n hn h92 (by omega)])), rfl⟩)
  refine sR (Z8 ?_)
  refine sB ?_
  refine AW.condD rfl ?_ ?_ <;> intro h130
  ·
   have hn : npP p := ⟨.inr h130, hz⟩
   refine AW.seq (AW.draw Fx.mo ?_)
   refine Z23 Fx.fl35_5 ?_
   refine Z20 Fx.ty33 ?_
   refine LexK.q (q_len rfl Fx.un33 rfl) rfl rfl rfl ?_
   refine LexK.q (q_eql rfl rfl rfl) rfl rfl rfl ?_
   refine LexK.qD (q_mvC rfl rfl) rfl rfl rfl (fun g136 => ?_) (fun g136 => ?_)
   ·
    have hq : p.args.length = 2 := by have h9 := g136; rw [List.length_map] at h9; omega
    refine Z24 Fx.fl35_4 ?_
    refine LexK.rOn (b_load (r := .g [_, _, _, _, _, _, _, _]) rfl Fx.ty30 rfl rfl rfl rfl rfl rfl) rfl rfl rfl ?_
    refine LexK.on (q_call _ rfl Fx.fn43 rfl (rabsent_any p.flt kf) rfl) rfl rfl rfl rfl rfl ?_
    refine Z43 ?_
    refine LexK.qB (q_mvC rfl rfl) rfl rfl rfl (fun g141 => ?_) (fun g141 => ?_)
    ·
     refine Z29 ?_
     refine LexK.rOn (b_load (r := .g [_, _, _, _, _, _, _, _, _, _, _, _, _, _, _, _, _, _, _, _, _, _, _, _, _, _]) rfl Fx.ty51 rfl rfl rfl rfl rfl rfl) rfl rfl rfl ?_
     refine Z24 Fx.fl35_5 ?_
     refine Z21 Fx.ty33 ?_
     refine LexK.on (q_index _ rfl Fx.sl33 rfl rfl (by omega) (idx_pl (show 0 < p.args.length by omega))) rfl rfl rfl rfl rfl ?_
     refine Z39 (.g [_, _, _, _, _, _, _, _, _, _, _, _, _]) Fx.ty35 ?_
     refine Z29 ?_
     refine LexK.on (q_call _ rfl Fx.fn22 rfl (ih (p.args[0]'(by omega)) (List.getElem_mem _) l zl hin (by have h9 := flat_le (f := srM) (show 0 < p.args.length by omega); rw [← srM_in hnl] at h9; omega)) rfl) rfl rfl rfl rfl rfl ?_
     refine Z43 ?_
     refine LexK.qB (q_mvC rfl rfl) rfl rfl rfl (fun g151 => ?_) (fun g151 => ?_)
     ·
      refine Z29 ?_
      refine LexK.rOn (b_load (r := .g [_, _, _, _, _, _, _, _, _, _, _, _, _, _, _, _, _, _, _, _, _, _, _, _, _, _]) rfl Fx.ty51 rfl rfl rfl rfl rfl rfl) rfl rfl rfl ?_
      refine Z24 Fx.fl35_5 ?_
      refine Z21 Fx.ty33 ?_
      refine LexK.on (q_index _ rfl Fx.sl33 rfl rfl (by omega) (idx_pl (show 1 < p.args.length by omega))) rfl rfl rfl rfl rfl ?_
      refine Z39 (.g [_, _, _, _, _, _, _, _, _, _, _, _, _]) Fx.ty35 ?_
      refine LexK.on (q_build0 rfl Fx.el24) rfl rfl rfl rfl rfl ?_
      refine Z29 ?_
      refine LexK.rOn (b_app0 rfl Fx.el24 rfl rfl (by simp only [List.length_map]; omega) rfl rfl rfl) rfl rfl rfl ?_
      refine Z24 Fx.fl35_5 ?_
      refine Z21 Fx.ty33 ?_
      refine LexK.on (q_index _ rfl Fx.sl33 rfl rfl (by omega) (idx_pl (show 0 < p.args.length by omega))) rfl rfl rfl rfl rfl ?_
      refine Z39 (.g [_, _, _, _, _, _, _, _, _, _, _, _, _]) Fx.ty35 ?_
      refine LexK.on (q_call _ rfl Fx.fn21 rfl (rsrcs_any (p.args[0]'(by omega)) (k5 _ (List.getElem_mem _)) (by have h9 := flat_le (f := srM) (show 0 < p.args.length by omega); rw [← srM_in hnl] at h9; omega)) rfl) rfl rfl rfl rfl rfl ?_
      refine LexK.rOn (b_app rfl Fx.el24 rfl rfl rfl ((by rw [List.map_append] : _ = (l ++ srM (p.args[0]'(by omega))).map i64T)) (by have h8 : l.length + (srM (p.args[0]'(by omega))).length ≤ 1000000 := (by have h9 := flat_le (f := srM) (show 0 < p.args.length by omega); rw [← srM_in hnl] at h9; omega); simp only [List.length_map, List.length_append]; omega) rfl rfl) rfl rfl rfl ?_
      refine LexK.on (q_call _ rfl Fx.fn22 rfl (ih (p.args[1]'(by omega)) (List.getElem_mem _) (l ++ srM (p.args[0]'(by omega))) _ (inP_app hin (shB_in (p.args[0]'(by omega)) l (by assumption))) (by have h9 := congrArg List.length (sr_two hnl (show p.args.length = 2 by omega)); rw [List.length_append] at h9 ⊢; omega)) rfl) rfl rfl rfl rfl rfl ?_
      refine Z43 ?_
      refine Z36 ?_
      refine Z30 ?_
      refine AW.ret ?_
      exact f1 (q := ⟨bCe (by first | (rw [shB_5 hn (by omega) (by omega)]; first | (rw [g141, g151]; rfl) | (rw [g151]; simp; done) | (rw [g141]; rfl)) | (rw [shB_5n hn (by omega) (by omega)])), rfl⟩)
     iterate 16 refine LexK.off rfl rfl rfl rfl rfl rfl ?_
     refine Z31 ?_
     refine Z36 ?_
     refine Z30 ?_
     refine AW.ret ?_
     exact f1 (q := ⟨bCe (by first | (rw [shB_5 hn (by omega) (by omega)]; first | (rw [g141, g151]; rfl) | (rw [g151]; simp; done) | (rw [g141]; rfl)) | (rw [shB_5n hn (by omega) (by omega)])), rfl⟩)
    iterate 8 refine LexK.off rfl rfl rfl rfl rfl rfl ?_
    refine Z31 ?_
    refine Z18 ?_
    iterate 16 refine LexK.off rfl rfl rfl rfl rfl rfl ?_
    refine Z31 ?_
    refine Z36 ?_
    refine Z30 ?_
    refine AW.ret ?_
    exact f1 (q := ⟨bCe (by first | (rw [shB_5 hn (by omega) (by omega)]; first | (rw [g141, g151]; rfl) | (rw [g151]; simp; done) | (rw [g141]; rfl)) | (rw [shB_5n hn (by omega) (by omega)])), rfl⟩)
   have hq : ¬ p.args.length = 2 := by have h9 := g136; rw [List.length_map] at h9; omega
   iterate 3 refine LexK.off rfl rfl rfl rfl rfl rfl ?_
   refine Z31 ?_
   refine Z18 ?_
   iterate 8 refine LexK.off rfl rfl rfl rfl rfl rfl ?_
   refine Z31 ?_
   refine Z18 ?_
   iterate 16 refine LexK.off rfl rfl rfl rfl rfl rfl ?_
   refine Z31 ?_
   refine Z36 ?_
   refine Z30 ?_
   refine AW.ret ?_
   exact f1 (q := ⟨bCe (by first | (rw [shB_5 hn (by omega) (by omega)]; first | (rw [g141, g151]; rfl) | (rw [g151]; simp; done) | (rw [g141]; rfl)) | (rw [shB_5n hn (by omega) (by omega)])), rfl⟩)
  refine AW.skip (sR (sB ?_))
  refine AW.ret ?_
  exact f1 (q := ⟨bCe (by rw [shB_no hnl (fun h => by have h9 := h.1; omega)]), rfl⟩)
 exact absurd (nd_f g52) g24

theorem part_any (d0 : List Tb) (z : Nz) (b : Bd) (hb : okB d0 b) (p : Pl) : okP p → PT d0 z b p := by
  induction p using Pl.rec' with
  | h p ih => exact fun ho l zl hin hs => part_of d0 z b hb l zl hin p hs ho fun a ha => ih a ha ((okP_iff.1 ho).2 a ha)

end Go.Proofs.YtihlgigaejhilaaGreatDoor.W
namespace Go.Proofs.YtihlgigaejhilaaGreatDoor.W
open Go.RowKit E
/-! the reference's well-formed plans -/
theorem nodup_take (l : List Int) : (∀ i (h : i < l.length), l[i] ∉ l.take i) ↔ l.Nodup := by
  rw [List.Nodup, List.pairwise_iff_getElem]
  constructor
  · intro h i j hi hj hij e
    refine h j hj ?_
    rw [← e]
    exact List.mem_take_iff_getElem.2 ⟨i, by omega, rfl⟩
  · intro h i hi hm
    obtain ⟨j, hj, e⟩ := List.mem_take_iff_getElem.1 hm
    exact h j i (by omega) hi (by omega) e
theorem perm_sub : ∀ (l m : List Int), l.Nodup → (∀ v ∈ l, v ∈ m) → m.length ≤ l.length → l.Perm m
  | [], m, _, _, h => by
    rw [List.length_eq_zero_iff.1 (by simpa using h : m.length = 0)]
  | a :: r, m, hn, hs, h => by
    have ha := hs a (by simp)
    rw [List.nodup_cons] at hn
    have hp := List.perm_cons_erase ha
    have hl : (m.erase a).length = m.length - 1 := List.length_erase_of_mem ha
    refine (List.Perm.cons a (perm_sub r (m.erase a) hn.2 (fun v hv => ?_) ?_)).trans hp.symm
    · exact (List.mem_erase_of_ne (fun e => hn.1 (by rw [← e]; exact hv))).2 (hs v (by simp [hv]))
    · rw [hl]; simp at h; omega
theorem mem_num {n : Nat} {v : Int} : v ∈ numI n ↔ 0 ≤ v ∧ v < n := by
  rw [numI, List.mem_map]
  constructor
  · rintro ⟨i, hi, rfl⟩; have := List.mem_range.1 hi; omega
  · rintro ⟨h1, h2⟩; exact ⟨v.toNat, List.mem_range.2 (by omega), by omega⟩
theorem numI_nd (n : Nat) : (numI n).Nodup := by
  rw [numI, List.nodup_iff_pairwise_ne, List.pairwise_map]
  refine List.Pairwise.imp ?_ List.pairwise_lt_range
  intro a b h; omega
theorem num_len (n : Nat) : (numI n).length = n := by rw [numI, List.length_map, List.length_range]
/-- sorted, the sources are 0, 1, 2 ..: they are different, and as many as there are -/
theorem srt_iff {l : List Int} {n : Nat} (hin : ∀ v ∈ l, 0 ≤ v ∧ v < n) : ((∀ j (h : j < (srtI l).length), (srtI l)[j] = (j : Int)) ∧ (srtI l).length = n) ↔ (l.length = n ∧ l.Nodup) := by
  have hp : (srtI l).Perm l := List.mergeSort_perm l _
  constructor
  · rintro ⟨h1, h2⟩
    have e : srtI l = numI n := List.ext_getElem (by rw [h2, num_len]) fun i h3 h4 => by
      rw [h1 i h3]; simp [numI]
    refine ⟨by rw [← hp.length_eq, h2], hp.nodup_iff.1 (by rw [e]; exact numI_nd n)⟩
  · rintro ⟨h1, h2⟩
    have hq : l.Perm (numI n) := perm_sub _ _ h2 (fun v hv => mem_num.2 (hin v hv)) (by rw [num_len, h1]; exact Nat.le_refl _)
    have e : srtI l = numI n := by
      rw [← srt_num n]
      exact List.Perm.eq_of_pairwise (fun a b _ _ h1 h2 => by simp at h1 h2; omega) (List.pairwise_mergeSort (fun a b c h1 h2 => by simp at *; omega) (fun a b => by simp; omega) _) (List.pairwise_mergeSort (fun a b c h1 h2 => by simp at *; omega) (fun a b => by simp; omega) _) (hp.trans (hq.trans (List.mergeSort_perm _ _).symm))
    refine ⟨fun j h => ?_, by rw [hp.length_eq, h1]⟩
    have h3 : j < (numI n).length := by rw [← e]; exact h
    have h4 : (srtI l)[j] = (numI n)[j] := by congr 1
    rw [h4]; simp [numI]
theorem shp_iff {d0 : List Tb} {b : Bd} {p : Pl} : shpP d0 b p ↔ (srM p).length = b.tabs.length ∧ shB d0 b p [] = true ∧ ∀ i (h : i < (srM p).length), (srM p)[i] ∉ (srM p).take i := by
  rw [nodup_take]
  constructor
  · rintro ⟨h1, h2⟩
    have h3 := (srt_iff (shB_in p _ h1)).1 h2
    exact ⟨h3.1, h1, h3.2⟩
  · rintro ⟨h1, h2, h3⟩
    exact ⟨h2, (srt_iff (shB_in p _ h2)).2 ⟨h1, h3⟩⟩

set_option maxHeartbeats 8000000 in
set_option maxRecDepth 20000 in
theorem rshape_any (d0 : List Tb) (z : Nz) (b : Bd) (hb : okB d0 b) (p : Pl) (ho : okP p) (hs : (srM p).length ≤ 1000000) : Pure Tryz.prog 7 [scC z d0, bdC b, plC p] (.c (bC (decide (shpP d0 b p)))) := by
 intro H
 refine Spec.enter Tryz.func7 rfl ?_
 refine AW.wk (Wk.keep 38 [(0, .c (scC z d0)), (1, .c (bdC b)), (2, .c (plC p))] [] (H) rfl ⟨rfl, rfl, rfl, trivial⟩ trivial (fun _ _ h => h) rfl) ?_
 refine sR (Z16 (r := [_, _, _, _, _, _, _, _, _, _, _, _, _, _, _, _, _, _, _, _, _, _, _, _, _, _]) ?_)
 refine Z16 (r := [_, _, _, _, _, _, _, _, _, _, _, _, _]) ?_
 refine sB ?_
 refine sR (Z12 (r := .g [_, _, _, _, _, _, _, _, _, _, _, _, _]) Fx.ty35 ?_)
 refine Z22 Fx.fn21 (rsrcs_any p ho hs) ?_
 refine sB ?_
 refine AW.seq (sR (sM ?_))
 refine Z14 Fx.un24 ?_
 refine Z1 Fx.fl51_2 ?_
 refine Z0 Fx.ty24 ?_
 refine Z14 Fx.un24 ?_
 refine Z49 ?_
 refine Z19 (fun g17 => ?_) (fun g17 => ?_)
 ·
  iterate 5 refine SeqK.off rfl rfl rfl rfl rfl rfl ?_
  refine Z4 ?_
  refine Z3 (AW.condT rfl ?_)
  refine sR (sB ?_)
  refine AW.ret ?_
  exact f1 (q := ⟨bCe (dF (fun h => by have h9 := shp_iff.1 h; first | (have h8 := h9.2.1; rw [h8] at h23; cases h23) | (have h8 := h9.1; (first | omega | (simp only [List.length_map] at *; omega))))), rfl⟩)
 refine Z13 ?_
 refine Z37 (r := .g [_, _, _, _, _, _, _, _, _, _, _, _, _, _, _, _, _, _, _, _, _, _, _, _, _, _]) Fx.ty51 ?_
 refine Z37 (r := .g [_, _, _, _, _, _, _, _, _, _, _, _, _]) Fx.ty35 ?_
 refine SeqK.on (q_call _ rfl Fx.fn22 rfl (Pure.arg (l := [scC z d0, bdC b, plC p]) (r := []) (XW.nilU (sz := 1)) (part_any d0 z b hb p ho [] .un (fun _ h => by cases h) (by simpa using hs))) rfl) rfl rfl rfl rfl rfl ?_
 refine SeqK.on (q_not rfl rfl) rfl rfl rfl rfl rfl ?_
 refine Z7 ?_
 refine Z3 ?_
 refine AW.cond _ rfl (fun h23 => ?_) (fun h23 => ?_)
 ·
  refine sR (sB ?_)
  refine AW.ret ?_
  exact f1 (q := ⟨bCe (dF (fun h => by have h9 := shp_iff.1 h; first | (have h8 := h9.2.1; rw [h8] at h23; cases h23) | (have h8 := h9.1; (first | omega | (simp only [List.length_map] at *; omega))))), rfl⟩)
 refine AW.skip (AW.seq (AW.seq ?_))
 have hA : (srM p).length = b.tabs.length := by (first | omega | (simp only [List.length_map] at *; omega))
 have hB : shB d0 b p [] = true := by simpa using h23
 refine AW.reg (sB ?_)
 refine AW.block ?_
 refine AW.loop (fun (i : Nat) s => (i ≤ (srM p).length ∧ ∀ j (h : j < (srM p).length), j < i → (srM p)[j] ∉ (srM p).take j) ∧ s = ⟨38, sp [(6, .c (bC false)), (7, .c (iL .un (srM p))), (8, iX .i64 ((i : Nat) : Int))], lv [], H⟩) (fun i => (srM p).length - i) 0 ⟨_, by exact Wk.keep 38 _ _ _ rfl ⟨rfl, rfl, rfl, trivial⟩ trivial (fun _ _ h => h) rfl, ⟨Nat.zero_le _, up0⟩, rfl⟩ (fun i s hs => ?_)
 obtain ⟨⟨hi0, hU⟩, rfl⟩ := hs
 refine AW.seq (sR (sM ?_))
 refine sM ?_
 refine Z14 Fx.un24 ?_
 refine Z10 ?_
 refine Z3 ?_
 refine AW.condD rfl ?_ ?_ <;> intro h27
 ·
  have hi : i < (srM p).length := by rw [List.length_map] at h27; omega
  refine AW.skip (AW.seq (AW.block (AW.seq (AW.draw Fx.mo ?_))))
  refine Z18 ?_
  refine Z18 ?_
  refine LexK.q (q_cut 0 i (((srM p).take i).map i64T) rfl Fx.sl24 rfl (by first | rfl | exact ⟨_, rfl⟩) (by first | rfl | exact ⟨_, rfl⟩) (by omega) (by simp only [List.length_map]; omega) (by rw [List.drop_zero, List.map_take])) rfl rfl rfl ?_
  refine Z18 ?_
  refine Z18 ?_
  refine Z27 Fx.sl24 (idx_map (f := i64T) hi) ?_
  refine Z26 (.a _) Fx.ty3 ?_
  refine LexK.q (q_call _ rfl Fx.fn23 rfl (has_any ((srM p).take i) .un (srM p)[i] (by rw [List.length_take]; omega)) rfl) rfl rfl rfl ?_
  refine Z30 ?_
  refine AW.cond _ rfl (fun h37 => ?_) (fun h37 => ?_)
  ·
   refine sR (sB ?_)
   refine AW.ret ?_
   exact f1 (q := ⟨bCe (dF (fun h => (shp_iff.1 h).2.2 i hi (of_decide_eq_true h37))), rfl⟩)
  refine AW.skip (AW.reg (sM ?_))
  refine Z2 ?_
  refine sB ?_
  exact ⟨i + 1, _, by exact Wk.keep 38 _ _ _ rfl ⟨rfl, rfl, rfl, trivial⟩ trivial (fun _ _ h => h) rfl, by omega, ⟨hi, upS (Q := fun j h => (srM p)[j] ∉ (srM p).take j) hi hU (of_decide_eq_false h37)⟩, rfl⟩
 refine AW.exit ?_
 refine eth_e ?_
 refine eth_e ?_
 refine exit_here ?_
 refine sR (sB ?_)
 refine AW.ret ?_
 exact f1 (q := ⟨bCe (dT (shp_iff.2 ⟨hA, hB, upE hU (by rw [List.length_map] at h27; omega)⟩)), rfl⟩)

end Go.Proofs.YtihlgigaejhilaaGreatDoor.W
