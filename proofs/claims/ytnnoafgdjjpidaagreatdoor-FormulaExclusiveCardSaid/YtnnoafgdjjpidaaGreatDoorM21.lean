import Derived.Test.YtnnoafgdjjpidaaGreatDoorM20
set_option maxRecDepth 20000
set_option maxHeartbeats 8000000
set_option linter.unusedSectionVars false
set_option linter.unusedSimpArgs false
set_option linter.unusedVariables false
namespace Go.Proofs.YtnnoafgdjjpidaaGreatDoor.W
open Go.RowKit E M
theorem txX_b {l : List Vr} {e : Ex} (h : txX l e = true) : txB l e = true := by rw [txX, Bool.and_eq_true] at h; exact h.2
theorem opd_noT {l : List Vr} {a : Ex} (h : OpdP l a) (ht : txX l a = false) : ¬ txB l a = true := fun hb => by
  have hz : a.args.length = 0 := by
    cases h with
    | nul h1 h2 h3 => rw [h3]; rfl
    | txc h1 h2 h3 => rw [h3]; rfl
    | txl h1 h2 h3 h4 => rw [h3]; rfl
    | int h1 h2 =>
      exfalso
      rcases opd_txt (.int h1 h2) hb with k | k
      · rw [inB_eq, if_neg (by omega), if_pos k.1, Bool.and_eq_true] at h1
        have := of_decide_eq_true h1.2; have := of_decide_eq_true k.2; omega
      · unfold txB at hb
        rw [if_neg (by omega)] at hb
        rw [inB_eq, if_pos k.1] at h1
        have := of_decide_eq_true h1; have := of_decide_eq_true hb; omega
  rw [txX, decide_eq_true hz, hb] at ht; cases ht
theorem bnf {b : Bool} (h : (!b) = false) : b = true := by simpa using h
theorem bnt {b : Bool} (h : (!b) = true) : b = false := by simpa using h
theorem cond_of (e : Ex) (l : List Vr) (z : Nz) (hL : l.length ≤ 17592186044000) (d : Nat) (hd : d ≤ 8) (hr : rgQ e) (ih : 0 < d → ∀ a ∈ e.args, ∀ H : Heap, E.Spec Tryz.prog 18 [exC a, vsC z l, iC ((d - 1 : Nat) : Int)] H fun x H' => ∃ b, x = .c (bC b) ∧ (b = true → Cd l a ∧ shP 12 a) ∧ H' = H) (H : Heap) : E.Spec Tryz.prog 18 [exC e, vsC z l, iC (d : Int)] H fun x H' => ∃ b, x = .c (bC b) ∧ (b = true → Cd l e ∧ shP 12 e) ∧ H' = H := by
 have hlen := ((rgQ_eq e).1 hr).1.2.2.2
 have hrs := ((rgQ_eq e).1 hr).2
 refine Spec.enter Tryz.func18 rfl ?_
 refine AW.wk (Wk.keep 256 [(0, .c (exC e)), (1, .c (vsC z l)), (2, .c (iC (d : Int)))] [] (H) rfl ⟨rfl, rfl, rfl, trivial⟩ trivial (fun _ _ h => h) rfl) ?_
 refine sR (Z20 (r := [_, _, _, _, _, _, _, _]) ?_)
 refine sB ?_
 refine AW.seq (sR (sM ?_))
 refine Z9 ?_
 refine Z17 ?_ ?_ <;> intro g11
 ·
  iterate 3 refine oF ?_
  refine Z8 ?_
  refine Z7 (AW.condT rfl ?_)
  refine sR (sB ?_)
  exact aR (f1 (q := nb))
 refine Z25 (r := .g [_, _, _, _, _, _, _, _]) Fx.ty26 ?_
 refine relOn Fx.fn31 (short_any 12 e (rgQ_E e hr) (by decide) _) ?_
 intro b13 q13
 refine Z41 ?_
 refine Z4 ?_
 refine Z7 ?_
 refine AW.cond _ rfl (fun h15 => ?_) (fun h15 => ?_)
 ·
  refine sR (sB ?_)
  exact aR (f1 (q := nb))
 have hs : shP 12 e := q13 (bnf h15)
 have hsa := (sh_args hs).2
 refine AW.skip (AW.seq (sR (Z1 Fx.fl26_0 ?_)))
 refine Z0 Fx.ty3 ?_
 refine Z7 (AW.block (AW.seq (sR (Z9 ?_))))
 refine sB ?_
 refine cD ?_ ?_ <;> intro h18
 ·
  refine AW.skip ?_
  refine cD ?_ ?_ <;> intro h18
  ·
   refine sR (Z1 Fx.fl26_5 ?_)
   refine Z0 Fx.ty24 ?_
   refine Z22 Fx.un24 ?_
   refine Z9 ?_
   refine Z17 ?_ ?_ <;> intro g25
   rotate_left
   ·
    iterate 8 refine oF ?_
    refine Z4 ?_
    refine sM ?_
    iterate 8 refine oF ?_
    refine Z4 ?_
    refine sB ?_
    exact aR (f1 (q := nb))
   have hl2 : e.args.length = 2 := by simp only [List.length_map] at *; omega
   have h01 : 0 < e.args.length := by omega
   have h12 : 1 < e.args.length := by omega
   refine Z5 Fx.fl26_5 ?_
   refine Z3 Fx.ty24 ?_
   refine Z15 Fx.sl24 (idx_ex h01) ?_
   refine Z19 (.g [_, _, _, _, _, _, _, _]) Fx.ty26 ?_
   refine Z14 ?_
   refine Z14 ?_
   refine SeqK.on (q_sub _ rfl rfl rfl ((by rw [w64 (by omega) (by omega)]; omega : IntKind.i64.wrap _ = ((d - 1 : Nat) : Int)))) rfl rfl rfl rfl rfl ?_
   refine relOn Fx.fn18 (ih (by omega) _ (List.getElem_mem h01) _) ?_
   intro b33 q33
   refine Z8 ?_
   refine Z36 ?_ ?_ <;> intro g35
   ·
    refine Z5 Fx.fl26_5 ?_
    refine Z3 Fx.ty24 ?_
    refine Z15 Fx.sl24 (idx_ex h12) ?_
    refine Z19 (.g [_, _, _, _, _, _, _, _]) Fx.ty26 ?_
    refine Z14 ?_
    refine Z14 ?_
    refine SeqK.on (q_sub _ rfl rfl rfl ((by rw [w64 (by omega) (by omega)]; omega : IntKind.i64.wrap _ = ((d - 1 : Nat) : Int)))) rfl rfl rfl rfl rfl ?_
    refine relOn Fx.fn18 (ih (by omega) _ (List.getElem_mem h12) _) ?_
    intro b43 q43
    refine Z8 ?_
    refine sB ?_
    exact aR (f1 (q := ⟨_, rfl, by first | exact (fun h => ⟨.and e _ _ (by omega) (args2 hl2) (q33 (by assumption)).1 (q43 h).1, hs⟩) | exact (fun h => by first | (cases h; done) | (exfalso; simp_all; done)), rfl⟩))
   iterate 8 refine oF ?_
   refine Z4 ?_
   refine sB ?_
   exact aR (f1 (q := nb))
  refine sR (Z9 ?_)
  refine sB ?_
  refine cD ?_ ?_ <;> intro h45
  ·
   refine sR (Z1 Fx.fl26_5 ?_)
   refine Z0 Fx.ty24 ?_
   refine Z22 Fx.un24 ?_
   refine Z9 ?_
   refine Z17 ?_ ?_ <;> intro g51
   ·
    have hl1 : e.args.length = 1 := by simp only [List.length_map] at *; omega
    have h01 : 0 < e.args.length := by omega
    refine Z5 Fx.fl26_5 ?_
    refine Z3 Fx.ty24 ?_
    refine Z15 Fx.sl24 (idx_ex h01) ?_
    refine Z19 (.g [_, _, _, _, _, _, _, _]) Fx.ty26 ?_
    refine Z14 ?_
    refine Z14 ?_
    refine SeqK.on (q_sub _ rfl rfl rfl ((by rw [w64 (by omega) (by omega)]; omega : IntKind.i64.wrap _ = ((d - 1 : Nat) : Int)))) rfl rfl rfl rfl rfl ?_
    refine relOn Fx.fn18 (ih (by omega) _ (List.getElem_mem h01) _) ?_
    intro b59 q59
    refine Z8 ?_
    refine sB ?_
    exact aR (f1 (q := ⟨_, rfl, by first | exact (fun h => ⟨.not e _ (by assumption) (args1 hl1) (q59 h).1, hs⟩) | exact (fun h => by first | (cases h; done) | (exfalso; simp_all; done)), rfl⟩))
   iterate 8 refine oF ?_
   refine Z4 ?_
   refine sB ?_
   exact aR (f1 (q := nb))
  refine sR (Z9 ?_)
  refine sB ?_
  refine cD ?_ ?_ <;> intro h61
  ·
   refine sR (Z1 Fx.fl26_5 ?_)
   refine Z0 Fx.ty24 ?_
   refine Z22 Fx.un24 ?_
   refine Z9 ?_
   refine Z17 ?_ ?_ <;> intro g67
   ·
    have hl1 : e.args.length = 1 := by simp only [List.length_map] at *; omega
    have h01 : 0 < e.args.length := by omega
    refine Z5 Fx.fl26_5 ?_
    refine Z3 Fx.ty24 ?_
    refine Z15 Fx.sl24 (idx_ex h01) ?_
    refine Z19 (.g [_, _, _, _, _, _, _, _]) Fx.ty26 ?_
    refine Z14 ?_
    refine relOn Fx.fn32 (operand_any _ l z hL 11 (hrs _ (List.getElem_mem h01)) (hsa _ (List.getElem_mem h01)) (by decide) _) ?_
    intro b73 q73
    refine Z8 ?_
    refine sB ?_
    exact aR (f1 (q := ⟨_, rfl, by first | exact (fun h => ⟨.isn e _ (by assumption) (args1 hl1) (q73 h), hs⟩) | exact (fun h => by first | (cases h; done) | (exfalso; simp_all; done)), rfl⟩))
   iterate 6 refine oF ?_
   refine Z4 ?_
   refine sB ?_
   exact aR (f1 (q := nb))
  refine sR (Z9 ?_)
  refine sB ?_
  refine cD ?_ ?_ <;> intro h75
  rotate_left
  ·
   refine AW.skip (AW.seq (sR (Z1 Fx.fl26_0 ?_)))
   refine Z0 Fx.ty3 ?_
   refine Z12 Fx.fn36 (place_any _) ?_
   refine Z30 ?_
   refine Z17 ?_ ?_ <;> intro g166
   ·
    iterate 4 refine oF ?_
    refine Z8 ?_
    refine sM ?_
    iterate 7 refine oF ?_
    refine Z8 ?_
    refine sM ?_
    iterate 7 refine oF ?_
    refine Z8 ?_
    refine Z7 (AW.condT rfl ?_)
    refine sR (sB ?_)
    exact aR (f1 (q := nb))
   have hop : 10 ≤ e.op ∧ e.op ≤ 15 := by by_cases hq : 10 ≤ e.op ∧ e.op ≤ 15; exact hq; (rw [if_neg hq] at g166; omega)
   refine Z5 Fx.fl26_5 ?_
   refine Z3 Fx.ty24 ?_
   refine Z50 Fx.un24 ?_
   refine Z42 ?_
   refine Z4 ?_
   refine Z17 ?_ ?_ <;> intro g172
   ·
    iterate 7 refine oF ?_
    refine Z8 ?_
    refine sM ?_
    iterate 7 refine oF ?_
    refine Z8 ?_
    refine Z7 (AW.condT rfl ?_)
    refine sR (sB ?_)
    exact aR (f1 (q := nb))
   have hl2 : e.args.length = 2 := by simp only [List.length_map] at *; omega
   have h01 : 0 < e.args.length := by omega
   have h12 : 1 < e.args.length := by omega
   refine Z5 Fx.fl26_5 ?_
   refine Z3 Fx.ty24 ?_
   refine Z15 Fx.sl24 (idx_ex h01) ?_
   refine Z19 (.g [_, _, _, _, _, _, _, _]) Fx.ty26 ?_
   refine Z14 ?_
   refine relOn Fx.fn32 (operand_any _ l z hL 11 (hrs _ (List.getElem_mem h01)) (hsa _ (List.getElem_mem h01)) (by decide) _) ?_
   intro b178 q178
   refine Z41 ?_
   refine Z4 ?_
   refine Z36 ?_ ?_ <;> intro g181
   ·
    iterate 7 refine oF ?_
    refine Z8 ?_
    refine Z7 (AW.condT rfl ?_)
    refine sR (sB ?_)
    exact aR (f1 (q := nb))
   refine Z5 Fx.fl26_5 ?_
   refine Z3 Fx.ty24 ?_
   refine Z15 Fx.sl24 (idx_ex h12) ?_
   refine Z19 (.g [_, _, _, _, _, _, _, _]) Fx.ty26 ?_
   refine Z14 ?_
   refine relOn Fx.fn32 (operand_any _ l z hL 11 (hrs _ (List.getElem_mem h12)) (hsa _ (List.getElem_mem h12)) (by decide) _) ?_
   intro b187 q187
   refine Z41 ?_
   refine Z4 ?_
   refine Z7 ?_
   refine AW.cond _ rfl (fun h189 => ?_) (fun h189 => ?_)
   ·
    refine sR (sB ?_)
    exact aR (f1 (q := nb))
   refine AW.skip (AW.seq ?_)
   have ha : OpdP l e.args[0] := q178 (bnf g181)
   have hb : OpdP l e.args[1] := q187 (bnf h189)
   refine AW.draw Fx.mo ?_
   refine Z23 Fx.fl26_5 ?_
   refine Z18 Fx.ty24 ?_
   refine Z29 Fx.sl24 (idx_ex h01) ?_
   refine Z32 (.g [_, _, _, _, _, _, _, _]) Fx.ty26 ?_
   refine Z23 Fx.fl26_5 ?_
   refine Z18 Fx.ty24 ?_
   refine Z29 Fx.sl24 (idx_ex h12) ?_
   refine Z32 (.g [_, _, _, _, _, _, _, _]) Fx.ty26 ?_
   refine LexK.r (b_alloc (r := [_, _, _, _, _, _, _, _]) rfl rfl Fx.ze26 rfl rfl rfl rfl) rfl ?_
   refine LexK.r (b_alloc (r := [_, _, _, _, _, _, _, _]) rfl rfl Fx.ze26 rfl rfl rfl rfl) rfl ?_
   refine Z40 (r := [_, _, _, _, _, _, _, _]) Fx.ty26 ?_
   refine Z40 (r := [_, _, _, _, _, _, _, _]) Fx.ty26 ?_
   refine Z48 ?_
   refine AW.seqM (fun s => s = ⟨256, sp [(1, .c (vsC z l)), (3, .lp 3 0), (7, .lp 7 0), (8, .lp 8 0)], lv [(3, .box (zEx e)), (7, .box (zEx e.args[0])), (8, .box (zEx e.args[1]))], H⟩) ?_ ?_
   ·
    refine sR (Z10 (r := .g [_, _, _, _, _, _, _, _]) Fx.ty26 ?_)
    refine sM ?_
    refine Z12 Fx.fn33 (text_any _ l z hL) ?_
    refine Z49 ?_
    refine Z36 ?_ ?_ <;> intro g202
    ·
     refine Z25 (r := .g [_, _, _, _, _, _, _, _]) Fx.ty26 ?_
     refine Z14 ?_
     refine Z35 Fx.fn33 (text_any _ l z hL) ?_
     refine Z41 ?_
     refine Z8 ?_
     refine Z7 ?_
     refine AW.cond _ rfl (fun h207 => ?_) (fun h207 => ?_)
     ·
      refine sR (sB ?_)
      exact aR (f1 (q := ⟨_, rfl, (fun _ => ⟨.cmp e _ _ hop (args2 hl2) ha hb (.inl ⟨opd_noT ha (bnt g202), opd_noT hb (bnt h207)⟩), hs⟩), rfl⟩))
     refine AW.skip ?_
     exact ⟨_, by exact Wk.keep 256 _ _ _ rfl ⟨rfl, rfl, rfl, rfl, trivial⟩ ⟨rfl, rfl, rfl, trivial⟩ (fun _ _ h => h) rfl, rfl⟩
    iterate 4 refine oF ?_
    refine Z4 ?_
    refine Z7 (AW.condF rfl ?_)
    refine AW.skip ?_
    exact ⟨_, by exact Wk.keep 256 _ _ _ rfl ⟨rfl, rfl, rfl, rfl, trivial⟩ ⟨rfl, rfl, rfl, trivial⟩ (fun _ _ h => h) rfl, rfl⟩
   rintro s rfl
   refine AW.seqM (fun s => (tnB l e.args[0] ∧ tnB l e.args[1]) ∧ s = ⟨256, sp [(3, .lp 3 0), (7, .lp 7 0), (8, .lp 8 0)], lv [(3, .box (zEx e)), (7, .box (zEx e.args[0])), (8, .box (zEx e.args[1]))], H⟩) ?_ ?_
   ·
    refine sR (Z10 (r := .g [_, _, _, _, _, _, _, _]) Fx.ty26 ?_)
    refine sM ?_
    refine Z12 Fx.fn33 (text_any _ l z hL) ?_
    refine Z49 ?_
    refine Z36 ?_ ?_ <;> intro g212
    rotate_left
    ·
     iterate 4 refine oF ?_
     iterate 2 refine oU ?_
     iterate 2 refine oF ?_
     refine Z4 ?_
     refine sM ?_
     refine Z25 (r := .g [_, _, _, _, _, _, _, _]) Fx.ty26 ?_
     refine Z14 ?_
     refine Z35 Fx.fn33 (text_any _ l z hL) ?_
     refine Z41 ?_
     refine SeqK.onB (q_mvC rfl rfl) rfl rfl rfl rfl rfl (fun g227 => ?_) (fun g227 => ?_)
     rotate_left
     ·
      iterate 4 refine oF ?_
      iterate 2 refine oU ?_
      iterate 2 refine oF ?_
      refine Z37 ?_
      refine Z4 ?_
      refine Z7 (AW.condF rfl ?_)
      refine AW.skip ?_
      exact ⟨_, by exact Wk.keep 256 _ _ _ rfl ⟨rfl, rfl, rfl, trivial⟩ ⟨rfl, rfl, rfl, trivial⟩ (fun _ _ h => h) rfl, ⟨(by first | exact .inl (txX_b (bnf g212)) | exact .inr ⟨g216, bnf g222⟩), (by first | exact .inl (txX_b (bnf g227)) | exact .inr ⟨g231, bnf h237⟩)⟩, rfl⟩
     refine Z5 Fx.fl26_0 ?_
     refine Z3 Fx.ty3 ?_
     refine Z21 ?_
     refine Z46 ?_ ?_ <;> intro g231
     ·
      refine Z25 (r := .g [_, _, _, _, _, _, _, _]) Fx.ty26 ?_
      refine Z35 Fx.fn34 (null_any _ (rgQ_E _ (hrs _ (List.getElem_mem h12)))) ?_
      refine Z33 ?_
      refine Z41 ?_
      refine Z33 ?_
      refine Z4 ?_
      refine Z7 ?_
      refine AW.cond _ rfl (fun h237 => ?_) (fun h237 => ?_)
      ·
       refine sR (sB ?_)
       exact aR (f1 (q := nb))
      refine AW.skip ?_
      exact ⟨_, by exact Wk.keep 256 _ _ _ rfl ⟨rfl, rfl, rfl, trivial⟩ ⟨rfl, rfl, rfl, trivial⟩ (fun _ _ h => h) rfl, ⟨(by first | exact .inl (txX_b (bnf g212)) | exact .inr ⟨g216, bnf g222⟩), (by first | exact .inl (txX_b (bnf g227)) | exact .inr ⟨g231, bnf h237⟩)⟩, rfl⟩
     iterate 2 refine oF ?_
     refine Z37 ?_
     refine Z41 ?_
     refine Z33 ?_
     refine Z4 ?_
     refine Z7 (AW.condT rfl ?_)
     refine sR (sB ?_)
     exact aR (f1 (q := nb))
    refine Z5 Fx.fl26_0 ?_
    refine Z3 Fx.ty3 ?_
    refine Z21 ?_
    refine Z46 ?_ ?_ <;> intro g216
    rotate_left
    ·
     iterate 2 refine oF ?_
     refine Z37 ?_
     refine Z41 ?_
     refine Z8 ?_
     refine sM ?_
     iterate 5 refine oF ?_
     iterate 8 refine oU ?_
     refine Z34 ?_
     refine Z8 ?_
     refine Z7 (AW.condT rfl ?_)
     refine sR (sB ?_)
     exact aR (f1 (q := nb))
    refine Z25 (r := .g [_, _, _, _, _, _, _, _]) Fx.ty26 ?_
    refine Z35 Fx.fn34 (null_any _ (rgQ_E _ (hrs _ (List.getElem_mem h01)))) ?_
    refine Z33 ?_
    refine Z41 ?_
    refine Z8 ?_
    refine Z36 ?_ ?_ <;> intro g222
    ·
     iterate 5 refine oF ?_
     iterate 8 refine oU ?_
     refine Z34 ?_
     refine Z8 ?_
     refine Z7 (AW.condT rfl ?_)
     refine sR (sB ?_)
     exact aR (f1 (q := nb))
    refine Z25 (r := .g [_, _, _, _, _, _, _, _]) Fx.ty26 ?_
    refine Z14 ?_
    refine Z35 Fx.fn33 (text_any _ l z hL) ?_
    refine Z41 ?_
    refine SeqK.onB (q_mvC rfl rfl) rfl rfl rfl rfl rfl (fun g227 => ?_) (fun g227 => ?_)
    ·
     refine Z5 Fx.fl26_0 ?_
     refine Z3 Fx.ty3 ?_
     refine Z21 ?_
     refine Z46 ?_ ?_ <;> intro g231
     ·
      refine Z25 (r := .g [_, _, _, _, _, _, _, _]) Fx.ty26 ?_
      refine Z35 Fx.fn34 (null_any _ (rgQ_E _ (hrs _ (List.getElem_mem h12)))) ?_
      refine Z33 ?_
      refine Z41 ?_
      refine Z33 ?_
      refine Z4 ?_
      refine Z7 ?_
      refine AW.cond _ rfl (fun h237 => ?_) (fun h237 => ?_)
      ·
       refine sR (sB ?_)
       exact aR (f1 (q := nb))
      refine AW.skip ?_
      exact ⟨_, by exact Wk.keep 256 _ _ _ rfl ⟨rfl, rfl, rfl, trivial⟩ ⟨rfl, rfl, rfl, trivial⟩ (fun _ _ h => h) rfl, ⟨(by first | exact .inl (txX_b (bnf g212)) | exact .inr ⟨g216, bnf g222⟩), (by first | exact .inl (txX_b (bnf g227)) | exact .inr ⟨g231, bnf h237⟩)⟩, rfl⟩
     iterate 2 refine oF ?_
     refine Z37 ?_
     refine Z41 ?_
     refine Z33 ?_
     refine Z4 ?_
     refine Z7 (AW.condT rfl ?_)
     refine sR (sB ?_)
     exact aR (f1 (q := nb))
    iterate 4 refine oF ?_
    iterate 2 refine oU ?_
    iterate 2 refine oF ?_
    refine Z37 ?_
    refine Z4 ?_
    refine Z7 (AW.condF rfl ?_)
    refine AW.skip ?_
    exact ⟨_, by exact Wk.keep 256 _ _ _ rfl ⟨rfl, rfl, rfl, trivial⟩ ⟨rfl, rfl, rfl, trivial⟩ (fun _ _ h => h) rfl, ⟨(by first | exact .inl (txX_b (bnf g212)) | exact .inr ⟨g216, bnf g222⟩), (by first | exact .inl (txX_b (bnf g227)) | exact .inr ⟨g231, bnf h237⟩)⟩, rfl⟩
   rintro s ⟨⟨hta, htb⟩, rfl⟩
   refine sR (Z1 Fx.fl26_0 ?_)
   refine Z0 Fx.ty3 ?_
   refine Z9 ?_
   refine Z17 ?_ ?_ <;> intro g241
   ·
    iterate 3 refine oF ?_
    refine Z8 ?_
    refine sM ?_
    iterate 3 refine oF ?_
    refine Z8 ?_
    refine sM ?_
    iterate 3 refine oF ?_
    refine Z8 ?_
    refine sB ?_
    exact aR (f1 (q := ⟨_, rfl, (fun h => ⟨Cd.cmp e _ _ hop (args2 hl2) ha hb (.inr ⟨hta, htb, by first | omega | (have := of_decide_eq_true h; omega)⟩), hs⟩), rfl⟩))
   refine Z5 Fx.fl26_0 ?_
   refine Z3 Fx.ty3 ?_
   refine Z21 ?_
   refine Z4 ?_
   refine Z17 ?_ ?_ <;> intro g246
   ·
    iterate 3 refine oF ?_
    refine Z8 ?_
    refine sM ?_
    iterate 3 refine oF ?_
    refine Z8 ?_
    refine sB ?_
    exact aR (f1 (q := ⟨_, rfl, (fun h => ⟨Cd.cmp e _ _ hop (args2 hl2) ha hb (.inr ⟨hta, htb, by first | omega | (have := of_decide_eq_true h; omega)⟩), hs⟩), rfl⟩))
   refine Z5 Fx.fl26_0 ?_
   refine Z3 Fx.ty3 ?_
   refine Z21 ?_
   refine Z4 ?_
   refine Z17 ?_ ?_ <;> intro g251
   ·
    iterate 3 refine oF ?_
    refine Z8 ?_
    refine sB ?_
    exact aR (f1 (q := ⟨_, rfl, (fun h => ⟨Cd.cmp e _ _ hop (args2 hl2) ha hb (.inr ⟨hta, htb, by first | omega | (have := of_decide_eq_true h; omega)⟩), hs⟩), rfl⟩))
   refine Z5 Fx.fl26_0 ?_
   refine Z3 Fx.ty3 ?_
   refine Z21 ?_
   refine Z4 ?_
   refine sB ?_
   exact aR (f1 (q := ⟨_, rfl, (fun h => ⟨Cd.cmp e _ _ hop (args2 hl2) ha hb (.inr ⟨hta, htb, by first | omega | (have := of_decide_eq_true h; omega)⟩), hs⟩), rfl⟩))
  refine sR (Z1 Fx.fl26_5 ?_)
  refine Z0 Fx.ty24 ?_
  refine Z22 Fx.un24 ?_
  refine Z9 ?_
  refine Z17 ?_ ?_ <;> intro g81
  rotate_left
  ·
   iterate 7 refine oF ?_
   refine Z4 ?_
   refine sM ?_
   iterate 7 refine oF ?_
   iterate 5 refine oU ?_
   refine Z34 ?_
   refine Z4 ?_
   refine sM ?_
   iterate 6 refine oF ?_
   refine Z4 ?_
   refine sM ?_
   iterate 6 refine oF ?_
   refine Z4 ?_
   refine sM ?_
   iterate 6 refine oF ?_
   refine Z4 ?_
   refine sM ?_
   iterate 7 refine oF ?_
   refine Z4 ?_
   refine sM ?_
   iterate 6 refine oF ?_
   refine Z4 ?_
   refine sM ?_
   iterate 7 refine oF ?_
   iterate 6 refine oU ?_
   refine Z34 ?_
   refine Z4 ?_
   refine sB ?_
   exact aR (f1 (q := nb))
  have hl2 : e.args.length = 2 := by simp only [List.length_map] at *; omega
  have h01 : 0 < e.args.length := by omega
  have h12 : 1 < e.args.length := by omega
  refine Z5 Fx.fl26_5 ?_
  refine Z3 Fx.ty24 ?_
  refine Z15 Fx.sl24 (idx_ex h12) ?_
  refine Z31 Fx.fl26_5 ?_
  refine Z19 (.a _) Fx.ty24 ?_
  refine Z50 Fx.un24 ?_
  refine Z21 ?_
  refine Z8 ?_
  refine Z17 ?_ ?_ <;> intro g90
  rotate_left
  ·
   iterate 7 refine oF ?_
   iterate 5 refine oU ?_
   refine Z34 ?_
   refine Z4 ?_
   refine sM ?_
   iterate 6 refine oF ?_
   refine Z4 ?_
   refine sM ?_
   iterate 6 refine oF ?_
   refine Z4 ?_
   refine sM ?_
   iterate 6 refine oF ?_
   refine Z4 ?_
   refine sM ?_
   iterate 7 refine oF ?_
   refine Z4 ?_
   refine sM ?_
   iterate 6 refine oF ?_
   refine Z4 ?_
   refine sM ?_
   iterate 7 refine oF ?_
   iterate 6 refine oU ?_
   refine Z34 ?_
   refine Z4 ?_
   refine sB ?_
   exact aR (f1 (q := nb))
  refine Z5 Fx.fl26_5 ?_
  refine Z3 Fx.ty24 ?_
  refine Z15 Fx.sl24 (idx_ex h01) ?_
  refine Z19 (.g [_, _, _, _, _, _, _, _]) Fx.ty26 ?_
  refine Z14 ?_
  refine Z35 Fx.fn33 (text_any _ l z hL) ?_
  refine SeqK.onB (q_mvC rfl rfl) rfl rfl rfl rfl rfl (fun g97 => ?_) (fun g97 => ?_)
  ·
   iterate 5 refine oF ?_
   refine Z33 ?_
   refine Z8 ?_
   refine sM ?_
   refine Z5 Fx.fl26_5 ?_
   refine Z3 Fx.ty24 ?_
   refine Z15 Fx.sl24 (idx_ex h01) ?_
   refine Z19 (.g [_, _, _, _, _, _, _, _]) Fx.ty26 ?_
   refine Z14 ?_
   refine relOn Fx.fn32 (operand_any _ l z hL 11 (hrs _ (List.getElem_mem h01)) (hsa _ (List.getElem_mem h01)) (by decide) _) ?_
   intro b111 q111
   refine Z8 ?_
   refine Z36 ?_ ?_ <;> intro g113
   rotate_left
   ·
    iterate 6 refine oF ?_
    refine Z4 ?_
    refine sM ?_
    iterate 6 refine oF ?_
    refine Z4 ?_
    refine sM ?_
    iterate 7 refine oF ?_
    refine Z4 ?_
    refine sM ?_
    iterate 6 refine oF ?_
    refine Z4 ?_
    refine sM ?_
    iterate 7 refine oF ?_
    iterate 6 refine oU ?_
    refine Z34 ?_
    refine Z4 ?_
    refine sB ?_
    exact aR (f1 (q := nb))
   refine Z5 Fx.fl26_5 ?_
   refine Z3 Fx.ty24 ?_
   refine Z15 Fx.sl24 (idx_ex h01) ?_
   refine Z31 Fx.fl26_0 ?_
   refine Z19 (.a _) Fx.ty3 ?_
   refine Z42 ?_
   refine Z8 ?_
   refine Z17 ?_ ?_ <;> intro g121
   rotate_left
   ·
    iterate 6 refine oF ?_
    refine Z4 ?_
    refine sM ?_
    iterate 7 refine oF ?_
    refine Z4 ?_
    refine sM ?_
    iterate 6 refine oF ?_
    refine Z4 ?_
    refine sM ?_
    iterate 7 refine oF ?_
    iterate 6 refine oU ?_
    refine Z34 ?_
    refine Z4 ?_
    refine sB ?_
    exact aR (f1 (q := nb))
   refine Z5 Fx.fl26_5 ?_
   refine Z3 Fx.ty24 ?_
   refine Z15 Fx.sl24 (idx_ex h12) ?_
   refine Z31 Fx.fl26_0 ?_
   refine Z19 (.a _) Fx.ty3 ?_
   refine Z21 ?_
   refine Z8 ?_
   refine Z17 ?_ ?_ <;> intro g129
   rotate_left
   ·
    iterate 7 refine oF ?_
    refine Z4 ?_
    refine sM ?_
    iterate 6 refine oF ?_
    refine Z4 ?_
    refine sM ?_
    iterate 7 refine oF ?_
    iterate 6 refine oU ?_
    refine Z34 ?_
    refine Z4 ?_
    refine sB ?_
    exact aR (f1 (q := nb))
   refine Z5 Fx.fl26_5 ?_
   refine Z3 Fx.ty24 ?_
   refine Z15 Fx.sl24 (idx_ex h12) ?_
   refine Z31 Fx.fl26_4 ?_
   refine Z31 Fx.fl23_0 ?_
   refine Z19 (.a _) Fx.ty3 ?_
   refine Z21 ?_
   refine Z8 ?_
   refine Z17 ?_ ?_ <;> intro g138
   rotate_left
   ·
    iterate 6 refine oF ?_
    refine Z4 ?_
    refine sM ?_
    iterate 7 refine oF ?_
    iterate 6 refine oU ?_
    refine Z34 ?_
    refine Z4 ?_
    refine sB ?_
    exact aR (f1 (q := nb))
   refine Z5 Fx.fl26_5 ?_
   refine Z3 Fx.ty24 ?_
   refine Z15 Fx.sl24 (idx_ex h12) ?_
   refine Z31 Fx.fl26_4 ?_
   refine Z19 (.g [_, _, _]) Fx.ty23 ?_
   refine SeqK.on (q_call _ rfl Fx.fn35 rfl (D.vvalid_any ⟨e.args[1].vk, e.args[1].vn, e.args[1].vs⟩ (by show e.args[1].vs.size ≤ _; have := ((rgQ_eq _).1 (hrs _ (List.getElem_mem h12))).1.2.2.1; omega)) rfl) rfl rfl rfl rfl rfl ?_
   refine Z8 ?_
   refine Z36 ?_ ?_ <;> intro g146
   ·
    refine Z5 Fx.fl26_5 ?_
    refine Z3 Fx.ty24 ?_
    refine Z15 Fx.sl24 (idx_ex h01) ?_
    refine Z31 Fx.fl26_0 ?_
    refine Z19 (.a _) Fx.ty3 ?_
    refine Z21 ?_
    refine Z46 ?_ ?_ <;> intro g153
    ·
     iterate 6 refine oF ?_
     refine Z33 ?_
     refine Z8 ?_
     refine sB ?_
     exact aR (f1 (q := ⟨_, rfl, by first | exact (fun h => ⟨Cd.like e e.args[0] e.args[1] (by assumption) (args2 hl2) (q111 (by assumption)) (by first | exact .inr (by assumption) | exact .inl (of_decide_eq_true h)) (by first | exact .inl (txX_b g97) | exact .inr (by assumption)) ⟨by assumption, by assumption, List.length_eq_zero_iff.1 (by first | omega | (simp only [List.length_map] at *; omega)), (vv_of (by first | exact of_decide_eq_true g146 | exact g146 | assumption) (by assumption)).2⟩, hs⟩) | exact (fun h => by first | (cases h; done) | (exfalso; simp_all; done)), rfl⟩))
    refine Z5 Fx.fl26_5 ?_
    refine Z3 Fx.ty24 ?_
    refine Z15 Fx.sl24 (idx_ex h01) ?_
    refine Z31 Fx.fl26_0 ?_
    refine Z19 (.a _) Fx.ty3 ?_
    refine Z21 ?_
    refine Z37 ?_
    refine Z8 ?_
    refine sB ?_
    exact aR (f1 (q := ⟨_, rfl, by first | exact (fun h => ⟨Cd.like e e.args[0] e.args[1] (by assumption) (args2 hl2) (q111 (by assumption)) (by first | exact .inr (by assumption) | exact .inl (of_decide_eq_true h)) (by first | exact .inl (txX_b g97) | exact .inr (by assumption)) ⟨by assumption, by assumption, List.length_eq_zero_iff.1 (by first | omega | (simp only [List.length_map] at *; omega)), (vv_of (by first | exact of_decide_eq_true g146 | exact g146 | assumption) (by assumption)).2⟩, hs⟩) | exact (fun h => by first | (cases h; done) | (exfalso; simp_all; done)), rfl⟩))
   iterate 7 refine oF ?_
   iterate 6 refine oU ?_
   refine Z34 ?_
   refine Z4 ?_
   refine sB ?_
   exact aR (f1 (q := nb))
  refine Z5 Fx.fl26_5 ?_
  refine Z3 Fx.ty24 ?_
  refine Z15 Fx.sl24 (idx_ex h01) ?_
  refine Z19 (.g [_, _, _, _, _, _, _, _]) Fx.ty26 ?_
  refine Z35 Fx.fn34 (null_any _ (rgQ_E _ (hrs _ (List.getElem_mem h01)))) ?_
  refine Z37 ?_
  refine Z8 ?_
  refine Z36 ?_ ?_ <;> intro g105
  rotate_left
  ·
   iterate 6 refine oF ?_
   refine Z4 ?_
   refine sM ?_
   iterate 6 refine oF ?_
   refine Z4 ?_
   refine sM ?_
   iterate 6 refine oF ?_
   refine Z4 ?_
   refine sM ?_
   iterate 7 refine oF ?_
   refine Z4 ?_
   refine sM ?_
   iterate 6 refine oF ?_
   refine Z4 ?_
   refine sM ?_
   iterate 7 refine oF ?_
   iterate 6 refine oU ?_
   refine Z34 ?_
   refine Z4 ?_
   refine sB ?_
   exact aR (f1 (q := nb))
  refine Z5 Fx.fl26_5 ?_
  refine Z3 Fx.ty24 ?_
  refine Z15 Fx.sl24 (idx_ex h01) ?_
  refine Z19 (.g [_, _, _, _, _, _, _, _]) Fx.ty26 ?_
  refine Z14 ?_
  refine relOn Fx.fn32 (operand_any _ l z hL 11 (hrs _ (List.getElem_mem h01)) (hsa _ (List.getElem_mem h01)) (by decide) _) ?_
  intro b111 q111
  refine Z8 ?_
  refine Z36 ?_ ?_ <;> intro g113
  rotate_left
  ·
   iterate 6 refine oF ?_
   refine Z4 ?_
   refine sM ?_
   iterate 6 refine oF ?_
   refine Z4 ?_
   refine sM ?_
   iterate 7 refine oF ?_
   refine Z4 ?_
   refine sM ?_
   iterate 6 refine oF ?_
   refine Z4 ?_
   refine sM ?_
   iterate 7 refine oF ?_
   iterate 6 refine oU ?_
   refine Z34 ?_
   refine Z4 ?_
   refine sB ?_
   exact aR (f1 (q := nb))
  refine Z5 Fx.fl26_5 ?_
  refine Z3 Fx.ty24 ?_
  refine Z15 Fx.sl24 (idx_ex h01) ?_
  refine Z31 Fx.fl26_0 ?_
  refine Z19 (.a _) Fx.ty3 ?_
  refine Z42 ?_
  refine Z8 ?_
  refine Z17 ?_ ?_ <;> intro g121
  rotate_left
  ·
   iterate 6 refine oF ?_
   refine Z4 ?_
   refine sM ?_
   iterate 7 refine oF ?_
   refine Z4 ?_
   refine sM ?_
   iterate 6 refine oF ?_
   refine Z4 ?_
   refine sM ?_
   iterate 7 refine oF ?_
   iterate 6 refine oU ?_
   refine Z34 ?_
   refine Z4 ?_
   refine sB ?_
   exact aR (f1 (q := nb))
  refine Z5 Fx.fl26_5 ?_
  refine Z3 Fx.ty24 ?_
  refine Z15 Fx.sl24 (idx_ex h12) ?_
  refine Z31 Fx.fl26_0 ?_
  refine Z19 (.a _) Fx.ty3 ?_
  refine Z21 ?_
  refine Z8 ?_
  refine Z17 ?_ ?_ <;> intro g129
  rotate_left
  ·
   iterate 7 refine oF ?_
   refine Z4 ?_
   refine sM ?_
   iterate 6 refine oF ?_
   refine Z4 ?_
   refine sM ?_
   iterate 7 refine oF ?_
   iterate 6 refine oU ?_
   refine Z34 ?_
   refine Z4 ?_
   refine sB ?_
   exact aR (f1 (q := nb))
  refine Z5 Fx.fl26_5 ?_
  refine Z3 Fx.ty24 ?_
  refine Z15 Fx.sl24 (idx_ex h12) ?_
  refine Z31 Fx.fl26_4 ?_
  refine Z31 Fx.fl23_0 ?_
  refine Z19 (.a _) Fx.ty3 ?_
  refine Z21 ?_
  refine Z8 ?_
  refine Z17 ?_ ?_ <;> intro g138
  rotate_left
  ·
   iterate 6 refine oF ?_
   refine Z4 ?_
   refine sM ?_
   iterate 7 refine oF ?_
   iterate 6 refine oU ?_
   refine Z34 ?_
   refine Z4 ?_
   refine sB ?_
   exact aR (f1 (q := nb))
  refine Z5 Fx.fl26_5 ?_
  refine Z3 Fx.ty24 ?_
  refine Z15 Fx.sl24 (idx_ex h12) ?_
  refine Z31 Fx.fl26_4 ?_
  refine Z19 (.g [_, _, _]) Fx.ty23 ?_
  refine SeqK.on (q_call _ rfl Fx.fn35 rfl (D.vvalid_any ⟨e.args[1].vk, e.args[1].vn, e.args[1].vs⟩ (by show e.args[1].vs.size ≤ _; have := ((rgQ_eq _).1 (hrs _ (List.getElem_mem h12))).1.2.2.1; omega)) rfl) rfl rfl rfl rfl rfl ?_
  refine Z8 ?_
  refine Z36 ?_ ?_ <;> intro g146
  ·
   refine Z5 Fx.fl26_5 ?_
   refine Z3 Fx.ty24 ?_
   refine Z15 Fx.sl24 (idx_ex h01) ?_
   refine Z31 Fx.fl26_0 ?_
   refine Z19 (.a _) Fx.ty3 ?_
   refine Z21 ?_
   refine Z46 ?_ ?_ <;> intro g153
   ·
    iterate 6 refine oF ?_
    refine Z33 ?_
    refine Z8 ?_
    refine sB ?_
    exact aR (f1 (q := ⟨_, rfl, by first | exact (fun h => ⟨Cd.like e e.args[0] e.args[1] (by assumption) (args2 hl2) (q111 (by assumption)) (by first | exact .inr (by assumption) | exact .inl (of_decide_eq_true h)) (by first | exact .inl (txX_b g97) | exact .inr (by assumption)) ⟨by assumption, by assumption, List.length_eq_zero_iff.1 (by first | omega | (simp only [List.length_map] at *; omega)), (vv_of (by first | exact of_decide_eq_true g146 | exact g146 | assumption) (by assumption)).2⟩, hs⟩) | exact (fun h => by first | (cases h; done) | (exfalso; simp_all; done)), rfl⟩))
   refine Z5 Fx.fl26_5 ?_
   refine Z3 Fx.ty24 ?_
   refine Z15 Fx.sl24 (idx_ex h01) ?_
   refine Z31 Fx.fl26_0 ?_
   refine Z19 (.a _) Fx.ty3 ?_
   refine Z21 ?_
   refine Z37 ?_
   refine Z8 ?_
   refine sB ?_
   exact aR (f1 (q := ⟨_, rfl, by first | exact (fun h => ⟨Cd.like e e.args[0] e.args[1] (by assumption) (args2 hl2) (q111 (by assumption)) (by first | exact .inr (by assumption) | exact .inl (of_decide_eq_true h)) (by first | exact .inl (txX_b g97) | exact .inr (by assumption)) ⟨by assumption, by assumption, List.length_eq_zero_iff.1 (by first | omega | (simp only [List.length_map] at *; omega)), (vv_of (by first | exact of_decide_eq_true g146 | exact g146 | assumption) (by assumption)).2⟩, hs⟩) | exact (fun h => by first | (cases h; done) | (exfalso; simp_all; done)), rfl⟩))
  iterate 7 refine oF ?_
  iterate 6 refine oU ?_
  refine Z34 ?_
  refine Z4 ?_
  refine sB ?_
  exact aR (f1 (q := nb))
 refine AW.reg (Z9 ?_)
 refine sB ?_
 refine cD ?_ ?_ <;> intro h18
 ·
  refine sR (Z1 Fx.fl26_5 ?_)
  refine Z0 Fx.ty24 ?_
  refine Z22 Fx.un24 ?_
  refine Z9 ?_
  refine Z17 ?_ ?_ <;> intro g25
  rotate_left
  ·
   iterate 8 refine oF ?_
   refine Z4 ?_
   refine sM ?_
   iterate 8 refine oF ?_
   refine Z4 ?_
   refine sB ?_
   exact aR (f1 (q := nb))
  have hl2 : e.args.length = 2 := by simp only [List.length_map] at *; omega
  have h01 : 0 < e.args.length := by omega
  have h12 : 1 < e.args.length := by omega
  refine Z5 Fx.fl26_5 ?_
  refine Z3 Fx.ty24 ?_
  refine Z15 Fx.sl24 (idx_ex h01) ?_
  refine Z19 (.g [_, _, _, _, _, _, _, _]) Fx.ty26 ?_
  refine Z14 ?_
  refine Z14 ?_
  refine SeqK.on (q_sub _ rfl rfl rfl ((by rw [w64 (by omega) (by omega)]; omega : IntKind.i64.wrap _ = ((d - 1 : Nat) : Int)))) rfl rfl rfl rfl rfl ?_
  refine relOn Fx.fn18 (ih (by omega) _ (List.getElem_mem h01) _) ?_
  intro b33 q33
  refine Z8 ?_
  refine Z36 ?_ ?_ <;> intro g35
  ·
   refine Z5 Fx.fl26_5 ?_
   refine Z3 Fx.ty24 ?_
   refine Z15 Fx.sl24 (idx_ex h12) ?_
   refine Z19 (.g [_, _, _, _, _, _, _, _]) Fx.ty26 ?_
   refine Z14 ?_
   refine Z14 ?_
   refine SeqK.on (q_sub _ rfl rfl rfl ((by rw [w64 (by omega) (by omega)]; omega : IntKind.i64.wrap _ = ((d - 1 : Nat) : Int)))) rfl rfl rfl rfl rfl ?_
   refine relOn Fx.fn18 (ih (by omega) _ (List.getElem_mem h12) _) ?_
   intro b43 q43
   refine Z8 ?_
   refine sB ?_
   exact aR (f1 (q := ⟨_, rfl, by first | exact (fun h => ⟨.and e _ _ (by omega) (args2 hl2) (q33 (by assumption)).1 (q43 h).1, hs⟩) | exact (fun h => by first | (cases h; done) | (exfalso; simp_all; done)), rfl⟩))
  iterate 8 refine oF ?_
  refine Z4 ?_
  refine sB ?_
  exact aR (f1 (q := nb))
 refine sR (Z9 ?_)
 refine sB ?_
 refine cD ?_ ?_ <;> intro h45
 ·
  refine sR (Z1 Fx.fl26_5 ?_)
  refine Z0 Fx.ty24 ?_
  refine Z22 Fx.un24 ?_
  refine Z9 ?_
  refine Z17 ?_ ?_ <;> intro g51
  ·
   have hl1 : e.args.length = 1 := by simp only [List.length_map] at *; omega
   have h01 : 0 < e.args.length := by omega
   refine Z5 Fx.fl26_5 ?_
   refine Z3 Fx.ty24 ?_
   refine Z15 Fx.sl24 (idx_ex h01) ?_
   refine Z19 (.g [_, _, _, _, _, _, _, _]) Fx.ty26 ?_
   refine Z14 ?_
   refine Z14 ?_
   refine SeqK.on (q_sub _ rfl rfl rfl ((by rw [w64 (by omega) (by omega)]; omega : IntKind.i64.wrap _ = ((d - 1 : Nat) : Int)))) rfl rfl rfl rfl rfl ?_
   refine relOn Fx.fn18 (ih (by omega) _ (List.getElem_mem h01) _) ?_
   intro b59 q59
   refine Z8 ?_
   refine sB ?_
   exact aR (f1 (q := ⟨_, rfl, by first | exact (fun h => ⟨.not e _ (by assumption) (args1 hl1) (q59 h).1, hs⟩) | exact (fun h => by first | (cases h; done) | (exfalso; simp_all; done)), rfl⟩))
  iterate 8 refine oF ?_
  refine Z4 ?_
  refine sB ?_
  exact aR (f1 (q := nb))
 refine sR (Z9 ?_)
 refine sB ?_
 refine cD ?_ ?_ <;> intro h61
 ·
  refine sR (Z1 Fx.fl26_5 ?_)
  refine Z0 Fx.ty24 ?_
  refine Z22 Fx.un24 ?_
  refine Z9 ?_
  refine Z17 ?_ ?_ <;> intro g67
  ·
   have hl1 : e.args.length = 1 := by simp only [List.length_map] at *; omega
   have h01 : 0 < e.args.length := by omega
   refine Z5 Fx.fl26_5 ?_
   refine Z3 Fx.ty24 ?_
   refine Z15 Fx.sl24 (idx_ex h01) ?_
   refine Z19 (.g [_, _, _, _, _, _, _, _]) Fx.ty26 ?_
   refine Z14 ?_
   refine relOn Fx.fn32 (operand_any _ l z hL 11 (hrs _ (List.getElem_mem h01)) (hsa _ (List.getElem_mem h01)) (by decide) _) ?_
   intro b73 q73
   refine Z8 ?_
   refine sB ?_
   exact aR (f1 (q := ⟨_, rfl, by first | exact (fun h => ⟨.isn e _ (by assumption) (args1 hl1) (q73 h), hs⟩) | exact (fun h => by first | (cases h; done) | (exfalso; simp_all; done)), rfl⟩))
  iterate 6 refine oF ?_
  refine Z4 ?_
  refine sB ?_
  exact aR (f1 (q := nb))
 refine sR (Z9 ?_)
 refine sB ?_
 refine cD ?_ ?_ <;> intro h75
 rotate_left
 ·
  refine AW.skip (AW.seq (sR (Z1 Fx.fl26_0 ?_)))
  refine Z0 Fx.ty3 ?_
  refine Z12 Fx.fn36 (place_any _) ?_
  refine Z30 ?_
  refine Z17 ?_ ?_ <;> intro g166
  ·
   iterate 4 refine oF ?_
   refine Z8 ?_
   refine sM ?_
   iterate 7 refine oF ?_
   refine Z8 ?_
   refine sM ?_
   iterate 7 refine oF ?_
   refine Z8 ?_
   refine Z7 (AW.condT rfl ?_)
   refine sR (sB ?_)
   exact aR (f1 (q := nb))
  have hop : 10 ≤ e.op ∧ e.op ≤ 15 := by by_cases hq : 10 ≤ e.op ∧ e.op ≤ 15; exact hq; (rw [if_neg hq] at g166; omega)
  refine Z5 Fx.fl26_5 ?_
  refine Z3 Fx.ty24 ?_
  refine Z50 Fx.un24 ?_
  refine Z42 ?_
  refine Z4 ?_
  refine Z17 ?_ ?_ <;> intro g172
  ·
   iterate 7 refine oF ?_
   refine Z8 ?_
   refine sM ?_
   iterate 7 refine oF ?_
   refine Z8 ?_
   refine Z7 (AW.condT rfl ?_)
   refine sR (sB ?_)
   exact aR (f1 (q := nb))
  have hl2 : e.args.length = 2 := by simp only [List.length_map] at *; omega
  have h01 : 0 < e.args.length := by omega
  have h12 : 1 < e.args.length := by omega
  refine Z5 Fx.fl26_5 ?_
  refine Z3 Fx.ty24 ?_
  refine Z15 Fx.sl24 (idx_ex h01) ?_
  refine Z19 (.g [_, _, _, _, _, _, _, _]) Fx.ty26 ?_
  refine Z14 ?_
  refine relOn Fx.fn32 (operand_any _ l z hL 11 (hrs _ (List.getElem_mem h01)) (hsa _ (List.getElem_mem h01)) (by decide) _) ?_
  intro b178 q178
  refine Z41 ?_
  refine Z4 ?_
  refine Z36 ?_ ?_ <;> intro g181
  ·
   iterate 7 refine oF ?_
   refine Z8 ?_
   refine Z7 (AW.condT rfl ?_)
   refine sR (sB ?_)
   exact aR (f1 (q := nb))
  refine Z5 Fx.fl26_5 ?_
  refine Z3 Fx.ty24 ?_
  refine Z15 Fx.sl24 (idx_ex h12) ?_
  refine Z19 (.g [_, _, _, _, _, _, _, _]) Fx.ty26 ?_
  refine Z14 ?_
  refine relOn Fx.fn32 (operand_any _ l z hL 11 (hrs _ (List.getElem_mem h12)) (hsa _ (List.getElem_mem h12)) (by decide) _) ?_
  intro b187 q187
  refine Z41 ?_
  refine Z4 ?_
  refine Z7 ?_
  refine AW.cond _ rfl (fun h189 => ?_) (fun h189 => ?_)
  ·
   refine sR (sB ?_)
   exact aR (f1 (q := nb))
  refine AW.skip (AW.seq ?_)
  have ha : OpdP l e.args[0] := q178 (bnf g181)
  have hb : OpdP l e.args[1] := q187 (bnf h189)
  refine AW.draw Fx.mo ?_
  refine Z23 Fx.fl26_5 ?_
  refine Z18 Fx.ty24 ?_
  refine Z29 Fx.sl24 (idx_ex h01) ?_
  refine Z32 (.g [_, _, _, _, _, _, _, _]) Fx.ty26 ?_
  refine Z23 Fx.fl26_5 ?_
  refine Z18 Fx.ty24 ?_
  refine Z29 Fx.sl24 (idx_ex h12) ?_
  refine Z32 (.g [_, _, _, _, _, _, _, _]) Fx.ty26 ?_
  refine LexK.r (b_alloc (r := [_, _, _, _, _, _, _, _]) rfl rfl Fx.ze26 rfl rfl rfl rfl) rfl ?_
  refine LexK.r (b_alloc (r := [_, _, _, _, _, _, _, _]) rfl rfl Fx.ze26 rfl rfl rfl rfl) rfl ?_
  refine Z40 (r := [_, _, _, _, _, _, _, _]) Fx.ty26 ?_
  refine Z40 (r := [_, _, _, _, _, _, _, _]) Fx.ty26 ?_
  refine Z48 ?_
  refine AW.seqM (fun s => s = ⟨256, sp [(1, .c (vsC z l)), (3, .lp 3 0), (7, .lp 7 0), (8, .lp 8 0)], lv [(3, .box (zEx e)), (7, .box (zEx e.args[0])), (8, .box (zEx e.args[1]))], H⟩) ?_ ?_
  ·
   refine sR (Z10 (r := .g [_, _, _, _, _, _, _, _]) Fx.ty26 ?_)
   refine sM ?_
   refine Z12 Fx.fn33 (text_any _ l z hL) ?_
   refine Z49 ?_
   refine Z36 ?_ ?_ <;> intro g202
   ·
    refine Z25 (r := .g [_, _, _, _, _, _, _, _]) Fx.ty26 ?_
    refine Z14 ?_
    refine Z35 Fx.fn33 (text_any _ l z hL) ?_
    refine Z41 ?_
    refine Z8 ?_
    refine Z7 ?_
    refine AW.cond _ rfl (fun h207 => ?_) (fun h207 => ?_)
    ·
     refine sR (sB ?_)
     exact aR (f1 (q := ⟨_, rfl, (fun _ => ⟨.cmp e _ _ hop (args2 hl2) ha hb (.inl ⟨opd_noT ha (bnt g202), opd_noT hb (bnt h207)⟩), hs⟩), rfl⟩))
    refine AW.skip ?_
    exact ⟨_, by exact Wk.keep 256 _ _ _ rfl ⟨rfl, rfl, rfl, rfl, trivial⟩ ⟨rfl, rfl, rfl, trivial⟩ (fun _ _ h => h) rfl, rfl⟩
   iterate 4 refine oF ?_
   refine Z4 ?_
   refine Z7 (AW.condF rfl ?_)
   refine AW.skip ?_
   exact ⟨_, by exact Wk.keep 256 _ _ _ rfl ⟨rfl, rfl, rfl, rfl, trivial⟩ ⟨rfl, rfl, rfl, trivial⟩ (fun _ _ h => h) rfl, rfl⟩
  rintro s rfl
  refine AW.seqM (fun s => (tnB l e.args[0] ∧ tnB l e.args[1]) ∧ s = ⟨256, sp [(3, .lp 3 0), (7, .lp 7 0), (8, .lp 8 0)], lv [(3, .box (zEx e)), (7, .box (zEx e.args[0])), (8, .box (zEx e.args[1]))], H⟩) ?_ ?_
  ·
   refine sR (Z10 (r := .g [_, _, _, _, _, _, _, _]) Fx.ty26 ?_)
   refine sM ?_
   refine Z12 Fx.fn33 (text_any _ l z hL) ?_
   refine Z49 ?_
   refine Z36 ?_ ?_ <;> intro g212
   rotate_left
   ·
    iterate 4 refine oF ?_
    iterate 2 refine oU ?_
    iterate 2 refine oF ?_
    refine Z4 ?_
    refine sM ?_
    refine Z25 (r := .g [_, _, _, _, _, _, _, _]) Fx.ty26 ?_
    refine Z14 ?_
    refine Z35 Fx.fn33 (text_any _ l z hL) ?_
    refine Z41 ?_
    refine SeqK.onB (q_mvC rfl rfl) rfl rfl rfl rfl rfl (fun g227 => ?_) (fun g227 => ?_)
    rotate_left
    ·
     iterate 4 refine oF ?_
     iterate 2 refine oU ?_
     iterate 2 refine oF ?_
     refine Z37 ?_
     refine Z4 ?_
     refine Z7 (AW.condF rfl ?_)
     refine AW.skip ?_
     exact ⟨_, by exact Wk.keep 256 _ _ _ rfl ⟨rfl, rfl, rfl, trivial⟩ ⟨rfl, rfl, rfl, trivial⟩ (fun _ _ h => h) rfl, ⟨(by first | exact .inl (txX_b (bnf g212)) | exact .inr ⟨g216, bnf g222⟩), (by first | exact .inl (txX_b (bnf g227)) | exact .inr ⟨g231, bnf h237⟩)⟩, rfl⟩
    refine Z5 Fx.fl26_0 ?_
    refine Z3 Fx.ty3 ?_
    refine Z21 ?_
    refine Z46 ?_ ?_ <;> intro g231
    ·
     refine Z25 (r := .g [_, _, _, _, _, _, _, _]) Fx.ty26 ?_
     refine Z35 Fx.fn34 (null_any _ (rgQ_E _ (hrs _ (List.getElem_mem h12)))) ?_
     refine Z33 ?_
     refine Z41 ?_
     refine Z33 ?_
     refine Z4 ?_
     refine Z7 ?_
     refine AW.cond _ rfl (fun h237 => ?_) (fun h237 => ?_)
     ·
      refine sR (sB ?_)
      exact aR (f1 (q := nb))
     refine AW.skip ?_
     exact ⟨_, by exact Wk.keep 256 _ _ _ rfl ⟨rfl, rfl, rfl, trivial⟩ ⟨rfl, rfl, rfl, trivial⟩ (fun _ _ h => h) rfl, ⟨(by first | exact .inl (txX_b (bnf g212)) | exact .inr ⟨g216, bnf g222⟩), (by first | exact .inl (txX_b (bnf g227)) | exact .inr ⟨g231, bnf h237⟩)⟩, rfl⟩
    iterate 2 refine oF ?_
    refine Z37 ?_
    refine Z41 ?_
    refine Z33 ?_
    refine Z4 ?_
    refine Z7 (AW.condT rfl ?_)
    refine sR (sB ?_)
    exact aR (f1 (q := nb))
   refine Z5 Fx.fl26_0 ?_
   refine Z3 Fx.ty3 ?_
   refine Z21 ?_
   refine Z46 ?_ ?_ <;> intro g216
   rotate_left
   ·
    iterate 2 refine oF ?_
    refine Z37 ?_
    refine Z41 ?_
    refine Z8 ?_
    refine sM ?_
    iterate 5 refine oF ?_
    iterate 8 refine oU ?_
    refine Z34 ?_
    refine Z8 ?_
    refine Z7 (AW.condT rfl ?_)
    refine sR (sB ?_)
    exact aR (f1 (q := nb))
   refine Z25 (r := .g [_, _, _, _, _, _, _, _]) Fx.ty26 ?_
   refine Z35 Fx.fn34 (null_any _ (rgQ_E _ (hrs _ (List.getElem_mem h01)))) ?_
   refine Z33 ?_
   refine Z41 ?_
   refine Z8 ?_
   refine Z36 ?_ ?_ <;> intro g222
   ·
    iterate 5 refine oF ?_
    iterate 8 refine oU ?_
    refine Z34 ?_
    refine Z8 ?_
    refine Z7 (AW.condT rfl ?_)
    refine sR (sB ?_)
    exact aR (f1 (q := nb))
   refine Z25 (r := .g [_, _, _, _, _, _, _, _]) Fx.ty26 ?_
   refine Z14 ?_
   refine Z35 Fx.fn33 (text_any _ l z hL) ?_
   refine Z41 ?_
   refine SeqK.onB (q_mvC rfl rfl) rfl rfl rfl rfl rfl (fun g227 => ?_) (fun g227 => ?_)
   ·
    refine Z5 Fx.fl26_0 ?_
    refine Z3 Fx.ty3 ?_
    refine Z21 ?_
    refine Z46 ?_ ?_ <;> intro g231
    ·
     refine Z25 (r := .g [_, _, _, _, _, _, _, _]) Fx.ty26 ?_
     refine Z35 Fx.fn34 (null_any _ (rgQ_E _ (hrs _ (List.getElem_mem h12)))) ?_
     refine Z33 ?_
     refine Z41 ?_
     refine Z33 ?_
     refine Z4 ?_
     refine Z7 ?_
     refine AW.cond _ rfl (fun h237 => ?_) (fun h237 => ?_)
     ·
      refine sR (sB ?_)
      exact aR (f1 (q := nb))
     refine AW.skip ?_
     exact ⟨_, by exact Wk.keep 256 _ _ _ rfl ⟨rfl, rfl, rfl, trivial⟩ ⟨rfl, rfl, rfl, trivial⟩ (fun _ _ h => h) rfl, ⟨(by first | exact .inl (txX_b (bnf g212)) | exact .inr ⟨g216, bnf g222⟩), (by first | exact .inl (txX_b (bnf g227)) | exact .inr ⟨g231, bnf h237⟩)⟩, rfl⟩
    iterate 2 refine oF ?_
    refine Z37 ?_
    refine Z41 ?_
    refine Z33 ?_
    refine Z4 ?_
    refine Z7 (AW.condT rfl ?_)
    refine sR (sB ?_)
    exact aR (f1 (q := nb))
   iterate 4 refine oF ?_
   iterate 2 refine oU ?_
   iterate 2 refine oF ?_
   refine Z37 ?_
   refine Z4 ?_
   refine Z7 (AW.condF rfl ?_)
   refine AW.skip ?_
   exact ⟨_, by exact Wk.keep 256 _ _ _ rfl ⟨rfl, rfl, rfl, trivial⟩ ⟨rfl, rfl, rfl, trivial⟩ (fun _ _ h => h) rfl, ⟨(by first | exact .inl (txX_b (bnf g212)) | exact .inr ⟨g216, bnf g222⟩), (by first | exact .inl (txX_b (bnf g227)) | exact .inr ⟨g231, bnf h237⟩)⟩, rfl⟩
  rintro s ⟨⟨hta, htb⟩, rfl⟩
  refine sR (Z1 Fx.fl26_0 ?_)
  refine Z0 Fx.ty3 ?_
  refine Z9 ?_
  refine Z17 ?_ ?_ <;> intro g241
  ·
   iterate 3 refine oF ?_
   refine Z8 ?_
   refine sM ?_
   iterate 3 refine oF ?_
   refine Z8 ?_
   refine sM ?_
   iterate 3 refine oF ?_
   refine Z8 ?_
   refine sB ?_
   exact aR (f1 (q := ⟨_, rfl, (fun h => ⟨Cd.cmp e _ _ hop (args2 hl2) ha hb (.inr ⟨hta, htb, by first | omega | (have := of_decide_eq_true h; omega)⟩), hs⟩), rfl⟩))
  refine Z5 Fx.fl26_0 ?_
  refine Z3 Fx.ty3 ?_
  refine Z21 ?_
  refine Z4 ?_
  refine Z17 ?_ ?_ <;> intro g246
  ·
   iterate 3 refine oF ?_
   refine Z8 ?_
   refine sM ?_
   iterate 3 refine oF ?_
   refine Z8 ?_
   refine sB ?_
   exact aR (f1 (q := ⟨_, rfl, (fun h => ⟨Cd.cmp e _ _ hop (args2 hl2) ha hb (.inr ⟨hta, htb, by first | omega | (have := of_decide_eq_true h; omega)⟩), hs⟩), rfl⟩))
  refine Z5 Fx.fl26_0 ?_
  refine Z3 Fx.ty3 ?_
  refine Z21 ?_
  refine Z4 ?_
  refine Z17 ?_ ?_ <;> intro g251
  ·
   iterate 3 refine oF ?_
   refine Z8 ?_
   refine sB ?_
   exact aR (f1 (q := ⟨_, rfl, (fun h => ⟨Cd.cmp e _ _ hop (args2 hl2) ha hb (.inr ⟨hta, htb, by first | omega | (have := of_decide_eq_true h; omega)⟩), hs⟩), rfl⟩))
  refine Z5 Fx.fl26_0 ?_
  refine Z3 Fx.ty3 ?_
  refine Z21 ?_
  refine Z4 ?_
  refine sB ?_
  exact aR (f1 (q := ⟨_, rfl, (fun h => ⟨Cd.cmp e _ _ hop (args2 hl2) ha hb (.inr ⟨hta, htb, by first | omega | (have := of_decide_eq_true h; omega)⟩), hs⟩), rfl⟩))
 refine sR (Z1 Fx.fl26_5 ?_)
 refine Z0 Fx.ty24 ?_
 refine Z22 Fx.un24 ?_
 refine Z9 ?_
 refine Z17 ?_ ?_ <;> intro g81
 rotate_left
 ·
  iterate 7 refine oF ?_
  refine Z4 ?_
  refine sM ?_
  iterate 7 refine oF ?_
  iterate 5 refine oU ?_
  refine Z34 ?_
  refine Z4 ?_
  refine sM ?_
  iterate 6 refine oF ?_
  refine Z4 ?_
  refine sM ?_
  iterate 6 refine oF ?_
  refine Z4 ?_
  refine sM ?_
  iterate 6 refine oF ?_
  refine Z4 ?_
  refine sM ?_
  iterate 7 refine oF ?_
  refine Z4 ?_
  refine sM ?_
  iterate 6 refine oF ?_
  refine Z4 ?_
  refine sM ?_
  iterate 7 refine oF ?_
  iterate 6 refine oU ?_
  refine Z34 ?_
  refine Z4 ?_
  refine sB ?_
  exact aR (f1 (q := nb))
 have hl2 : e.args.length = 2 := by simp only [List.length_map] at *; omega
 have h01 : 0 < e.args.length := by omega
 have h12 : 1 < e.args.length := by omega
 refine Z5 Fx.fl26_5 ?_
 refine Z3 Fx.ty24 ?_
 refine Z15 Fx.sl24 (idx_ex h12) ?_
 refine Z31 Fx.fl26_5 ?_
 refine Z19 (.a _) Fx.ty24 ?_
 refine Z50 Fx.un24 ?_
 refine Z21 ?_
 refine Z8 ?_
 refine Z17 ?_ ?_ <;> intro g90
 rotate_left
 ·
  iterate 7 refine oF ?_
  iterate 5 refine oU ?_
  refine Z34 ?_
  refine Z4 ?_
  refine sM ?_
  iterate 6 refine oF ?_
  refine Z4 ?_
  refine sM ?_
  iterate 6 refine oF ?_
  refine Z4 ?_
  refine sM ?_
  iterate 6 refine oF ?_
  refine Z4 ?_
  refine sM ?_
  iterate 7 refine oF ?_
  refine Z4 ?_
  refine sM ?_
  iterate 6 refine oF ?_
  refine Z4 ?_
  refine sM ?_
  iterate 7 refine oF ?_
  iterate 6 refine oU ?_
  refine Z34 ?_
  refine Z4 ?_
  refine sB ?_
  exact aR (f1 (q := nb))
 refine Z5 Fx.fl26_5 ?_
 refine Z3 Fx.ty24 ?_
 refine Z15 Fx.sl24 (idx_ex h01) ?_
 refine Z19 (.g [_, _, _, _, _, _, _, _]) Fx.ty26 ?_
 refine Z14 ?_
 refine Z35 Fx.fn33 (text_any _ l z hL) ?_
 refine SeqK.onB (q_mvC rfl rfl) rfl rfl rfl rfl rfl (fun g97 => ?_) (fun g97 => ?_)
 ·
  iterate 5 refine oF ?_
  refine Z33 ?_
  refine Z8 ?_
  refine sM ?_
  refine Z5 Fx.fl26_5 ?_
  refine Z3 Fx.ty24 ?_
  refine Z15 Fx.sl24 (idx_ex h01) ?_
  refine Z19 (.g [_, _, _, _, _, _, _, _]) Fx.ty26 ?_
  refine Z14 ?_
  refine relOn Fx.fn32 (operand_any _ l z hL 11 (hrs _ (List.getElem_mem h01)) (hsa _ (List.getElem_mem h01)) (by decide) _) ?_
  intro b111 q111
  refine Z8 ?_
  refine Z36 ?_ ?_ <;> intro g113
  rotate_left
  ·
   iterate 6 refine oF ?_
   refine Z4 ?_
   refine sM ?_
   iterate 6 refine oF ?_
   refine Z4 ?_
   refine sM ?_
   iterate 7 refine oF ?_
   refine Z4 ?_
   refine sM ?_
   iterate 6 refine oF ?_
   refine Z4 ?_
   refine sM ?_
   iterate 7 refine oF ?_
   iterate 6 refine oU ?_
   refine Z34 ?_
   refine Z4 ?_
   refine sB ?_
   exact aR (f1 (q := nb))
  refine Z5 Fx.fl26_5 ?_
  refine Z3 Fx.ty24 ?_
  refine Z15 Fx.sl24 (idx_ex h01) ?_
  refine Z31 Fx.fl26_0 ?_
  refine Z19 (.a _) Fx.ty3 ?_
  refine Z42 ?_
  refine Z8 ?_
  refine Z17 ?_ ?_ <;> intro g121
  rotate_left
  ·
   iterate 6 refine oF ?_
   refine Z4 ?_
   refine sM ?_
   iterate 7 refine oF ?_
   refine Z4 ?_
   refine sM ?_
   iterate 6 refine oF ?_
   refine Z4 ?_
   refine sM ?_
   iterate 7 refine oF ?_
   iterate 6 refine oU ?_
   refine Z34 ?_
   refine Z4 ?_
   refine sB ?_
   exact aR (f1 (q := nb))
  refine Z5 Fx.fl26_5 ?_
  refine Z3 Fx.ty24 ?_
  refine Z15 Fx.sl24 (idx_ex h12) ?_
  refine Z31 Fx.fl26_0 ?_
  refine Z19 (.a _) Fx.ty3 ?_
  refine Z21 ?_
  refine Z8 ?_
  refine Z17 ?_ ?_ <;> intro g129
  rotate_left
  ·
   iterate 7 refine oF ?_
   refine Z4 ?_
   refine sM ?_
   iterate 6 refine oF ?_
   refine Z4 ?_
   refine sM ?_
   iterate 7 refine oF ?_
   iterate 6 refine oU ?_
   refine Z34 ?_
   refine Z4 ?_
   refine sB ?_
   exact aR (f1 (q := nb))
  refine Z5 Fx.fl26_5 ?_
  refine Z3 Fx.ty24 ?_
  refine Z15 Fx.sl24 (idx_ex h12) ?_
  refine Z31 Fx.fl26_4 ?_
  refine Z31 Fx.fl23_0 ?_
  refine Z19 (.a _) Fx.ty3 ?_
  refine Z21 ?_
  refine Z8 ?_
  refine Z17 ?_ ?_ <;> intro g138
  rotate_left
  ·
   iterate 6 refine oF ?_
   refine Z4 ?_
   refine sM ?_
   iterate 7 refine oF ?_
   iterate 6 refine oU ?_
   refine Z34 ?_
   refine Z4 ?_
   refine sB ?_
   exact aR (f1 (q := nb))
  refine Z5 Fx.fl26_5 ?_
  refine Z3 Fx.ty24 ?_
  refine Z15 Fx.sl24 (idx_ex h12) ?_
  refine Z31 Fx.fl26_4 ?_
  refine Z19 (.g [_, _, _]) Fx.ty23 ?_
  refine SeqK.on (q_call _ rfl Fx.fn35 rfl (D.vvalid_any ⟨e.args[1].vk, e.args[1].vn, e.args[1].vs⟩ (by show e.args[1].vs.size ≤ _; have := ((rgQ_eq _).1 (hrs _ (List.getElem_mem h12))).1.2.2.1; omega)) rfl) rfl rfl rfl rfl rfl ?_
  refine Z8 ?_
  refine Z36 ?_ ?_ <;> intro g146
  ·
   refine Z5 Fx.fl26_5 ?_
   refine Z3 Fx.ty24 ?_
   refine Z15 Fx.sl24 (idx_ex h01) ?_
   refine Z31 Fx.fl26_0 ?_
   refine Z19 (.a _) Fx.ty3 ?_
   refine Z21 ?_
   refine Z46 ?_ ?_ <;> intro g153
   ·
    iterate 6 refine oF ?_
    refine Z33 ?_
    refine Z8 ?_
    refine sB ?_
    exact aR (f1 (q := ⟨_, rfl, by first | exact (fun h => ⟨Cd.like e e.args[0] e.args[1] (by assumption) (args2 hl2) (q111 (by assumption)) (by first | exact .inr (by assumption) | exact .inl (of_decide_eq_true h)) (by first | exact .inl (txX_b g97) | exact .inr (by assumption)) ⟨by assumption, by assumption, List.length_eq_zero_iff.1 (by first | omega | (simp only [List.length_map] at *; omega)), (vv_of (by first | exact of_decide_eq_true g146 | exact g146 | assumption) (by assumption)).2⟩, hs⟩) | exact (fun h => by first | (cases h; done) | (exfalso; simp_all; done)), rfl⟩))
   refine Z5 Fx.fl26_5 ?_
   refine Z3 Fx.ty24 ?_
   refine Z15 Fx.sl24 (idx_ex h01) ?_
   refine Z31 Fx.fl26_0 ?_
   refine Z19 (.a _) Fx.ty3 ?_
   refine Z21 ?_
   refine Z37 ?_
   refine Z8 ?_
   refine sB ?_
   exact aR (f1 (q := ⟨_, rfl, by first | exact (fun h => ⟨Cd.like e e.args[0] e.args[1] (by assumption) (args2 hl2) (q111 (by assumption)) (by first | exact .inr (by assumption) | exact .inl (of_decide_eq_true h)) (by first | exact .inl (txX_b g97) | exact .inr (by assumption)) ⟨by assumption, by assumption, List.length_eq_zero_iff.1 (by first | omega | (simp only [List.length_map] at *; omega)), (vv_of (by first | exact of_decide_eq_true g146 | exact g146 | assumption) (by assumption)).2⟩, hs⟩) | exact (fun h => by first | (cases h; done) | (exfalso; simp_all; done)), rfl⟩))
  iterate 7 refine oF ?_
  iterate 6 refine oU ?_
  refine Z34 ?_
  refine Z4 ?_
  refine sB ?_
  exact aR (f1 (q := nb))
 refine Z5 Fx.fl26_5 ?_
 refine Z3 Fx.ty24 ?_
 refine Z15 Fx.sl24 (idx_ex h01) ?_
 refine Z19 (.g [_, _, _, _, _, _, _, _]) Fx.ty26 ?_
 refine Z35 Fx.fn34 (null_any _ (rgQ_E _ (hrs _ (List.getElem_mem h01)))) ?_
 refine Z37 ?_
 refine Z8 ?_
 refine Z36 ?_ ?_ <;> intro g105
 rotate_left
 ·
  iterate 6 refine oF ?_
  refine Z4 ?_
  refine sM ?_
  iterate 6 refine oF ?_
  refine Z4 ?_
  refine sM ?_
  iterate 6 refine oF ?_
  refine Z4 ?_
  refine sM ?_
  iterate 7 refine oF ?_
  refine Z4 ?_
  refine sM ?_
  iterate 6 refine oF ?_
  refine Z4 ?_
  refine sM ?_
  iterate 7 refine oF ?_
  iterate 6 refine oU ?_
  refine Z34 ?_
  refine Z4 ?_
  refine sB ?_
  exact aR (f1 (q := nb))
 refine Z5 Fx.fl26_5 ?_
 refine Z3 Fx.ty24 ?_
 refine Z15 Fx.sl24 (idx_ex h01) ?_
 refine Z19 (.g [_, _, _, _, _, _, _, _]) Fx.ty26 ?_
 refine Z14 ?_
 refine relOn Fx.fn32 (operand_any _ l z hL 11 (hrs _ (List.getElem_mem h01)) (hsa _ (List.getElem_mem h01)) (by decide) _) ?_
 intro b111 q111
 refine Z8 ?_
 refine Z36 ?_ ?_ <;> intro g113
 rotate_left
 ·
  iterate 6 refine oF ?_
  refine Z4 ?_
  refine sM ?_
  iterate 6 refine oF ?_
  refine Z4 ?_
  refine sM ?_
  iterate 7 refine oF ?_
  refine Z4 ?_
  refine sM ?_
  iterate 6 refine oF ?_
  refine Z4 ?_
  refine sM ?_
  iterate 7 refine oF ?_
  iterate 6 refine oU ?_
  refine Z34 ?_
  refine Z4 ?_
  refine sB ?_
  exact aR (f1 (q := nb))
 refine Z5 Fx.fl26_5 ?_
 refine Z3 Fx.ty24 ?_
 refine Z15 Fx.sl24 (idx_ex h01) ?_
 refine Z31 Fx.fl26_0 ?_
 refine Z19 (.a _) Fx.ty3 ?_
 refine Z42 ?_
 refine Z8 ?_
 refine Z17 ?_ ?_ <;> intro g121
 rotate_left
 ·
  iterate 6 refine oF ?_
  refine Z4 ?_
  refine sM ?_
  iterate 7 refine oF ?_
  refine Z4 ?_
  refine sM ?_
  iterate 6 refine oF ?_
  refine Z4 ?_
  refine sM ?_
  iterate 7 refine oF ?_
  iterate 6 refine oU ?_
  refine Z34 ?_
  refine Z4 ?_
  refine sB ?_
  exact aR (f1 (q := nb))
 refine Z5 Fx.fl26_5 ?_
 refine Z3 Fx.ty24 ?_
 refine Z15 Fx.sl24 (idx_ex h12) ?_
 refine Z31 Fx.fl26_0 ?_
 refine Z19 (.a _) Fx.ty3 ?_
 refine Z21 ?_
 refine Z8 ?_
 refine Z17 ?_ ?_ <;> intro g129
 rotate_left
 ·
  iterate 7 refine oF ?_
  refine Z4 ?_
  refine sM ?_
  iterate 6 refine oF ?_
  refine Z4 ?_
  refine sM ?_
  iterate 7 refine oF ?_
  iterate 6 refine oU ?_
  refine Z34 ?_
  refine Z4 ?_
  refine sB ?_
  exact aR (f1 (q := nb))
 refine Z5 Fx.fl26_5 ?_
 refine Z3 Fx.ty24 ?_
 refine Z15 Fx.sl24 (idx_ex h12) ?_
 refine Z31 Fx.fl26_4 ?_
 refine Z31 Fx.fl23_0 ?_
 refine Z19 (.a _) Fx.ty3 ?_
 refine Z21 ?_
 refine Z8 ?_
 refine Z17 ?_ ?_ <;> intro g138
 rotate_left
 ·
  iterate 6 refine oF ?_
  refine Z4 ?_
  refine sM ?_
  iterate 7 refine oF ?_
  iterate 6 refine oU ?_
  refine Z34 ?_
  refine Z4 ?_
  refine sB ?_
  exact aR (f1 (q := nb))
 refine Z5 Fx.fl26_5 ?_
 refine Z3 Fx.ty24 ?_
 refine Z15 Fx.sl24 (idx_ex h12) ?_
 refine Z31 Fx.fl26_4 ?_
 refine Z19 (.g [_, _, _]) Fx.ty23 ?_
 refine SeqK.on (q_call _ rfl Fx.fn35 rfl (D.vvalid_any ⟨e.args[1].vk, e.args[1].vn, e.args[1].vs⟩ (by show e.args[1].vs.size ≤ _; have := ((rgQ_eq _).1 (hrs _ (List.getElem_mem h12))).1.2.2.1; omega)) rfl) rfl rfl rfl rfl rfl ?_
 refine Z8 ?_
 refine Z36 ?_ ?_ <;> intro g146
 ·
  refine Z5 Fx.fl26_5 ?_
  refine Z3 Fx.ty24 ?_
  refine Z15 Fx.sl24 (idx_ex h01) ?_
  refine Z31 Fx.fl26_0 ?_
  refine Z19 (.a _) Fx.ty3 ?_
  refine Z21 ?_
  refine Z46 ?_ ?_ <;> intro g153
  ·
   iterate 6 refine oF ?_
   refine Z33 ?_
   refine Z8 ?_
   refine sB ?_
   exact aR (f1 (q := ⟨_, rfl, by first | exact (fun h => ⟨Cd.like e e.args[0] e.args[1] (by assumption) (args2 hl2) (q111 (by assumption)) (by first | exact .inr (by assumption) | exact .inl (of_decide_eq_true h)) (by first | exact .inl (txX_b g97) | exact .inr (by assumption)) ⟨by assumption, by assumption, List.length_eq_zero_iff.1 (by first | omega | (simp only [List.length_map] at *; omega)), (vv_of (by first | exact of_decide_eq_true g146 | exact g146 | assumption) (by assumption)).2⟩, hs⟩) | exact (fun h => by first | (cases h; done) | (exfalso; simp_all; done)), rfl⟩))
  refine Z5 Fx.fl26_5 ?_
  refine Z3 Fx.ty24 ?_
  refine Z15 Fx.sl24 (idx_ex h01) ?_
  refine Z31 Fx.fl26_0 ?_
  refine Z19 (.a _) Fx.ty3 ?_
  refine Z21 ?_
  refine Z37 ?_
  refine Z8 ?_
  refine sB ?_
  exact aR (f1 (q := ⟨_, rfl, by first | exact (fun h => ⟨Cd.like e e.args[0] e.args[1] (by assumption) (args2 hl2) (q111 (by assumption)) (by first | exact .inr (by assumption) | exact .inl (of_decide_eq_true h)) (by first | exact .inl (txX_b g97) | exact .inr (by assumption)) ⟨by assumption, by assumption, List.length_eq_zero_iff.1 (by first | omega | (simp only [List.length_map] at *; omega)), (vv_of (by first | exact of_decide_eq_true g146 | exact g146 | assumption) (by assumption)).2⟩, hs⟩) | exact (fun h => by first | (cases h; done) | (exfalso; simp_all; done)), rfl⟩))
 iterate 7 refine oF ?_
 iterate 6 refine oU ?_
 refine Z34 ?_
 refine Z4 ?_
 refine sB ?_
 exact aR (f1 (q := nb))
theorem cond_any (l : List Vr) (z : Nz) (hL : l.length ≤ 17592186044000) : ∀ (d : Nat) (e : Ex), d ≤ 8 → rgQ e → ∀ H : Heap, E.Spec Tryz.prog 18 [exC e, vsC z l, iC (d : Int)] H fun x H' => ∃ b, x = .c (bC b) ∧ (b = true → Cd l e ∧ shP 12 e) ∧ H' = H
  | 0, e, hd, hr, H => cond_of e l z hL 0 hd hr (fun h => absurd h (by omega)) H
  | d + 1, e, hd, hr, H => cond_of e l z hL (d + 1) hd hr (fun _ a ha H => cond_any l z hL d a (by omega) (((rgQ_eq e).1 hr).2 a ha) H) H
theorem usual_any (e : Ex) (l : List Vr) (z : Nz) (hL : l.length ≤ 17592186044000) (hr : rgQ e) (H : Heap) : E.Spec Tryz.prog 6 [exC e, vsC z l] H fun x H' => ∃ b, x = .c (bC b) ∧ (b = true → D.domB l = true ∧ Cd l e ∧ shP 12 e) ∧ H' = H := by
 refine Spec.enter Tryz.func6 rfl ?_
 refine AW.wk (Wk.keep 12 [(0, .c (exC e)), (1, .c (vsC z l))] [] (H) rfl ⟨rfl, rfl, trivial⟩ trivial (fun _ _ h => h) rfl) ?_
 refine sR (Z20 (r := [_, _, _, _, _, _, _, _]) ?_)
 refine sB ?_
 refine sR (sM ?_)
 refine Z12 Fx.fn17 (D.dom_any l z hL) ?_
 refine Z36 ?_ ?_ <;> intro g7
 ·
  refine Z25 (r := .g [_, _, _, _, _, _, _, _]) Fx.ty26 ?_
  refine Z14 ?_
  refine relOn Fx.fn18 (cond_any l z hL 8 e (by decide) hr _) ?_
  intro b10 q10
  refine Z8 ?_
  refine sB ?_
  exact aR (f1 (q := ⟨_, rfl, by first | exact (fun h => ⟨by assumption, by first | exact q9 h | exact q8 h | exact q10 h⟩) | exact (fun h => by first | (cases h; done) | (exfalso; simp_all; done)), rfl⟩))
 iterate 3 refine oF ?_
 refine Z4 ?_
 refine sB ?_
 exact aR (f1 (q := nb))
end Go.Proofs.YtnnoafgdjjpidaaGreatDoor.W
