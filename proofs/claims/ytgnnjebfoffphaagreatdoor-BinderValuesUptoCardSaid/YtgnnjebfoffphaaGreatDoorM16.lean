import Derived.Test.YtgnnjebfoffphaaGreatDoorM15
set_option maxRecDepth 20000
set_option maxHeartbeats 8000000
set_option linter.unusedSectionVars false
set_option linter.unusedSimpArgs false
set_option linter.unusedVariables false
namespace Go.Proofs.YtgnnjebfoffphaaGreatDoor.W
open Fx
open Go.RowKit E M
abbrev gd (r : Tm × Int) : Prop := r.2 = 0 → vldT r.1 = true ∧ r.1.cnt ≤ 24000
theorem of_of (e : Ex) (hr : rgE e) (hgd : ∀ a ∈ e.args, gd (ofE a)) (ih : ∀ a ∈ e.args, Pu 158 [exC a] (trC (ofE a))) : Pu 158 [exC e] (trC (ofE e)) := by
 intro H
 refine Spec.enter Tryz.func158 rfl ?_
 refine AW.wk (wK 94 (l := [(0, .c (exC e))]) (ll := []) (H := (H))) ?_
 refine D3 ?_
 refine AW.seq (D3 ?_)
 refine AW.block (AW.seq (D2 ?_))
 refine cD ?_ ?_ <;> intro h11
 ·
  refine AW.skip ?_
  refine cD ?_ ?_ <;> intro h11
  ·
   refine D1 ?_
   refine Z16 fn179 (leaf_of e hr ih) ?_
   refine G4 ?_
   exact aR (f2 (.cellL rfl rfl ty199 rfl rfl (.tmp rfl .nil)) (⟨by rw [ofE_eq e, stepE, if_pos (by omega)]; rfl, rfl⟩))
  exact absurd (by omega) h11
 refine D2 ?_
 refine cD ?_ ?_ <;> intro h11
 ·
  refine AW.skip ?_
  refine cD ?_ ?_ <;> intro h11
  ·
   refine D1 ?_
   refine Z16 fn179 (leaf_of e hr ih) ?_
   refine G4 ?_
   exact aR (f2 (.cellL rfl rfl ty199 rfl rfl (.tmp rfl .nil)) (⟨by rw [ofE_eq e, stepE, if_pos (by omega)]; rfl, rfl⟩))
  exact absurd (by omega) h11
 refine B2 ?_
 refine cD ?_ ?_ <;> intro h11
 ·
  refine D1 ?_
  refine Z16 fn179 (leaf_of e hr ih) ?_
  refine G4 ?_
  exact aR (f2 (.cellL rfl rfl ty199 rfl rfl (.tmp rfl .nil)) (⟨by rw [ofE_eq e, stepE, if_pos (by omega)]; rfl, rfl⟩))
 refine D2 ?_
 refine cD ?_ ?_ <;> intro h19
 ·
  refine AW.seq (D5 ?_)
  refine cD ?_ ?_ <;> intro h24
  ·
   refine D1 ?_
   refine Z16 fn180 (ops_of e hr.len ih) ?_
   refine G4 ?_
   exact aR (f2 (.cellL rfl rfl ty199 rfl rfl (.tmp rfl .nil)) (⟨by rw [ofE_eq e, stepE, if_neg (by omega), if_pos h19, unR_ne (by rw [qA]; rw [qA] at h24; omega)]; rfl, rfl⟩))
  have hl1 : e.args.length = 1 := by rw [qA] at h24; omega
  have h01 : 0 < e.args.length := by omega
  refine AW.skip (D4 ?_)
  refine Z16 fn158 (ih _ (qC h01)) ?_
  refine G6 ?_
  refine AW.seq (D3 ?_)
  refine cD ?_ ?_ <;> intro h38
  ·
   refine D1 ?_
   refine SeqK.xw 39 rfl XW.tm0 ?_
   refine G3 ?_
   exact aR (f2 (.cellL rfl rfl ty199 rfl rfl (.tmp rfl .nil)) (⟨by rw [ofE_eq e, stepE, if_neg (by omega), if_pos h19, unR_one (by simpa using h01) (by simpa using hl1)]; simp only [qV]; rw [if_pos h38]; rfl, rfl⟩))
  have hg0 := hgd _ (qC h01) (qY.1 h38)
  refine AW.skip (D1 ?_)
  refine sQ (q_call _ rfl fn181 rfl (scale_any _ (-1) (vldT_bok hg0.1) (vldT_one hg0.1) (by decide) (by omega)) rfl) ?_
  refine G4 ?_
  exact aR (f2 (.cellL rfl rfl ty199 rfl rfl (.tmp rfl .nil)) (⟨by rw [ofE_eq e, stepE, if_neg (by omega), if_pos h19, unR_one (by simpa using h01) (by simpa using hl1)]; simp only [qV]; rw [if_neg h38]; rfl, rfl⟩))
 refine AW.seq (D2 ?_)
 refine cD ?_ ?_ <;> intro h45
 ·
  refine AW.skip ?_
  refine cD ?_ ?_ <;> intro h45
  rotate_left
  ·
   exact absurd (by omega) h45
  refine AW.seq (D5 ?_)
  refine cD ?_ ?_ <;> intro h54
  ·
   refine D1 ?_
   refine Z16 fn180 (ops_of e hr.len ih) ?_
   refine G4 ?_
   exact aR (f2 (.cellL rfl rfl ty199 rfl rfl (.tmp rfl .nil)) (⟨by rw [ofE_eq e, stepE, if_neg (by omega), if_neg h19, if_pos (by omega), binR_ne (by rw [qA]; rw [qA] at h54; omega)]; rfl, rfl⟩))
  have hl2 : e.args.length = 2 := by rw [qA] at h54; omega
  have h01 : 0 < e.args.length := by omega
  have h12 : 1 < e.args.length := by omega
  refine AW.skip (D4 ?_)
  refine Z16 fn158 (ih _ (qC h01)) ?_
  refine G6 ?_
  refine AW.seq (D3 ?_)
  refine cD ?_ ?_ <;> intro h68
  ·
   refine D1 ?_
   refine SeqK.xw 69 rfl XW.tm0 ?_
   refine G3 ?_
   exact aR (f2 (.cellL rfl rfl ty199 rfl rfl (.tmp rfl .nil)) (⟨by rw [ofE_eq e, stepE, if_neg (by omega), if_neg h19, if_pos (by omega), binR_two (by simpa using h01) (by simpa using h12) (by simpa using hl2)]; simp only [qV]; rw [if_pos h68]; rfl, rfl⟩))
  have hg0 := hgd _ (qC h01) (qY.1 h68)
  refine AW.skip (D4 ?_)
  refine Z16 fn158 (ih _ (qC h12)) ?_
  refine G6 ?_
  refine AW.seq (D3 ?_)
  refine cD ?_ ?_ <;> intro h80
  ·
   refine D1 ?_
   refine SeqK.xw 81 rfl XW.tm0 ?_
   refine G3 ?_
   exact aR (f2 (.cellL rfl rfl ty199 rfl rfl (.tmp rfl .nil)) (⟨by rw [ofE_eq e, stepE, if_neg (by omega), if_neg h19, if_pos (by omega), binR_two (by simpa using h01) (by simpa using h12) (by simpa using hl2)]; simp only [qV]; rw [if_neg h68, if_pos h80]; rfl, rfl⟩))
  have hg1 := hgd _ (qC h12) (qY.1 h80)
  refine AW.skip (D4 ?_)
  refine sQ (q_call _ rfl fn182 rfl (comb_any e.op _ _ hg0.1 hg1.1 (by omega)) rfl) ?_
  refine G4 ?_
  exact aR (f2 (.cellL rfl rfl ty199 rfl rfl (.tmp rfl .nil)) (⟨by rw [ofE_eq e, stepE, if_neg (by omega), if_neg h19, if_pos (by omega), binR_two (by simpa using h01) (by simpa using h12) (by simpa using hl2)]; simp only [qV]; rw [if_neg h68, if_neg h80]; rfl, rfl⟩))
 refine D2 ?_
 refine cD ?_ ?_ <;> intro h45
 ·
  refine AW.skip ?_
  refine cD ?_ ?_ <;> intro h45
  rotate_left
  ·
   exact absurd (by omega) h45
  refine AW.seq (D5 ?_)
  refine cD ?_ ?_ <;> intro h54
  ·
   refine D1 ?_
   refine Z16 fn180 (ops_of e hr.len ih) ?_
   refine G4 ?_
   exact aR (f2 (.cellL rfl rfl ty199 rfl rfl (.tmp rfl .nil)) (⟨by rw [ofE_eq e, stepE, if_neg (by omega), if_neg h19, if_pos (by omega), binR_ne (by rw [qA]; rw [qA] at h54; omega)]; rfl, rfl⟩))
  have hl2 : e.args.length = 2 := by rw [qA] at h54; omega
  have h01 : 0 < e.args.length := by omega
  have h12 : 1 < e.args.length := by omega
  refine AW.skip (D4 ?_)
  refine Z16 fn158 (ih _ (qC h01)) ?_
  refine G6 ?_
  refine AW.seq (D3 ?_)
  refine cD ?_ ?_ <;> intro h68
  ·
   refine D1 ?_
   refine SeqK.xw 69 rfl XW.tm0 ?_
   refine G3 ?_
   exact aR (f2 (.cellL rfl rfl ty199 rfl rfl (.tmp rfl .nil)) (⟨by rw [ofE_eq e, stepE, if_neg (by omega), if_neg h19, if_pos (by omega), binR_two (by simpa using h01) (by simpa using h12) (by simpa using hl2)]; simp only [qV]; rw [if_pos h68]; rfl, rfl⟩))
  have hg0 := hgd _ (qC h01) (qY.1 h68)
  refine AW.skip (D4 ?_)
  refine Z16 fn158 (ih _ (qC h12)) ?_
  refine G6 ?_
  refine AW.seq (D3 ?_)
  refine cD ?_ ?_ <;> intro h80
  ·
   refine D1 ?_
   refine SeqK.xw 81 rfl XW.tm0 ?_
   refine G3 ?_
   exact aR (f2 (.cellL rfl rfl ty199 rfl rfl (.tmp rfl .nil)) (⟨by rw [ofE_eq e, stepE, if_neg (by omega), if_neg h19, if_pos (by omega), binR_two (by simpa using h01) (by simpa using h12) (by simpa using hl2)]; simp only [qV]; rw [if_neg h68, if_pos h80]; rfl, rfl⟩))
  have hg1 := hgd _ (qC h12) (qY.1 h80)
  refine AW.skip (D4 ?_)
  refine sQ (q_call _ rfl fn182 rfl (comb_any e.op _ _ hg0.1 hg1.1 (by omega)) rfl) ?_
  refine G4 ?_
  exact aR (f2 (.cellL rfl rfl ty199 rfl rfl (.tmp rfl .nil)) (⟨by rw [ofE_eq e, stepE, if_neg (by omega), if_neg h19, if_pos (by omega), binR_two (by simpa using h01) (by simpa using h12) (by simpa using hl2)]; simp only [qV]; rw [if_neg h68, if_neg h80]; rfl, rfl⟩))
 refine D2 ?_
 refine cD ?_ ?_ <;> intro h45
 ·
  refine AW.skip ?_
  refine cD ?_ ?_ <;> intro h45
  rotate_left
  ·
   exact absurd (by omega) h45
  refine AW.seq (D5 ?_)
  refine cD ?_ ?_ <;> intro h54
  ·
   refine D1 ?_
   refine Z16 fn180 (ops_of e hr.len ih) ?_
   refine G4 ?_
   exact aR (f2 (.cellL rfl rfl ty199 rfl rfl (.tmp rfl .nil)) (⟨by rw [ofE_eq e, stepE, if_neg (by omega), if_neg h19, if_pos (by omega), binR_ne (by rw [qA]; rw [qA] at h54; omega)]; rfl, rfl⟩))
  have hl2 : e.args.length = 2 := by rw [qA] at h54; omega
  have h01 : 0 < e.args.length := by omega
  have h12 : 1 < e.args.length := by omega
  refine AW.skip (D4 ?_)
  refine Z16 fn158 (ih _ (qC h01)) ?_
  refine G6 ?_
  refine AW.seq (D3 ?_)
  refine cD ?_ ?_ <;> intro h68
  ·
   refine D1 ?_
   refine SeqK.xw 69 rfl XW.tm0 ?_
   refine G3 ?_
   exact aR (f2 (.cellL rfl rfl ty199 rfl rfl (.tmp rfl .nil)) (⟨by rw [ofE_eq e, stepE, if_neg (by omega), if_neg h19, if_pos (by omega), binR_two (by simpa using h01) (by simpa using h12) (by simpa using hl2)]; simp only [qV]; rw [if_pos h68]; rfl, rfl⟩))
  have hg0 := hgd _ (qC h01) (qY.1 h68)
  refine AW.skip (D4 ?_)
  refine Z16 fn158 (ih _ (qC h12)) ?_
  refine G6 ?_
  refine AW.seq (D3 ?_)
  refine cD ?_ ?_ <;> intro h80
  ·
   refine D1 ?_
   refine SeqK.xw 81 rfl XW.tm0 ?_
   refine G3 ?_
   exact aR (f2 (.cellL rfl rfl ty199 rfl rfl (.tmp rfl .nil)) (⟨by rw [ofE_eq e, stepE, if_neg (by omega), if_neg h19, if_pos (by omega), binR_two (by simpa using h01) (by simpa using h12) (by simpa using hl2)]; simp only [qV]; rw [if_neg h68, if_pos h80]; rfl, rfl⟩))
  have hg1 := hgd _ (qC h12) (qY.1 h80)
  refine AW.skip (D4 ?_)
  refine sQ (q_call _ rfl fn182 rfl (comb_any e.op _ _ hg0.1 hg1.1 (by omega)) rfl) ?_
  refine G4 ?_
  exact aR (f2 (.cellL rfl rfl ty199 rfl rfl (.tmp rfl .nil)) (⟨by rw [ofE_eq e, stepE, if_neg (by omega), if_neg h19, if_pos (by omega), binR_two (by simpa using h01) (by simpa using h12) (by simpa using hl2)]; simp only [qV]; rw [if_neg h68, if_neg h80]; rfl, rfl⟩))
 refine D2 ?_
 refine cD ?_ ?_ <;> intro h45
 ·
  refine AW.skip ?_
  refine cD ?_ ?_ <;> intro h45
  rotate_left
  ·
   exact absurd (by omega) h45
  refine AW.seq (D5 ?_)
  refine cD ?_ ?_ <;> intro h54
  ·
   refine D1 ?_
   refine Z16 fn180 (ops_of e hr.len ih) ?_
   refine G4 ?_
   exact aR (f2 (.cellL rfl rfl ty199 rfl rfl (.tmp rfl .nil)) (⟨by rw [ofE_eq e, stepE, if_neg (by omega), if_neg h19, if_pos (by omega), binR_ne (by rw [qA]; rw [qA] at h54; omega)]; rfl, rfl⟩))
  have hl2 : e.args.length = 2 := by rw [qA] at h54; omega
  have h01 : 0 < e.args.length := by omega
  have h12 : 1 < e.args.length := by omega
  refine AW.skip (D4 ?_)
  refine Z16 fn158 (ih _ (qC h01)) ?_
  refine G6 ?_
  refine AW.seq (D3 ?_)
  refine cD ?_ ?_ <;> intro h68
  ·
   refine D1 ?_
   refine SeqK.xw 69 rfl XW.tm0 ?_
   refine G3 ?_
   exact aR (f2 (.cellL rfl rfl ty199 rfl rfl (.tmp rfl .nil)) (⟨by rw [ofE_eq e, stepE, if_neg (by omega), if_neg h19, if_pos (by omega), binR_two (by simpa using h01) (by simpa using h12) (by simpa using hl2)]; simp only [qV]; rw [if_pos h68]; rfl, rfl⟩))
  have hg0 := hgd _ (qC h01) (qY.1 h68)
  refine AW.skip (D4 ?_)
  refine Z16 fn158 (ih _ (qC h12)) ?_
  refine G6 ?_
  refine AW.seq (D3 ?_)
  refine cD ?_ ?_ <;> intro h80
  ·
   refine D1 ?_
   refine SeqK.xw 81 rfl XW.tm0 ?_
   refine G3 ?_
   exact aR (f2 (.cellL rfl rfl ty199 rfl rfl (.tmp rfl .nil)) (⟨by rw [ofE_eq e, stepE, if_neg (by omega), if_neg h19, if_pos (by omega), binR_two (by simpa using h01) (by simpa using h12) (by simpa using hl2)]; simp only [qV]; rw [if_neg h68, if_pos h80]; rfl, rfl⟩))
  have hg1 := hgd _ (qC h12) (qY.1 h80)
  refine AW.skip (D4 ?_)
  refine sQ (q_call _ rfl fn182 rfl (comb_any e.op _ _ hg0.1 hg1.1 (by omega)) rfl) ?_
  refine G4 ?_
  exact aR (f2 (.cellL rfl rfl ty199 rfl rfl (.tmp rfl .nil)) (⟨by rw [ofE_eq e, stepE, if_neg (by omega), if_neg h19, if_pos (by omega), binR_two (by simpa using h01) (by simpa using h12) (by simpa using hl2)]; simp only [qV]; rw [if_neg h68, if_neg h80]; rfl, rfl⟩))
 refine B2 ?_
 refine cD ?_ ?_ <;> intro h45
 rotate_left
 ·
  refine AW.skip (D1 ?_)
  refine Z16 fn180 (ops_of e hr.len ih) ?_
  refine G4 ?_
  exact aR (f2 (.cellL rfl rfl ty199 rfl rfl (.tmp rfl .nil)) (⟨by rw [ofE_eq e, stepE, if_neg (by omega), if_neg h19, if_neg (by omega)]; rfl, rfl⟩))
 refine AW.seq (D5 ?_)
 refine cD ?_ ?_ <;> intro h54
 ·
  refine D1 ?_
  refine Z16 fn180 (ops_of e hr.len ih) ?_
  refine G4 ?_
  exact aR (f2 (.cellL rfl rfl ty199 rfl rfl (.tmp rfl .nil)) (⟨by rw [ofE_eq e, stepE, if_neg (by omega), if_neg h19, if_pos (by omega), binR_ne (by rw [qA]; rw [qA] at h54; omega)]; rfl, rfl⟩))
 have hl2 : e.args.length = 2 := by rw [qA] at h54; omega
 have h01 : 0 < e.args.length := by omega
 have h12 : 1 < e.args.length := by omega
 refine AW.skip (D4 ?_)
 refine Z16 fn158 (ih _ (qC h01)) ?_
 refine G6 ?_
 refine AW.seq (D3 ?_)
 refine cD ?_ ?_ <;> intro h68
 ·
  refine D1 ?_
  refine SeqK.xw 69 rfl XW.tm0 ?_
  refine G3 ?_
  exact aR (f2 (.cellL rfl rfl ty199 rfl rfl (.tmp rfl .nil)) (⟨by rw [ofE_eq e, stepE, if_neg (by omega), if_neg h19, if_pos (by omega), binR_two (by simpa using h01) (by simpa using h12) (by simpa using hl2)]; simp only [qV]; rw [if_pos h68]; rfl, rfl⟩))
 have hg0 := hgd _ (qC h01) (qY.1 h68)
 refine AW.skip (D4 ?_)
 refine Z16 fn158 (ih _ (qC h12)) ?_
 refine G6 ?_
 refine AW.seq (D3 ?_)
 refine cD ?_ ?_ <;> intro h80
 ·
  refine D1 ?_
  refine SeqK.xw 81 rfl XW.tm0 ?_
  refine G3 ?_
  exact aR (f2 (.cellL rfl rfl ty199 rfl rfl (.tmp rfl .nil)) (⟨by rw [ofE_eq e, stepE, if_neg (by omega), if_neg h19, if_pos (by omega), binR_two (by simpa using h01) (by simpa using h12) (by simpa using hl2)]; simp only [qV]; rw [if_neg h68, if_pos h80]; rfl, rfl⟩))
 have hg1 := hgd _ (qC h12) (qY.1 h80)
 refine AW.skip (D4 ?_)
 refine sQ (q_call _ rfl fn182 rfl (comb_any e.op _ _ hg0.1 hg1.1 (by omega)) rfl) ?_
 refine G4 ?_
 exact aR (f2 (.cellL rfl rfl ty199 rfl rfl (.tmp rfl .nil)) (⟨by rw [ofE_eq e, stepE, if_neg (by omega), if_neg h19, if_pos (by omega), binR_two (by simpa using h01) (by simpa using h12) (by simpa using hl2)]; simp only [qV]; rw [if_neg h68, if_neg h80]; rfl, rfl⟩))
mutual
def okE : Ex → Prop
  | .mk _ _ _ _ _ vn _ args => (R64 vn ∧ args.length ≤ 1000000) ∧ okEs args
def okEs : List Ex → Prop
  | [] => True
  | a :: r => (okE a ∧ gd (ofE a) ∧ a.vs.size ≤ 1152921504606846976) ∧ okEs r
end
theorem okEs_iff {l : List Ex} : okEs l ↔ ∀ a ∈ l, okE a ∧ gd (ofE a) ∧ a.vs.size ≤ 1152921504606846976 := by
  induction l with
  | nil => simp [okEs]
  | cons a r ih => simp [okEs, ih]
theorem of_any (e : Ex) : okE e → Pu 158 [exC e] (trC (ofE e)) := by
  induction e using Ex.ind with
  | h e ih =>
    intro h
    cases e with | mk op tb nm ix vk vn vs args =>
    simp only [okE, okEs_iff] at h
    exact of_of _ ⟨h.1.1, h.1.2, fun a ha => (h.2 a ha).2.2⟩ (fun a ha => (h.2 a ha).2.1) fun a ha => ih a ha (h.2 a ha).1
def timesI (a n : Int) : Int := if a.natAbs * n.natAbs ≤ 2 ^ 60 then a * n else 2 ^ 60
def mulR (p : Pt) (n : Int) : Pt := ⟨timesI p.coef n, p.kind, p.var, p.dv, p.of⟩
theorem scale_vld' {t : Tm} {n : Int} (h : vldT t = true) : vldT (scale t n).1 = true := by
  by_cases hs : (scale t n).2 = 0
  · exact scale_vld h hs
  · unfold scale at hs ⊢
    split at hs
    · rw [if_pos (by assumption)]; exact vld0
    · rw [if_neg (by assumption)]
      unfold lim at hs ⊢
      split at hs
      · exact absurd rfl hs
      · rw [if_neg (by assumption)]; exact vld0
theorem div_vld' {t : Tm} {b : Int} (h : vldT t = true) : vldT (div t b).1 = true := by
  by_cases hs : (div t b).2 = 0
  · exact div_vld h hs
  · unfold div at hs ⊢
    split at hs
    · rw [if_pos (by assumption)]; exact vld0
    · rw [if_neg (by assumption)]
      split at hs
      · exact absurd rfl hs
      · rw [if_neg (by assumption)]
        split at hs
        · exact absurd rfl hs
        · rw [if_neg (by assumption)]
          unfold lim at hs ⊢
          split at hs
          · exact absurd rfl hs
          · rw [if_neg (by assumption)]; exact vld0
theorem cmpP_C (p q u : Pt) : C3 (cmpP p q) (cmpP q u) (cmpP p u) := by
  rw [cmpP_lex, cmpP_lex, cmpP_lex]
  exact (C3.ints _ _ _).lex ((C3.ints _ _ _).lex ((C3.ints _ _ _).lex (cmpO_C fun o _ b c => cmpT_C o b c)))
theorem cmpP_neg (p q : Pt) : cmpP q p = -cmpP p q := by
  rw [cmpP_lex, cmpP_lex, ints_neg p.kind, ints_neg p.var, ints_neg p.dv, cmpO_neg (fun o _ b => cmpT_neg o b), lex_neg, lex_neg, lex_neg]
abbrev av (l : List Pt) : Prop := ∀ p ∈ l, vldP p = true
theorem av.tl {p : Pt} {l : List Pt} (h : av (p :: l)) : av l := fun q hq => h q (by simp [hq])
theorem av.hd {p : Pt} {l : List Pt} (h : av (p :: l)) : vldP p = true := h p (by simp)
theorem vldP_nz {p : Pt} (h : vldP p = true) : p.coef ≠ 0 := fun e => by rw [vT0 e] at h; cases h
theorem nzc_yes {p : Pt} {l : List Pt} (h : p.coef ≠ 0) : nzc p l = p :: l := if_pos h
theorem mrg_nilL : ∀ {b : List Pt}, av b → mrg [] b = b
  | [], _ => by rw [mrg]
  | q :: s, h => by rw [mrg, nzc_yes (vldP_nz h.hd), mrg_nilL h.tl]
theorem mrg_nilR : ∀ {a : List Pt}, av a → mrg a [] = a
  | [], _ => by rw [mrg]
  | q :: s, h => by rw [mrg, nzc_yes (vldP_nz h.hd), mrg_nilR h.tl]
theorem vldP_addP {p q : Pt} (hq : vldP q = true) (hc : (addP p q).coef ≠ 0) : vldP (addP p q) = true := by
  rw [vldP_eq] at hq ⊢
  rw [show decide ((addP p q).coef ≠ 0) = true from jH hc]
  simp only [jG] at hq
  exact hq.2
theorem mrg_av : ∀ {a b : List Pt}, av a → av b → av (mrg a b)
  | [], b, _, hb => by rw [mrg_nilL hb]; exact hb
  | x :: r, [], ha, _ => by rw [mrg_nilR ha]; exact ha
  | x :: r, y :: s, ha, hb => by
    intro p hp
    rw [mrg] at hp
    split at hp
    · rcases mem_nzc hp with rfl | hp
      · exact ha.hd
      · exact mrg_av ha.tl hb p hp
    · split at hp
      · rcases mem_nzc hp with rfl | hp
        · exact hb.hd
        · exact mrg_av ha hb.tl p hp
      · unfold nzc at hp
        split at hp
        · rename_i hc
          rcases jD.1 hp with rfl | hp
          · exact vldP_addP hb.hd hc
          · exact mrg_av ha.tl hb.tl p hp
        · exact mrg_av ha.tl hb.tl p hp
termination_by a b => a.length + b.length
abbrev pw (l : List Pt) : Prop := l.Pairwise (fun p q => cmpP p q < 0)
theorem ascB_pw : ∀ {l : List Pt}, ascB l = true → pw l
  | [], _ => .nil
  | [p], _ => by simp [pw]
  | p :: q :: r, h => by
    simp only [ascB, jG, decide_eq_true_eq] at h
    have ih : pw (q :: r) := ascB_pw h.2
    refine List.pairwise_cons.2 ⟨fun u hu => ?_, ih⟩
    rcases jD.1 hu with rfl | hu
    · exact h.1
    · exact (cmpP_C p q u).lt h.1 (by have := (List.pairwise_cons.1 ih).1 u hu; omega)
theorem pw_ascB : ∀ {l : List Pt}, pw l → ascB l = true
  | [], _ => rfl
  | [p], _ => rfl
  | p :: q :: r, h => by
    have h' := List.pairwise_cons.1 h
    simp only [ascB, jG, decide_eq_true_eq]
    exact ⟨h'.1 q (by simp), pw_ascB h'.2⟩
theorem pw_nzc {p : Pt} {l : List Pt} (h : pw l) (hp : ∀ q ∈ l, cmpP p q < 0) : pw (nzc p l) := by
  unfold nzc; split
  · exact List.pairwise_cons.2 ⟨hp, h⟩
  · exact h
theorem nzc_lo {u p : Pt} {l : List Pt} (h : ∀ q ∈ l, cmpP u q < 0) (hp : cmpP u p < 0) : ∀ q ∈ nzc p l, cmpP u q < 0 := fun q hq => by
  rcases mem_nzc hq with rfl | hq
  · exact hp
  · exact h q hq
theorem mrg_lo (u : Pt) : ∀ {a b : List Pt}, (∀ q ∈ a, cmpP u q < 0) → (∀ q ∈ b, cmpP u q < 0) → ∀ q ∈ mrg a b, cmpP u q < 0
  | [], [], _, _ => by rw [mrg]; simp
  | [], y :: s, ha, hb => by rw [mrg]; exact nzc_lo (mrg_lo u ha fun q hq => hb q (by simp [hq])) (hb y (by simp))
  | x :: r, [], ha, hb => by rw [mrg]; exact nzc_lo (mrg_lo u (fun q hq => ha q (by simp [hq])) hb) (ha x (by simp))
  | x :: r, y :: s, ha, hb => by
    have ha' : ∀ q ∈ r, cmpP u q < 0 := fun q hq => ha q (by simp [hq])
    have hb' : ∀ q ∈ s, cmpP u q < 0 := fun q hq => hb q (by simp [hq])
    rw [mrg]
    split
    · exact nzc_lo (mrg_lo u ha' hb) (ha x (by simp))
    · split
      · exact nzc_lo (mrg_lo u ha hb') (hb y (by simp))
      · refine nzc_lo (mrg_lo u ha' hb') ?_
        have e : cmpP u (addP x y) = cmpP u y := by rw [cmpP_eq, cmpP_eq]; rfl
        rw [e]; exact hb y (by simp)
termination_by a b => a.length + b.length
theorem mrg_pw : ∀ {a b : List Pt}, pw a → pw b → pw (mrg a b)
  | [], [], _, _ => by rw [mrg]; exact .nil
  | [], y :: s, ha, hb => by
    have h := List.pairwise_cons.1 hb
    rw [mrg]; exact pw_nzc (mrg_pw ha h.2) (mrg_lo y (by simp) h.1)
  | x :: r, [], ha, hb => by
    have h := List.pairwise_cons.1 ha
    rw [mrg]; exact pw_nzc (mrg_pw h.2 hb) (mrg_lo x h.1 (by simp))
  | x :: r, y :: s, ha, hb => by
    have h := List.pairwise_cons.1 ha
    have h' := List.pairwise_cons.1 hb
    rw [mrg]
    split
    · rename_i h0
      refine pw_nzc (mrg_pw h.2 hb) (mrg_lo x h.1 fun q hq => ?_)
      rcases jD.1 hq with rfl | hq
      · exact h0
      · exact (cmpP_C x y q).lt h0 (by have := h'.1 q hq; omega)
    · split
      · rename_i h1
        have h1' : cmpP y x < 0 := by rw [cmpP_neg]; omega
        refine pw_nzc (mrg_pw ha h'.2) (mrg_lo y (fun q hq => ?_) h'.1)
        rcases jD.1 hq with rfl | hq
        · exact h1'
        · exact (cmpP_C y x q).lt h1' (by have := h.1 q hq; omega)
      · have h1' : cmpP y x ≤ 0 := by rw [cmpP_neg]; omega
        have e : ∀ q, cmpP (addP x y) q = cmpP y q := fun q => by rw [cmpP_eq, cmpP_eq]; rfl
        refine pw_nzc (mrg_pw h.2 h'.2) (mrg_lo _ (fun q hq => ?_) fun q hq => by rw [e]; exact h'.1 q hq)
        rw [e]
        exact (cmpP_C y x q).tl h1' (h.1 q hq)
termination_by a b => a.length + b.length
theorem vld_pw {t : Tm} (h : vldT t = true) : pw t.ps := by
  rw [vldT_eq] at h
  simp only [jG] at h
  exact ascB_pw h.1.2
theorem sum_vld {a b : Tm} (ha : vldT a = true) (hb : vldT b = true) : vldT (lim (sumT a b)).1 = true := by
  unfold lim; split
  · rename_i hs
    rw [vldT_eq, hs, vldPs_iff.2 (mrg_av (vld_parts ha) (vld_parts hb)), pw_ascB (mrg_pw (vld_pw ha) (vld_pw hb))]; rfl
  · exact vld0
theorem opsR_ne : ∀ rs : List (Tm × Int), (opsR rs).2 ≠ 0
  | [] => by decide
  | r :: l => by
    rw [opsR]; split
    · rename_i h; exact h
    · exact opsR_ne l
inductive OkE (e : Ex) : Prop
  | lit (h1 : e.op = 1) (h2 : e.vk = 1) (h3 : ofE e = (⟨e.vn, []⟩, 0)) (h4 : smallB ⟨e.vn, []⟩ = true)
  | col (h1 : e.op = 2) (h2 : 0 ≤ e.ix) (h3 : ofE e = (⟨0, [⟨1, 0, e.ix, 0, []⟩]⟩, 0)) (h4 : smallB ⟨0, [⟨1, 0, e.ix, 0, []⟩]⟩ = true)
  | lenT (a : Ex) (h1 : e.op = 9) (h2 : e.args = [a]) (h3 : a.op = 1) (h4 : ofE e = (⟨(a.vs.size : Int), []⟩, 0)) (h5 : smallB ⟨(a.vs.size : Int), []⟩ = true)
  | lenC (a : Ex) (h1 : e.op = 9) (h2 : e.args = [a]) (h3 : a.op = 2) (h0 : 0 ≤ a.ix) (h4 : ofE e = (⟨0, [⟨1, 1, a.ix, 0, []⟩]⟩, 0)) (h5 : smallB ⟨0, [⟨1, 1, a.ix, 0, []⟩]⟩ = true)
  | neg (a : Ex) (h1 : e.op = 3) (h2 : e.args = [a]) (h3 : (ofE a).2 = 0) (h4 : ofE e = scale (ofE a).1 (-1))
  | bin (a b : Ex) (h1 : 4 ≤ e.op ∧ e.op ≤ 8) (h2 : e.args = [a, b]) (h3 : (ofE a).2 = 0) (h4 : (ofE b).2 = 0) (h5 : ofE e = comb e.op (ofE a).1 (ofE b).1)
theorem okE_inv {e : Ex} (h : (ofE e).2 = 0) : OkE e := by
  have hE := ofE_eq e
  rw [hE] at h
  unfold stepE at h hE
  by_cases h1 : e.op = 1 ∨ e.op = 2 ∨ e.op = 9
  · rw [if_pos h1] at h hE
    unfold leafE at h hE
    by_cases h9 : e.op = 9
    · rw [if_pos h9] at h hE
      cases ha : e.args with
      | nil => rw [ha] at h; exact absurd h (opsR_ne _)
      | cons a r =>
        cases r with
        | cons b s => rw [ha] at h; exact absurd h (opsR_ne _)
        | nil =>
          rw [ha] at h hE
          simp only [lenL, lenE] at h hE
          by_cases k1 : 0 < a.args.length
          · rw [if_pos k1] at h; exact absurd h (opsR_ne _)
          · rw [if_neg k1] at h hE
            by_cases k2 : a.op = 1 ∧ a.vk = 2
            · rw [if_pos k2] at h hE
              obtain ⟨l1, l2⟩ := lim_ok h
              exact .lenT a h9 ha k2.1 (hE.trans l1) l2
            · rw [if_neg k2] at h hE
              by_cases k3 : a.op = 2 ∧ 0 ≤ a.ix
              · rw [if_pos k3] at h hE
                obtain ⟨l1, l2⟩ := lim_ok h
                exact .lenC a h9 ha k3.1 k3.2 (hE.trans l1) l2
              · rw [if_neg k3] at h; exact absurd h (opsR_ne _)
    · rw [if_neg h9] at h hE
      by_cases k1 : 0 < e.args.length
      · rw [if_pos k1] at h; exact absurd h (opsR_ne _)
      · rw [if_neg k1] at h hE
        by_cases k2 : e.op = 1 ∧ e.vk = 1
        · rw [if_pos k2] at h hE
          obtain ⟨l1, l2⟩ := lim_ok h
          exact .lit k2.1 k2.2 (hE.trans l1) l2
        · rw [if_neg k2] at h hE
          by_cases k3 : e.op = 2 ∧ 0 ≤ e.ix
          · rw [if_pos k3] at h hE
            obtain ⟨l1, l2⟩ := lim_ok h
            exact .col k3.1 k3.2 (hE.trans l1) l2
          · rw [if_neg k3] at h; cases h
  · rw [if_neg h1] at h hE
    by_cases h3 : e.op = 3
    · rw [if_pos h3] at h hE
      cases ha : e.args with
      | nil => rw [ha] at h; exact absurd h (opsR_ne _)
      | cons a r =>
        cases r with
        | cons b s => rw [ha] at h; exact absurd h (opsR_ne _)
        | nil =>
          rw [ha] at h hE
          simp only [qL, List.map_nil, unR] at h hE
          by_cases k1 : (ofE a).2 ≠ 0
          · rw [if_pos k1] at h; exact absurd h k1
          · rw [if_neg k1] at hE
            exact .neg a h3 ha (qY.1 k1) hE
    · rw [if_neg h3] at h hE
      by_cases h4 : e.op = 4 ∨ e.op = 5 ∨ e.op = 6 ∨ e.op = 7 ∨ e.op = 8
      · rw [if_pos h4] at h hE
        cases ha : e.args with
        | nil => rw [ha] at h; exact absurd h (opsR_ne _)
        | cons a r =>
          cases r with
          | nil => rw [ha] at h; exact absurd h (opsR_ne _)
          | cons b s =>
            cases s with
            | cons _ _ => rw [ha] at h; exact absurd h (opsR_ne _)
            | nil =>
              rw [ha] at h hE
              simp only [qL, List.map_nil, binR] at h hE
              by_cases k1 : (ofE a).2 ≠ 0
              · rw [if_pos k1] at h; exact absurd h k1
              · rw [if_neg k1] at h hE
                by_cases k2 : (ofE b).2 ≠ 0
                · rw [if_pos k2] at h; exact absurd h k2
                · rw [if_neg k2] at hE
                  exact .bin a b (by omega) ha (qY.1 k1) (qY.1 k2) hE
      · rw [if_neg h4] at h; exact absurd h (opsR_ne _)
inductive OkC (op : Int) (a b : Tm) : Prop
  | add (h1 : op = 4) (h2 : comb op a b = W.add a b)
  | sub (h1 : op = 5) (h3 : (scale b (-1)).2 = 0) (h2 : comb op a b = W.add a (scale b (-1)).1)
  | mulL (h1 : op = 6) (h3 : a.ps = []) (h2 : comb op a b = scale b a.c)
  | mulR (h1 : op = 6) (h3 : b.ps = []) (h2 : comb op a b = scale a b.c)
  | div (h1 : op = 7) (h3 : b.ps = []) (h4 : 1 ≤ b.c ∧ b.c ≤ 1000) (h5 : (W.div a b.c).2 = 0) (h2 : comb op a b = W.div a b.c)
  | mod (h1 : op = 8) (h3 : b.ps = []) (h4 : 1 ≤ b.c ∧ b.c ≤ 1000) (h5 : (W.div a b.c).2 = 0) (h6 : (scale (W.div a b.c).1 (-b.c)).2 = 0) (h2 : comb op a b = W.add a (scale (W.div a b.c).1 (-b.c)).1)
theorem ps_nil {t : Tm} (h : t.ps.length = 0) : t.ps = [] := List.eq_nil_of_length_eq_zero h
theorem comb_inv {op : Int} {a b : Tm} (ho : 4 ≤ op ∧ op ≤ 8) (h : (comb op a b).2 = 0) : OkC op a b := by
  have hE : comb op a b = comb op a b := rfl
  conv at hE => rhs; unfold comb
  unfold comb at h
  by_cases h4 : op = 4
  · rw [if_pos h4] at hE; exact .add h4 hE
  · rw [if_neg h4] at h hE
    by_cases h5 : op = 5
    · rw [if_pos h5] at h hE
      by_cases k : (scale b (-1)).2 ≠ 0
      · rw [if_pos k] at h; exact absurd h k
      · rw [if_neg k] at hE; exact .sub h5 (qY.1 k) hE
    · rw [if_neg h5] at h hE
      by_cases h6 : op = 6
      · rw [if_pos h6] at h hE
        by_cases k : a.ps.length = 0
        · rw [if_pos k] at hE; exact .mulL h6 (ps_nil k) hE
        · rw [if_neg k] at h hE
          by_cases k2 : b.ps.length = 0
          · rw [if_pos k2] at hE; exact .mulR h6 (ps_nil k2) hE
          · rw [if_neg k2] at h; cases h
      · rw [if_neg h6] at h hE
        by_cases k : 0 < b.ps.length ∨ b.c < 1 ∨ b.c > 1000
        · rw [if_pos k] at h; cases h
        · rw [if_neg k] at h hE
          have hb : b.ps = [] := ps_nil (by omega)
          by_cases k2 : (W.div a b.c).2 ≠ 0 ∨ op = 7
          · rw [if_pos k2] at h hE
            exact .div (by omega) hb (by omega) h hE
          · rw [if_neg k2] at h hE
            by_cases k3 : (scale (W.div a b.c).1 (-b.c)).2 ≠ 0
            · rw [if_pos k3] at h; exact absurd h k3
            · rw [if_neg k3] at hE
              exact .mod (by omega) hb (by omega) (by omega) (qY.1 k3) hE
theorem vld_c {n : Int} (h : smallB ⟨n, []⟩ = true) : vldT ⟨n, []⟩ = true := by
  rw [vldT_eq, h]; rfl
theorem vld_v {k v : Int} (hk : k = 0 ∨ k = 1) (hv : 0 ≤ v) (h : smallB ⟨0, [⟨1, k, v, 0, []⟩]⟩ = true) : vldT ⟨0, [⟨1, k, v, 0, []⟩]⟩ = true := by
  rw [vldT_eq, h]
  simp [vldPs, vldP, ascB, hk, hv]
theorem comb_vld {op : Int} {a b : Tm} (ho : 4 ≤ op ∧ op ≤ 8) (ha : vldT a = true) (hb : vldT b = true) (h : (comb op a b).2 = 0) : vldT (comb op a b).1 = true := by
  cases comb_inv ho h with
  | add h1 h2 => rw [h2]; exact sum_vld ha hb
  | sub h1 h3 h2 => rw [h2]; exact sum_vld ha (scale_vld' hb)
  | mulL h1 h3 h2 => rw [h2]; exact scale_vld' hb
  | mulR h1 h3 h2 => rw [h2]; exact scale_vld' ha
  | div h1 h3 h4 h5 h2 => rw [h2]; exact div_vld' ha
  | mod h1 h3 h4 h5 h6 h2 => rw [h2]; exact sum_vld ha (scale_vld' (div_vld' ha))
abbrev LM (t : Tm) (n m : Nat) : Prop := t.ps.length ≤ n ∧ mxPs t.ps ≤ m
theorem LM.up {t : Tm} {n m n' m' : Nat} (h : LM t n m) (h1 : n ≤ n') (h2 : m ≤ m') : LM t n' m' := ⟨by have := h.1; omega, by have := h.2; omega⟩
theorem LM0 (c : Int) (n m : Nat) : LM ⟨c, []⟩ n m := ⟨qZ _, qZ _⟩
theorem lim_LM {t : Tm} {n m : Nat} (h : LM t n m) : LM (lim t).1 n m := by
  unfold lim; split
  · exact h
  · exact LM0 _ _ _
theorem mx_map (n : Int) : ∀ l : List Pt, mxPs (l.map fun p => mulP p n) = mxPs l
  | [] => rfl
  | p :: r => by rw [qL, mxPs, mxPs, mx_map n r]; rw [Pt.cnt_eq, Pt.cnt_eq]; rfl
theorem scale_LM {t : Tm} {n m : Nat} (k : Int) (h : LM t n m) : LM (scale t k).1 n m := by
  unfold scale; split
  · exact LM0 _ _ _
  · refine lim_LM ⟨?_, ?_⟩
    · show (t.ps.map fun p => mulP p k).length ≤ n; rw [qA]; exact h.1
    · show mxPs (t.ps.map fun p => mulP p k) ≤ m; rw [mx_map]; exact h.2
theorem add_LM {a b : Tm} {n n' m m' : Nat} (ha : LM a n m) (hb : LM b n' m') : LM (add a b).1 (n + n') (max m m') := by
  refine lim_LM ?_
  have h := mrg_lm a.ps b.ps
  exact ⟨by show (mrg a.ps b.ps).length ≤ _; have := ha.1; have := hb.1; omega, by show mxPs (mrg a.ps b.ps) ≤ _; have := ha.2; have := hb.2; omega⟩
theorem div_LM {t : Tm} {b : Int} {n m : Nat} (h : LM t n m) : LM (div t b).1 (n + 1) (1 + n + m) ∧ (b = 1 → LM (div t b).1 n m ∧ ((div t b).2 = 0 → (div t b).1 = t)) ∧ (b ≠ 1 → LM (div t b).1 1 (1 + n + m)) := by
  have hc : t.cnt ≤ 1 + n + m := by
    rw [Tm.cnt_eq]; unfold cntPs; have := h.1; have := h.2; omega
  have hd : LM (lim (divT t b)).1 1 (1 + n + m) := lim_LM ⟨jA _, by show max (t.cnt + 0) 0 ≤ _; omega⟩
  have hup : LM t (n + 1) (1 + n + m) := h.up (by omega) (by omega)
  unfold div
  split
  · exact ⟨LM0 _ _ _, fun _ => ⟨LM0 _ _ _, fun k => by cases k⟩, fun _ => LM0 _ _ _⟩
  · split
    · rename_i h2
      exact ⟨hup, fun _ => ⟨h, fun _ => rfl⟩, fun k => by
        first
        | exact absurd h2 k
        | (rcases h2 with h2 | h2
           · exact absurd h2 k
           · exact ⟨by show t.ps.length ≤ 1; simp_all, by have := h.2; show mxPs t.ps ≤ _; omega⟩)⟩
    · rename_i h2
      split
      · exact ⟨LM0 _ _ _, fun k => by first | exact absurd k h2 | exact absurd (.inl k) h2, fun _ => LM0 _ _ _⟩
      · exact ⟨hd.up (by omega) (jA _), fun k => by first | exact absurd k h2 | exact absurd (.inl k) h2, fun _ => hd⟩
theorem cmpP_mulS (p : Pt) (n : Int) : cmpP p (mulP p n) = 0 := by
  have h : cmpP p (mulP p n) = cmpP p p := by rw [cmpP_eq, cmpP_eq]; rfl
  rw [h]; have := cmpP_neg p p; omega
theorem mrg_neg : ∀ l : List Pt, mrg l (l.map fun p => mulP p (-1)) = []
  | [] => by rw [List.map_nil]; simp [mrg]
  | p :: r => by
    rw [qL, mrg, cmpP_mulS, if_neg (by omega), if_neg (by omega), mrg_neg r]
    unfold nzc
    rw [if_neg]
    show ¬ (p.coef * -1 + p.coef ≠ 0)
    omega
theorem comb_LM {op : Int} {a b : Tm} {n n' m m' N : Nat} (ho : 4 ≤ op ∧ op ≤ 8) (ha : LM a n m) (hb : LM b n' m') (hn : n ≤ N) (hb1 : 1 ≤ n') (h : (comb op a b).2 = 0) : LM (comb op a b).1 (n + n') (max m m' + (N + 1)) := by
  cases comb_inv ho h with
  | add h1 h2 => rw [h2]; exact (add_LM ha hb).up (jA _) (by omega)
  | sub h1 h3 h2 => rw [h2]; exact (add_LM ha (scale_LM (-1) hb)).up (jA _) (by omega)
  | mulL h1 h3 h2 => rw [h2]; exact (scale_LM a.c hb).up (by omega) (by omega)
  | mulR h1 h3 h2 => rw [h2]; exact (scale_LM b.c ha).up (by omega) (by omega)
  | div h1 h3 h4 h5 h2 => rw [h2]; exact (div_LM ha).1.up (by omega) (by omega)
  | mod h1 h3 h4 h5 h6 h2 =>
    rw [h2]
    by_cases k1 : b.c = 1
    · have e1 := ((div_LM (b := b.c) ha).2.1 k1).2 h5
      rw [e1, k1] at h6 ⊢
      have e2 : scale a (-1) = lim (mulT a (-1)) := by unfold scale; rw [if_neg (by decide)]
      rw [e2] at h6 ⊢
      have e3 := (lim_ok h6).1
      rw [e3]
      unfold add
      refine lim_LM ⟨?_, ?_⟩
      · show (mrg a.ps (a.ps.map fun p => mulP p (-1))).length ≤ _; rw [mrg_neg]; exact qZ _
      · show mxPs (mrg a.ps (a.ps.map fun p => mulP p (-1))) ≤ _; rw [mrg_neg]; exact qZ _
    · have k2 := (div_LM (b := b.c) ha).2.2 k1
      exact (add_LM ha (scale_LM (-b.c) k2)).up (by omega) (by omega)
mutual
def szE : Ex → Nat
  | .mk _ _ _ _ _ _ _ xs => 1 + szS xs
def szS : List Ex → Nat
  | [] => 0
  | e :: r => szE e + szS r
end
mutual
def dpE : Ex → Nat
  | .mk _ _ _ _ _ _ _ xs => 1 + dpS xs
def dpS : List Ex → Nat
  | [] => 0
  | e :: r => max (dpE e) (dpS r)
end
theorem szE_eq (e : Ex) : szE e = 1 + szS e.args := by cases e; rw [szE]
theorem dpE_eq (e : Ex) : dpE e = 1 + dpS e.args := by cases e; rw [dpE]
theorem sz_mem {l : List Ex} {a : Ex} (h : a ∈ l) : szE a ≤ szS l := by
  induction l with
  | nil => cases h
  | cons x r ih =>
    rw [szS]
    rcases jD.1 h with rfl | h
    · omega
    · have := ih h; omega
theorem dp_mem {l : List Ex} {a : Ex} (h : a ∈ l) : dpE a ≤ dpS l := by
  induction l with
  | nil => cases h
  | cons x r ih =>
    rw [dpS]
    rcases jD.1 h with rfl | h
    · omega
    · have := ih h; omega
theorem of_gd (N : Nat) (e : Ex) : szE e ≤ N → (ofE e).2 = 0 → vldT (ofE e).1 = true ∧ LM (ofE e).1 (szE e) (dpE e * (N + 1)) := by
  induction e using Ex.ind with
  | h e ih =>
    intro hN h
    have hs := szE_eq e
    have hd := dpE_eq e
    have v1 : ∀ k v : Int, LM ⟨0, [⟨1, k, v, 0, []⟩]⟩ (szE e) (dpE e * (N + 1)) := fun k v => ⟨by show 1 ≤ _; omega, by show max 0 0 ≤ _; omega⟩
    cases okE_inv h with
    | lit h1 h2 h3 h4 => rw [h3]; exact ⟨vld_c h4, LM0 _ _ _⟩
    | col h1 h2 h3 h4 => rw [h3]; exact ⟨vld_v (.inl rfl) h2 h4, v1 _ _⟩
    | lenT a h1 h2 h3 h4 h5 => rw [h4]; exact ⟨vld_c h5, LM0 _ _ _⟩
    | lenC a h1 h2 h3 h0 h4 h5 => rw [h4]; exact ⟨vld_v (.inr rfl) h0 h5, v1 _ _⟩
    | neg a h1 h2 h3 h4 =>
      rw [h4]
      have k1 := sz_mem (show a ∈ e.args by rw [h2]; simp)
      have k2 := dp_mem (show a ∈ e.args by rw [h2]; simp)
      obtain ⟨i1, i2⟩ := ih a (by rw [h2]; simp) (by omega) h3
      have k3 : dpE a * (N + 1) ≤ dpE e * (N + 1) := Nat.mul_le_mul_right _ (by omega)
      exact ⟨scale_vld' i1, scale_LM _ (i2.up (by omega) k3)⟩
    | bin a b h1 h2 h3 h4 h5 =>
      rw [h5] at h ⊢
      have ma : a ∈ e.args := by rw [h2]; simp
      have mb : b ∈ e.args := by rw [h2]; simp
      have k1 := sz_mem ma
      have k1' := sz_mem mb
      have k2 := dp_mem ma
      have k2' := dp_mem mb
      obtain ⟨i1, i2⟩ := ih a ma (by omega) h3
      obtain ⟨j1, j2⟩ := ih b mb (by omega) h4
      have ks : szE e = 1 + (szE a + szE b) := by rw [hs, h2]; simp [szS]
      have k3 : (dpE a + 1) * (N + 1) ≤ dpE e * (N + 1) := Nat.mul_le_mul_right _ (by omega)
      have k4 : (dpE b + 1) * (N + 1) ≤ dpE e * (N + 1) := Nat.mul_le_mul_right _ (by omega)
      rw [Nat.add_mul] at k3 k4
      exact ⟨comb_vld h1 i1 j1 h, (comb_LM (N := N) h1 i2 j2 (by omega) (by rw [szE_eq]; omega) h).up (by omega) (by omega)⟩
theorem gd_of {e : Ex} (h1 : szE e ≤ 400) (h2 : dpE e ≤ 51) : gd (ofE e) := fun h => by
  obtain ⟨k1, k2⟩ := of_gd 400 e h1 h
  refine ⟨k1, ?_⟩
  rw [Tm.cnt_eq]; unfold cntPs
  have := k2.1; have := k2.2
  have : dpE e * (400 + 1) ≤ 51 * 401 := Nat.mul_le_mul_right _ h2
  omega
mutual
def rgX : Ex → Prop
  | .mk _ _ _ _ _ vn vs args => (R64 vn ∧ vs.size ≤ 1152921504606846976 ∧ args.length ≤ 1000000) ∧ rgXs args
def rgXs : List Ex → Prop
  | [] => True
  | a :: r => rgX a ∧ rgXs r
end
theorem rgXs_iff : ∀ {l : List Ex}, rgXs l ↔ ∀ a ∈ l, rgX a
  | [] => by simp [rgXs]
  | a :: r => by rw [rgXs, rgXs_iff]; simp
theorem rgX_iff (e : Ex) : rgX e ↔ (R64 e.vn ∧ e.vs.size ≤ 1152921504606846976 ∧ e.args.length ≤ 1000000) ∧ ∀ a ∈ e.args, rgX a := by cases e; rw [rgX, rgXs_iff]
theorem okE_of (e : Ex) : rgX e → szE e ≤ 400 → dpE e ≤ 51 → okE e := by
  induction e using Ex.ind with
  | h e ih =>
    intro hr h1 h2
    have hr' := (rgX_iff e).1 hr
    have k1 := szE_eq e
    have k2 := dpE_eq e
    cases e with | mk op tb nm ix vk vn vs args =>
    simp only [okE, okEs_iff]
    refine ⟨⟨hr'.1.1, hr'.1.2.2⟩, fun a ha => ?_⟩
    have k4 := sz_mem ha
    have k5 := dp_mem ha
    simp only [Ex.args] at k1 k2
    have h3 := hr'.2 a ha
    exact ⟨ih a ha h3 (by omega) (by omega), gd_of (by omega) (by omega), ((rgX_iff a).1 h3).1.2.1⟩
end Go.Proofs.YtgnnjebfoffphaaGreatDoor.W
