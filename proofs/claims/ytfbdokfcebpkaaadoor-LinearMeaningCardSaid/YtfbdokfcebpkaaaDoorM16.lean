/- Parts of the proof, one after the other: W28, W29, W30, W31, W32, W33, W34, W35, W36, W37, W38, R3, W39. No condition. -/
import Derived.Test.YtfbdokfcebpkaaaDoorM15
namespace Go.Proofs.YtfbdokfcebpkaaaDoor.W
open Go.RowKit E M
set_option linter.unusedVariables false
set_option linter.unusedSimpArgs false
set_option linter.unusedSectionVars false

def timesI (a n : Int) : Int := if a.natAbs * n.natAbs ≤ 2 ^ 60 then a * n else 2 ^ 60
end Go.Proofs.YtfbdokfcebpkaaaDoor.W
namespace Go.Proofs.YtfbdokfcebpkaaaDoor.W
open Go.RowKit E M
set_option linter.unusedVariables false
set_option linter.unusedSimpArgs false
set_option linter.unusedSectionVars false
def mulR (p : Pt) (n : Int) : Pt := ⟨timesI p.coef n, p.kind, p.var, p.dv, p.of⟩
end Go.Proofs.YtfbdokfcebpkaaaDoor.W
namespace Go.Proofs.YtfbdokfcebpkaaaDoor.W
open Go.RowKit E M
set_option linter.unusedVariables false
set_option linter.unusedSimpArgs false
set_option linter.unusedSectionVars false
/-- equal but for the wrap -/
def md (a b : Int) : Prop := ∃ k : Int, a = b + k * 18446744073709551616
theorem md.rfl' (a : Int) : md a a := ⟨0, by omega⟩
theorem md.symm {a b : Int} (h : md a b) : md b a := by obtain ⟨k, h⟩ := h; exact ⟨-k, by omega⟩
theorem md.trans {a b c : Int} (h : md a b) (h' : md b c) : md a c := by obtain ⟨k, h⟩ := h; obtain ⟨j, h'⟩ := h'; exact ⟨k + j, by omega⟩
theorem md.add {a b c d : Int} (h : md a b) (h' : md c d) : md (a + c) (b + d) := by obtain ⟨k, h⟩ := h; obtain ⟨j, h'⟩ := h'; exact ⟨k + j, by omega⟩
theorem md.mul {a b : Int} (h : md a b) (n : Int) : md (a * n) (b * n) := by obtain ⟨k, h⟩ := h; exact ⟨k * n, by subst h; grind⟩
theorem md_w (a : Int) : md (w a) a := by
  refine ⟨-((a + 9223372036854775808) / 18446744073709551616), ?_⟩
  show IntKind.i64.wrap a = _
  rw [IntKind.wrap_i64]; omega
theorem md_eq {a b : Int} (ha : R64 a) (hb : R64 b) (h : md a b) : a = b := by
  obtain ⟨k, h⟩ := h
  obtain ⟨h1, h2⟩ := ha
  obtain ⟨h3, h4⟩ := hb
  omega
theorem w_md {a b : Int} (h : md a b) : w a = w b := md_eq (w_R a) (w_R b) ((md_w a).trans (h.trans (md_w b).symm))
theorem w_eq {a : Int} (h : R64 a) : w a = a := md_eq (w_R a) h (md_w a)
def sumV (r : List RV) : List Pt → Int
  | [] => 0
  | p :: l => p.coef * (valP r p).1 + sumV r l
theorem valPs_sum (r : List RV) : ∀ (l : List Pt) (s : Int), R64 s → ((∀ p ∈ l, (valP r p).2 = true) → valPs r l s = (w (s + sumV r l), true)) ∧ (¬ (∀ p ∈ l, (valP r p).2 = true) → valPs r l s = (0, false))
  | [], s, h => by
    refine ⟨fun _ => ?_, fun h => absurd (by simp) h⟩
    rw [valPs, sumV, Int.add_zero, w_eq h]
  | p :: l, s, h => by
    obtain ⟨h1, h2⟩ := valPs_sum r l (w (s + w (p.coef * (valP r p).1))) (w_R _)
    rw [valPs, sumV]
    refine ⟨fun hp => ?_, fun hp => ?_⟩
    · rw [if_pos (hp p (by simp)), h1 fun q hq => hp q (by simp [hq])]
      refine congrArg (fun x => (x, true)) (w_md ?_)
      have e1 := ((md_w (s + w (p.coef * (valP r p).1))).trans ((md.rfl' s).add (md_w _))).add (md.rfl' (sumV r l))
      have e2 : s + p.coef * (valP r p).1 + sumV r l = s + (p.coef * (valP r p).1 + sumV r l) := by omega
      rw [← e2]; exact e1
    · split
      · rename_i hq
        exact h2 fun hh => hp fun q hq' => (List.mem_cons.1 hq').elim (fun e => e ▸ hq) (hh q)
      · rfl
theorem valT_sum {r : List RV} {t : Tm} (h : R64 t.c) (hp : ∀ p ∈ t.ps, (valP r p).2 = true) : valT r t = (w (t.c + sumV r t.ps), true) := by
  rw [valT_eq]; exact (valPs_sum r t.ps t.c h).1 hp
theorem valT_ok {r : List RV} {t : Tm} (h : R64 t.c) (hv : (valT r t).2 = true) : ∀ p ∈ t.ps, (valP r p).2 = true := by
  refine Classical.not_not.1 fun hn => ?_
  rw [valT_eq, (valPs_sum r t.ps t.c h).2 hn] at hv; cases hv
theorem valP_mul (r : List RV) (p : Pt) (n : Int) : valP r (mulP p n) = valP r p := by rw [valP_eq, valP_eq]; rfl
theorem sumV_mul (r : List RV) (n : Int) : ∀ l : List Pt, sumV r (l.map fun p => mulP p n) = sumV r l * n
  | [] => by simp [sumV]
  | p :: l => by
    rw [List.map_cons, sumV, sumV, sumV_mul r n l, valP_mul, Int.add_mul]
    show p.coef * n * (valP r p).1 + _ = _
    rw [Int.mul_right_comm]
theorem scale_val {r : List RV} {t : Tm} {n : Int} (h : vldT t = true) (hs : (scale t n).2 = 0) (hv : (valT r t).2 = true) : valT r (scale t n).1 = (w ((valT r t).1 * n), true) := by
  have hc := (vldT_bok h).c
  have hp := valT_ok hc hv
  unfold scale at hs ⊢
  by_cases hn : n = 0
  · subst hn
    rw [if_pos rfl, valT_eq, Int.mul_zero, w_eq (by decide)]; rfl
  · rw [if_neg hn] at hs ⊢
    obtain ⟨h1, h2⟩ := lim_ok hs
    rw [h1, valT_sum hc hp]
    have hm : R64 (mulT t n).c := by
      have := (smallB_iff.1 h2).1
      show -9223372036854775808 ≤ (mulT t n).c ∧ (mulT t n).c ≤ 9223372036854775807
      omega
    rw [valT_sum hm (fun p hp' => by
      obtain ⟨q, hq, rfl⟩ := List.mem_map.1 hp'
      rw [valP_mul]; exact hp q hq)]
    refine congrArg (fun x => (x, true)) (w_md ?_)
    show md (t.c * n + sumV r (t.ps.map fun p => mulP p n)) _
    rw [sumV_mul, ← Int.add_mul]
    exact ((md_w _).mul n).symm
theorem div_val {r : List RV} {t : Tm} {b : Int} (h : vldT t = true) (hs : (div t b).2 = 0) (hv : (valT r t).2 = true) : 1 ≤ b ∧ valT r (div t b).1 = ((valT r t).1 / b, true) := by
  have hc := (vldT_bok h).c
  have hR := valT_R (r := r) hc
  unfold div at hs ⊢
  split at hs
  · cases hs
  · rename_i h1
    refine ⟨by omega, ?_⟩
    rw [if_neg h1]
    split at hs
    · rename_i h2
      rw [if_pos h2, h2, Int.ediv_one, ← hv]
    · rename_i h2
      rw [if_neg h2]
      split at hs
      · rename_i h3
        rw [if_pos h3]
        have hps : t.ps = [] := List.length_eq_zero_iff.1 (by omega)
        rw [valT_eq, valT_eq, hps, valPs, valPs]
      · rename_i h3
        rw [if_neg h3]
        obtain ⟨e1, e2⟩ := lim_ok hs
        rw [e1, valT_eq, valPs, valPs]
        have e : valP r ⟨1, 2, 0, b, [t]⟩ = ((valT r t).1 / b, true) := by
          rw [valP_eq, if_pos rfl, valO, if_pos hv]
        rw [e, if_pos rfl]
        refine congrArg (fun x => (x, true)) ?_
        show w (0 + w (1 * ((valT r t).1 / b))) = _
        have hd : R64 ((valT r t).1 / b) := by
          have hb0 : 0 < b := by omega
          have h7 : -9223372036854775808 ≤ (valT r t).1 / b := (Int.le_ediv_iff_mul_le hb0).2 (by have := hR.1; omega)
          have h8 : (valT r t).1 / b ≤ 9223372036854775807 := Int.ediv_le_of_le_mul hb0 (by have := hR.2; omega)
          exact ⟨h7, h8⟩
        rw [Int.one_mul, Int.zero_add, w_eq hd, w_eq hd]
theorem scale_vld' {t : Tm} {n : Int} (h : vldT t = true) : vldT (scale t n).1 = true := by
  by_cases hs : (scale t n).2 = 0
  · exact scale_vld h hs
  · unfold scale at hs ⊢
    split at hs
    · rw [if_pos (by assumption)]; exact vld0
    · rw [if_neg (by assumption)]
      unfold lim at hs ⊢
      split at hs
      · exact absurd rfl hs
      · rw [if_neg (by assumption)]; exact vld0
theorem div_vld' {t : Tm} {b : Int} (h : vldT t = true) : vldT (div t b).1 = true := by
  by_cases hs : (div t b).2 = 0
  · exact div_vld h hs
  · unfold div at hs ⊢
    split at hs
    · rw [if_pos (by assumption)]; exact vld0
    · rw [if_neg (by assumption)]
      split at hs
      · exact absurd rfl hs
      · rw [if_neg (by assumption)]
        split at hs
        · exact absurd rfl hs
        · rw [if_neg (by assumption)]
          unfold lim at hs ⊢
          split at hs
          · exact absurd rfl hs
          · rw [if_neg (by assumption)]; exact vld0

end Go.Proofs.YtfbdokfcebpkaaaDoor.W
namespace Go.Proofs.YtfbdokfcebpkaaaDoor.W
open Go.RowKit E M
set_option linter.unusedVariables false
set_option linter.unusedSimpArgs false
set_option linter.unusedSectionVars false

end Go.Proofs.YtfbdokfcebpkaaaDoor.W
namespace Go.Proofs.YtfbdokfcebpkaaaDoor.W
open Go.RowKit E M
set_option linter.unusedVariables false
set_option linter.unusedSimpArgs false
set_option linter.unusedSectionVars false
theorem lex_zero {a b : Int} : lex a b = 0 ↔ a = 0 ∧ b = 0 := by unfold lex; split <;> omega
theorem cmpP_C (p q u : Pt) : C3 (cmpP p q) (cmpP q u) (cmpP p u) := by
  rw [cmpP_lex, cmpP_lex, cmpP_lex]
  exact (C3.ints _ _ _).lex ((C3.ints _ _ _).lex ((C3.ints _ _ _).lex (cmpO_C fun o _ b c => cmpT_C o b c)))
theorem cmpP_neg (p q : Pt) : cmpP q p = -cmpP p q := by
  rw [cmpP_lex, cmpP_lex, ints_neg p.kind, ints_neg p.var, ints_neg p.dv, cmpO_neg (fun o _ b => cmpT_neg o b), lex_neg, lex_neg, lex_neg]
/-- the same part, but for the coefficient -/
def eqv (p q : Pt) : Prop := p.kind = q.kind ∧ p.var = q.var ∧ p.dv = q.dv ∧ p.of = q.of
theorem one_list {l : List Tm} (h : l.length ≤ 1) : l = [] ∨ ∃ o, l = [o] := by
  match l, h with
  | [], _ => exact .inl rfl
  | [o], _ => exact .inr ⟨o, rfl⟩
theorem cmpP_zero' {p q : Pt} (hp : vldP p = true) (hq : vldP q = true) (ih : ∀ o ∈ p.of, ∀ b, vldT o = true → vldT b = true → cmpT o b = 0 → o = b) (h : cmpP p q = 0) : eqv p q := by
  rw [cmpP_lex, lex_zero, lex_zero, lex_zero, ints_zero, ints_zero, ints_zero] at h
  obtain ⟨h1, h2, h3, h4⟩ := h
  refine ⟨h1, h2, h3, ?_⟩
  have o1 := vldP_one hp
  have o2 := vldP_one hq
  rcases one_list o1.len with e1 | ⟨o, e1⟩ <;> rcases one_list o2.len with e2 | ⟨o', e2⟩
  · rw [e1, e2]
  · rw [e1, e2, cmpO] at h4; cases h4
  · rw [e1, e2, cmpO] at h4; cases h4
  · rw [e1, e2, cmpO] at h4
    rw [e1, e2, ih o (by rw [e1]; simp) o' (o1.sub o (by rw [e1]; simp)) (o2.sub o' (by rw [e2]; simp)) h4]
theorem cmpL_zero {l : List Pt} (hi : ∀ p ∈ l, vldP p = true ∧ ∀ o ∈ p.of, ∀ b, vldT o = true → vldT b = true → cmpT o b = 0 → o = b) : ∀ {m : List Pt} {e : Int}, (∀ q ∈ m, vldP q = true) → cmpL l m e = 0 → l = m ∧ e = 0 := by
  induction l with
  | nil =>
    intro m e hm h
    cases m with
    | nil => rw [cmpL] at h; exact ⟨rfl, h⟩
    | cons q s => rw [cmpL] at h; cases h
  | cons p r ih =>
    intro m e hm h
    cases m with
    | nil => rw [cmpL] at h; cases h
    | cons q s =>
      rw [cmpL_lex, lex_zero, lex_zero, ints_zero] at h
      obtain ⟨h1, h2, h3⟩ := h
      obtain ⟨k1, k2, k3, k4⟩ := cmpP_zero' (hi p (by simp)).1 (hm q (by simp)) (hi p (by simp)).2 h1
      obtain ⟨e1, e2⟩ := ih (fun x hx => hi x (by simp [hx])) (fun x hx => hm x (by simp [hx])) h3
      refine ⟨?_, e2⟩
      rw [e1]
      have : p = q := by cases p; cases q; simp_all
      rw [this]
theorem cmpT_zero (a : Tm) : ∀ b, vldT a = true → vldT b = true → cmpT a b = 0 → a = b := by
  induction a using Tm.ind with
  | h a ih =>
    intro b ha hb h
    rw [cmpT_eq] at h
    obtain ⟨h1, h2⟩ := cmpL_zero (fun p hp => ⟨vld_parts ha p hp, fun o ho b hv hv' h => ih p hp o ho b hv hv' h⟩) (vld_parts hb) h
    rw [ints_zero] at h2
    cases a; cases b; simp_all
theorem cmpP_zero {p q : Pt} (hp : vldP p = true) (hq : vldP q = true) (h : cmpP p q = 0) : eqv p q := cmpP_zero' hp hq (fun o _ b => cmpT_zero o b) h
abbrev av (l : List Pt) : Prop := ∀ p ∈ l, vldP p = true
theorem av.tl {p : Pt} {l : List Pt} (h : av (p :: l)) : av l := fun q hq => h q (by simp [hq])
theorem av.hd {p : Pt} {l : List Pt} (h : av (p :: l)) : vldP p = true := h p (by simp)
theorem vldP_nz {p : Pt} (h : vldP p = true) : p.coef ≠ 0 := fun e => by rw [vT0 e] at h; cases h
theorem nzc_yes {p : Pt} {l : List Pt} (h : p.coef ≠ 0) : nzc p l = p :: l := if_pos h
theorem mrg_nilL : ∀ {b : List Pt}, av b → mrg [] b = b
  | [], _ => by rw [mrg]
  | q :: s, h => by rw [mrg, nzc_yes (vldP_nz h.hd), mrg_nilL h.tl]
theorem mrg_nilR : ∀ {a : List Pt}, av a → mrg a [] = a
  | [], _ => by rw [mrg]
  | q :: s, h => by rw [mrg, nzc_yes (vldP_nz h.hd), mrg_nilR h.tl]
theorem vldP_addP {p q : Pt} (hq : vldP q = true) (hc : (addP p q).coef ≠ 0) : vldP (addP p q) = true := by
  rw [vldP_eq] at hq ⊢
  rw [show decide ((addP p q).coef ≠ 0) = true from decide_eq_true hc]
  simp only [Bool.and_eq_true] at hq
  exact hq.2
theorem mrg_av : ∀ {a b : List Pt}, av a → av b → av (mrg a b)
  | [], b, _, hb => by rw [mrg_nilL hb]; exact hb
  | x :: r, [], ha, _ => by rw [mrg_nilR ha]; exact ha
  | x :: r, y :: s, ha, hb => by
    intro p hp
    rw [mrg] at hp
    split at hp
    · rcases mem_nzc hp with rfl | hp
      · exact ha.hd
      · exact mrg_av ha.tl hb p hp
    · split at hp
      · rcases mem_nzc hp with rfl | hp
        · exact hb.hd
        · exact mrg_av ha hb.tl p hp
      · unfold nzc at hp
        split at hp
        · rename_i hc
          rcases List.mem_cons.1 hp with rfl | hp
          · exact vldP_addP hb.hd hc
          · exact mrg_av ha.tl hb.tl p hp
        · exact mrg_av ha.tl hb.tl p hp
termination_by a b => a.length + b.length
abbrev pw (l : List Pt) : Prop := l.Pairwise (fun p q => cmpP p q < 0)
theorem ascB_pw : ∀ {l : List Pt}, ascB l = true → pw l
  | [], _ => .nil
  | [p], _ => by simp [pw]
  | p :: q :: r, h => by
    simp only [ascB, Bool.and_eq_true, decide_eq_true_eq] at h
    have ih : pw (q :: r) := ascB_pw h.2
    refine List.pairwise_cons.2 ⟨fun u hu => ?_, ih⟩
    rcases List.mem_cons.1 hu with rfl | hu
    · exact h.1
    · exact (cmpP_C p q u).lt h.1 (by have := (List.pairwise_cons.1 ih).1 u hu; omega)
theorem pw_ascB : ∀ {l : List Pt}, pw l → ascB l = true
  | [], _ => rfl
  | [p], _ => rfl
  | p :: q :: r, h => by
    have h' := List.pairwise_cons.1 h
    simp only [ascB, Bool.and_eq_true, decide_eq_true_eq]
    exact ⟨h'.1 q (by simp), pw_ascB h'.2⟩
theorem pw_nzc {p : Pt} {l : List Pt} (h : pw l) (hp : ∀ q ∈ l, cmpP p q < 0) : pw (nzc p l) := by
  unfold nzc; split
  · exact List.pairwise_cons.2 ⟨hp, h⟩
  · exact h
theorem nzc_lo {u p : Pt} {l : List Pt} (h : ∀ q ∈ l, cmpP u q < 0) (hp : cmpP u p < 0) : ∀ q ∈ nzc p l, cmpP u q < 0 := fun q hq => by
  rcases mem_nzc hq with rfl | hq
  · exact hp
  · exact h q hq
theorem mrg_lo (u : Pt) : ∀ {a b : List Pt}, (∀ q ∈ a, cmpP u q < 0) → (∀ q ∈ b, cmpP u q < 0) → ∀ q ∈ mrg a b, cmpP u q < 0
  | [], [], _, _ => by rw [mrg]; simp
  | [], y :: s, ha, hb => by rw [mrg]; exact nzc_lo (mrg_lo u ha fun q hq => hb q (by simp [hq])) (hb y (by simp))
  | x :: r, [], ha, hb => by rw [mrg]; exact nzc_lo (mrg_lo u (fun q hq => ha q (by simp [hq])) hb) (ha x (by simp))
  | x :: r, y :: s, ha, hb => by
    have ha' : ∀ q ∈ r, cmpP u q < 0 := fun q hq => ha q (by simp [hq])
    have hb' : ∀ q ∈ s, cmpP u q < 0 := fun q hq => hb q (by simp [hq])
    rw [mrg]
    split
    · exact nzc_lo (mrg_lo u ha' hb) (ha x (by simp))
    · split
      · exact nzc_lo (mrg_lo u ha hb') (hb y (by simp))
      · refine nzc_lo (mrg_lo u ha' hb') ?_
        have e : cmpP u (addP x y) = cmpP u y := by rw [cmpP_eq, cmpP_eq]; rfl
        rw [e]; exact hb y (by simp)
termination_by a b => a.length + b.length
theorem mrg_pw : ∀ {a b : List Pt}, pw a → pw b → pw (mrg a b)
  | [], [], _, _ => by rw [mrg]; exact .nil
  | [], y :: s, ha, hb => by
    have h := List.pairwise_cons.1 hb
    rw [mrg]; exact pw_nzc (mrg_pw ha h.2) (mrg_lo y (by simp) h.1)
  | x :: r, [], ha, hb => by
    have h := List.pairwise_cons.1 ha
    rw [mrg]; exact pw_nzc (mrg_pw h.2 hb) (mrg_lo x h.1 (by simp))
  | x :: r, y :: s, ha, hb => by
    have h := List.pairwise_cons.1 ha
    have h' := List.pairwise_cons.1 hb
    rw [mrg]
    split
    · rename_i h0
      refine pw_nzc (mrg_pw h.2 hb) (mrg_lo x h.1 fun q hq => ?_)
      rcases List.mem_cons.1 hq with rfl | hq
      · exact h0
      · exact (cmpP_C x y q).lt h0 (by have := h'.1 q hq; omega)
    · split
      · rename_i h1
        have h1' : cmpP y x < 0 := by rw [cmpP_neg]; omega
        refine pw_nzc (mrg_pw ha h'.2) (mrg_lo y (fun q hq => ?_) h'.1)
        rcases List.mem_cons.1 hq with rfl | hq
        · exact h1'
        · exact (cmpP_C y x q).lt h1' (by have := h.1 q hq; omega)
      · have h1' : cmpP y x ≤ 0 := by rw [cmpP_neg]; omega
        have e : ∀ q, cmpP (addP x y) q = cmpP y q := fun q => by rw [cmpP_eq, cmpP_eq]; rfl
        refine pw_nzc (mrg_pw h.2 h'.2) (mrg_lo _ (fun q hq => ?_) fun q hq => by rw [e]; exact h'.1 q hq)
        rw [e]
        exact (cmpP_C y x q).tl h1' (h.1 q hq)
termination_by a b => a.length + b.length
theorem vld_pw {t : Tm} (h : vldT t = true) : pw t.ps := by
  rw [vldT_eq] at h
  simp only [Bool.and_eq_true] at h
  exact ascB_pw h.1.2
theorem sum_vld {a b : Tm} (ha : vldT a = true) (hb : vldT b = true) : vldT (lim (sumT a b)).1 = true := by
  unfold lim; split
  · rename_i hs
    rw [vldT_eq, hs, vldPs_iff.2 (mrg_av (vld_parts ha) (vld_parts hb)), pw_ascB (mrg_pw (vld_pw ha) (vld_pw hb))]; rfl
  · exact vld0
theorem valP_eqv (r : List RV) {p q : Pt} (h : eqv p q) : valP r p = valP r q := by
  obtain ⟨h1, h2, h3, h4⟩ := h
  rw [valP_eq, valP_eq, h1, h2, h3, h4]
theorem valP_addP (r : List RV) (p q : Pt) : valP r (addP p q) = valP r q := valP_eqv r ⟨rfl, rfl, rfl, rfl⟩
theorem sumV_nzc (r : List RV) (p : Pt) (l : List Pt) : sumV r (nzc p l) = p.coef * (valP r p).1 + sumV r l := by
  unfold nzc; split
  · rw [sumV]
  · rename_i h
    rw [Classical.not_not.1 h]; omega
theorem sumV_mrg (r : List RV) : ∀ {a b : List Pt}, av a → av b → sumV r (mrg a b) = sumV r a + sumV r b
  | [], b, _, hb => by rw [mrg_nilL hb, sumV]; omega
  | x :: l, [], ha, _ => by rw [mrg_nilR ha]; simp only [sumV]; omega
  | x :: l, y :: s, ha, hb => by
    rw [mrg]
    split
    · rw [sumV_nzc, sumV_mrg r ha.tl hb]; simp only [sumV]; omega
    · split
      · rw [sumV_nzc, sumV_mrg r ha hb.tl]; simp only [sumV]; omega
      · rw [sumV_nzc, sumV_mrg r ha.tl hb.tl, valP_addP]
        have e := valP_eqv r (cmpP_zero ha.hd hb.hd (by omega))
        simp only [sumV, e]
        show (y.coef + x.coef) * _ + _ = _
        rw [Int.add_mul]; omega
termination_by a b => a.length + b.length
theorem valP_mrg (r : List RV) {a b : List Pt} (ha : ∀ p ∈ a, p.coef.natAbs ≤ 2 ^ 20) (hb : ∀ p ∈ b, p.coef.natAbs ≤ 2 ^ 20) (va : ∀ p ∈ a, (valP r p).2 = true) (vb : ∀ p ∈ b, (valP r p).2 = true) : ∀ p ∈ mrg a b, (valP r p).2 = true := fun p hp => by
  obtain ⟨⟨q, hq, h1, h2, h3, h4⟩, _⟩ := mrg_mem a b ha hb p hp
  rw [valP_eqv r ⟨h1, h4, h2, h3⟩]
  exact (List.mem_append.1 hq).elim (va q) (vb q)
theorem add_val {r : List RV} {a b : Tm} (ha : vldT a = true) (hb : vldT b = true) (hs : (add a b).2 = 0) (va : (valT r a).2 = true) (vb : (valT r b).2 = true) : valT r (add a b).1 = (w ((valT r a).1 + (valT r b).1), true) := by
  have ca := (vldT_bok ha).c
  have cb := (vldT_bok hb).c
  have pa := valT_ok ca va
  have pb := valT_ok cb vb
  obtain ⟨h1, h2⟩ := lim_ok hs
  unfold add
  rw [h1, valT_sum ca pa, valT_sum cb pb]
  have hm : R64 (sumT a b).c := (sum_bok ha hb).1.c
  rw [valT_sum hm (valP_mrg r (vld_coef ha).2 (vld_coef hb).2 pa pb)]
  refine congrArg (fun x => (x, true)) (w_md ?_)
  show md (a.c + b.c + sumV r (mrg a.ps b.ps)) _
  rw [sumV_mrg r (vld_parts ha) (vld_parts hb)]
  have e : a.c + b.c + (sumV r a.ps + sumV r b.ps) = (a.c + sumV r a.ps) + (b.c + sumV r b.ps) := by omega
  rw [e]
  exact ((md_w _).add (md_w _)).symm

end Go.Proofs.YtfbdokfcebpkaaaDoor.W
namespace Go.Proofs.YtfbdokfcebpkaaaDoor.W
open Go.RowKit E M
set_option linter.unusedVariables false
set_option linter.unusedSimpArgs false
set_option linter.unusedSectionVars false
end Go.Proofs.YtfbdokfcebpkaaaDoor.W
namespace Go.Proofs.YtfbdokfcebpkaaaDoor.W
open Go.RowKit E M
set_option linter.unusedVariables false
set_option linter.unusedSimpArgs false
set_option linter.unusedSectionVars false
theorem add_cnt (a b : Tm) : (add a b).1.cnt ≤ a.cnt + b.cnt := by
  have h1 := lim_cnt' (t := sumT a b)
  have h2 := sum_cnt a b
  unfold add; omega
end Go.Proofs.YtfbdokfcebpkaaaDoor.W
namespace Go.Proofs.YtfbdokfcebpkaaaDoor.W
open Go.RowKit E M
set_option linter.unusedVariables false
set_option linter.unusedSimpArgs false
set_option linter.unusedSectionVars false
/-- the elements in order, each of them once -/
def dd (l : List Int) : List Int := Lib.compact (l.mergeSort fun x y => decide (x ≤ y))
/-! the columns of a term -/
mutual
def colT : Tm → List Int
  | .mk _ ps => colPs ps
def colPs : List Pt → List Int
  | [] => []
  | p :: r => colP p ++ colPs r
def colP : Pt → List Int
  | .mk _ k v _ of => if k = 2 then colO of else [v]
def colO : List Tm → List Int
  | [] => []
  | t :: _ => colT t
end
end Go.Proofs.YtfbdokfcebpkaaaDoor.W
namespace Go.Proofs.YtfbdokfcebpkaaaDoor.W
open Go.RowKit E M
set_option linter.unusedVariables false
set_option linter.unusedSimpArgs false
set_option linter.unusedSectionVars false
end Go.Proofs.YtfbdokfcebpkaaaDoor.W
namespace Go.Proofs.YtfbdokfcebpkaaaDoor.W
open Go.RowKit E M
set_option linter.unusedVariables false
set_option linter.unusedSimpArgs false
set_option linter.unusedSectionVars false
end Go.Proofs.YtfbdokfcebpkaaaDoor.W
namespace Go.Proofs.YtfbdokfcebpkaaaDoor.W
open Go.RowKit E M
set_option linter.unusedVariables false
set_option linter.unusedSimpArgs false
set_option linter.unusedSectionVars false
mutual
def Ex.siz : Ex → Nat
  | .mk _ _ _ _ _ _ _ args => 1 + sizEs args
def sizEs : List Ex → Nat
  | [] => 0
  | a :: r => a.siz + sizEs r
end
mutual
def Ex.mds : Ex → Nat
  | .mk op _ _ _ _ _ _ args => (if op = 8 then 1 else 0) + mdsEs args
def mdsEs : List Ex → Nat
  | [] => 0
  | a :: r => a.mds + mdsEs r
end
theorem siz_eq (e : Ex) : e.siz = 1 + sizEs e.args := by cases e; rw [Ex.siz]
theorem mds_eq (e : Ex) : e.mds = (if e.op = 8 then 1 else 0) + mdsEs e.args := by cases e; rw [Ex.mds]
theorem sizEs_app (a b : List Ex) : sizEs (a ++ b) = sizEs a + sizEs b := by
  induction a with
  | nil => simp [sizEs]
  | cons x r ih => simp only [List.cons_append, sizEs, ih]; omega
theorem mdsEs_app (a b : List Ex) : mdsEs (a ++ b) = mdsEs a + mdsEs b := by
  induction a with
  | nil => simp [mdsEs]
  | cons x r ih => simp only [List.cons_append, mdsEs, ih]; omega
theorem sizEs_take {l : List Ex} {i : Nat} (h : i < l.length) : sizEs (l.take (i + 1)) = sizEs (l.take i) + l[i].siz := by
  rw [List.take_succ_eq_append_getElem h, sizEs_app]; simp [sizEs]
theorem mdsEs_take {l : List Ex} {i : Nat} (h : i < l.length) : mdsEs (l.take (i + 1)) = mdsEs (l.take i) + l[i].mds := by
  rw [List.take_succ_eq_append_getElem h, mdsEs_app]; simp [mdsEs]
theorem sizEs_take_le (l : List Ex) (i : Nat) : sizEs (l.take i) ≤ sizEs l := by
  have h := sizEs_app (l.take i) (l.drop i)
  rw [List.take_append_drop] at h; omega
theorem mdsEs_take_le (l : List Ex) (i : Nat) : mdsEs (l.take i) ≤ mdsEs l := by
  have h := mdsEs_app (l.take i) (l.drop i)
  rw [List.take_append_drop] at h; omega
theorem siz_mem {a : Ex} : ∀ {l : List Ex}, a ∈ l → a.siz ≤ sizEs l
  | b :: r, h => by
    rcases List.mem_cons.1 h with rfl | h
    · simp only [sizEs]; omega
    · have := siz_mem h; simp only [sizEs]; omega
theorem mds_mem {a : Ex} : ∀ {l : List Ex}, a ∈ l → a.mds ≤ mdsEs l
  | b :: r, h => by
    rcases List.mem_cons.1 h with rfl | h
    · simp only [mdsEs]; omega
    · have := mds_mem h; simp only [mdsEs]; omega
theorem siz_pos (e : Ex) : 1 ≤ e.siz := by rw [siz_eq]; omega
theorem sizEs_len : ∀ l : List Ex, l.length ≤ sizEs l
  | [] => by simp [sizEs]
  | a :: r => by have := sizEs_len r; have := siz_pos a; simp only [sizEs, List.length_cons]; omega
theorem mds_le : ∀ e : Ex, e.mds ≤ e.siz := by
  intro e
  induction e using Ex.ind with
  | h e ih =>
    have key : ∀ l : List Ex, (∀ a ∈ l, a.mds ≤ a.siz) → mdsEs l ≤ sizEs l := by
      intro l
      induction l with
      | nil => intro _; simp [mdsEs, sizEs]
      | cons a r ihr => intro h; have := h a (by simp); have := ihr fun b hb => h b (by simp [hb]); simp only [mdsEs, sizEs]; omega
    have := key e.args ih
    rw [mds_eq, siz_eq]; split <;> omega
mutual
/-- what data out of memory is known to be: numbers in range, lists and texts that fit -/
def rgE' : Ex → Prop
  | .mk _ _ _ ix _ vn vs args => (R64 ix ∧ R64 vn ∧ vs.size ≤ 1152921504606846976 ∧ args.length ≤ 1000000000000000000) ∧ rgEs args
def rgEs : List Ex → Prop
  | [] => True
  | a :: r => rgE' a ∧ rgEs r
end
theorem rgEs_iff {l : List Ex} : rgEs l ↔ ∀ a ∈ l, rgE' a := by
  induction l with
  | nil => simp [rgEs]
  | cons a r ih => simp [rgEs, ih]
theorem rgE_eq (e : Ex) : rgE' e ↔ (R64 e.ix ∧ R64 e.vn ∧ e.vs.size ≤ 1152921504606846976 ∧ e.args.length ≤ 1000000000000000000) ∧ ∀ a ∈ e.args, rgE' a := by
  cases e; simp only [rgE', rgEs_iff]

set_option maxRecDepth 20000 in
theorem size_of (e : Ex) (L : Nat) (hL : L ≤ 100000) (hr : rgE' e) (ih : ∀ a ∈ e.args, ∀ M : Nat, M ≤ L → Pure Tryd.prog 60 [exC a, iC (M : Int)] (.c (iC ((min a.siz (M + 1) : Nat) : Int)))) : Pure Tryd.prog 60 [exC e, iC (L : Int)] (.c (iC ((min e.siz (L + 1) : Nat) : Int))) := by
  intro H
  refine Spec.enter Tryd.func60 rfl ?_
  refine AW.wk (Wk.keep 31 [(0, .c (exC e)), (1, .c (iC (L : Int)))] [] (H) rfl ⟨rfl, rfl, trivial⟩ trivial (fun _ _ h => h) rfl) ?_
  refine AW.seq ?_
  refine AW.reg ?_
  refine SeqK.r (b_box (r := [_, _, _, _, _, _, _, _]) rfl rfl rfl rfl rfl rfl) rfl ?_
  refine SeqK.q (q_asC rfl rfl) rfl rfl rfl ?_
  refine SeqK.nil ?_
  refine AW.seq ?_
  have hlt := ((rgE_eq e).1 hr).1.2.2.2
  have hct := siz_eq e
  refine AW.reg ?_
  refine SeqK.q (q_asC rfl rfl) rfl rfl rfl ?_
  refine SeqK.nil ?_
  refine AW.seq ?_
  refine AW.seq ?_
  refine AW.reg ?_
  refine SeqK.q (q_asC rfl rfl) rfl rfl rfl ?_
  refine SeqK.nil ?_
  refine AW.block ?_
  refine AW.wk (Wk.keep 31 [(1, .c (iC (L : Int))), (2, .lp 2 0), (4, .c (iC 0)), (5, iX .i64 ((min (1 + sizEs (e.args.take 0)) (L + 1) : Nat) : Int)), (6, iX .i64 ((0 : Nat) : Int))] [(2, .box [.t (.v (.int .i64 e.op)), .t (.v (.string e.tb)), .t (.v (.string e.nm)), .t (.v (.int .i64 e.ix)), .t (.v (.int .i64 e.vk)), .t (.v (.int .i64 e.vn)), .t (.v (.string e.vs)), .t (.sl .un 8 (e.args.map exT'))])] (H) rfl ⟨rfl, rfl, rfl, iXe (by first | (simp [sizEs]; done) | (simp [sizEs]; omega)), rfl, trivial⟩ ⟨rfl, trivial⟩ (fun _ _ h => h) rfl) ?_
  refine AW.loop (fun (i : Nat) s => (i ≤ e.args.length) ∧ s = ⟨31, sp [(1, .c (iC (L : Int))), (2, .lp 2 0), (4, .c (iC 0)), (5, iX .i64 ((min (1 + sizEs (e.args.take i)) (L + 1) : Nat) : Int)), (6, iX .i64 ((i : Nat) : Int))], lv [(2, .box [.t (.v (.int .i64 e.op)), .t (.v (.string e.tb)), .t (.v (.string e.nm)), .t (.v (.int .i64 e.ix)), .t (.v (.int .i64 e.vk)), .t (.v (.int .i64 e.vn)), .t (.v (.string e.vs)), .t (.sl .un 8 (e.args.map exT'))])], H⟩) (fun i => e.args.length - i) 0 ⟨_, Wk.keep 31 [(1, .c (iC (L : Int))), (2, .lp 2 0), (4, .c (iC 0)), (5, iX .i64 ((min (1 + sizEs (e.args.take ((0 : Nat)))) (L + 1) : Nat) : Int)), (6, iX .i64 ((((0 : Nat)) : Nat) : Int))] [(2, .box [.t (.v (.int .i64 e.op)), .t (.v (.string e.tb)), .t (.v (.string e.nm)), .t (.v (.int .i64 e.ix)), .t (.v (.int .i64 e.vk)), .t (.v (.int .i64 e.vn)), .t (.v (.string e.vs)), .t (.sl .un 8 (e.args.map exT'))])] (H) rfl ⟨rfl, rfl, rfl, rfl, rfl, trivial⟩ ⟨rfl, trivial⟩ (fun _ _ h => h) rfl, Nat.zero_le _, rfl⟩ (fun i s hs => ?_)
  obtain ⟨hi0, rfl⟩ := hs
  refine AW.seq ?_
  refine AW.seq ?_
  refine AW.reg ?_
  refine SeqK.q (q_mvC rfl rfl) rfl rfl rfl ?_
  refine SeqK.q (q_fieldL _ rfl Fx.fl36_5 rfl rfl) rfl rfl rfl ?_
  refine SeqK.r (b_load (r := .a _) rfl Fx.ty34 rfl rfl rfl rfl rfl rfl) rfl ?_
  refine SeqK.q (q_len rfl Fx.un34 rfl) rfl rfl rfl ?_
  refine SeqK.q (q_lss rfl rfl rfl) rfl rfl rfl ?_
  refine SeqK.qD (q_mvC rfl rfl) rfl rfl rfl (fun g12 => ?_) (fun g12 => ?_)
  ·
    have hi : i < e.args.length := by rw [List.length_map] at g12; omega
    have hct1 := sizEs_take hi
    refine SeqK.on (q_mvC rfl rfl) rfl rfl rfl rfl rfl ?_
    refine SeqK.on (q_mvC rfl rfl) rfl rfl rfl rfl rfl ?_
    refine SeqK.on (q_leq rfl rfl rfl) rfl rfl rfl rfl rfl ?_
    refine SeqK.q (q_pkT rfl rfl rfl) rfl rfl rfl ?_
    refine SeqK.nil ?_
    refine AW.condD rfl (fun h16 => ?_) (fun h16 => ?_)
    ·
      have hS : 1 + sizEs (e.args.take i) ≤ L := by omega
      refine AW.skip ?_
      refine AW.seq ?_
      refine AW.block ?_
      refine AW.reg ?_
      refine SeqK.q (q_mvC rfl rfl) rfl rfl rfl ?_
      refine SeqK.q (q_fieldL _ rfl Fx.fl36_5 rfl rfl) rfl rfl rfl ?_
      refine SeqK.r (b_load (r := .a _) rfl Fx.ty34 rfl rfl rfl rfl rfl rfl) rfl ?_
      refine SeqK.q (q_mvC rfl rfl) rfl rfl rfl ?_
      refine SeqK.q (q_index _ rfl Fx.sl34 rfl rfl (by omega) (idx_ex hi)) rfl rfl rfl ?_
      refine SeqK.q (q_load (.g [_, _, _, _, _, _, _, _]) rfl Fx.ty36 rfl rfl rfl) rfl rfl rfl ?_
      refine SeqK.q (q_mvC rfl rfl) rfl rfl rfl ?_
      refine SeqK.q (q_mvC rfl rfl) rfl rfl rfl ?_
      refine SeqK.q (q_sub _ rfl rfl rfl ((by rw [w64 (by omega) (by omega)]; omega : IntKind.i64.wrap _ = ((L - (1 + sizEs (e.args.take i)) : Nat) : Int)))) rfl rfl rfl ?_
      refine SeqK.q (q_call _ rfl Fx.fn60 rfl (ih _ (List.getElem_mem hi) _ (by omega)) rfl) rfl rfl rfl ?_
      refine SeqK.q (q_add _ rfl rfl rfl ((by rw [w64 (by omega) (by omega)]; omega : IntKind.i64.wrap _ = ((min (1 + sizEs (e.args.take (i + 1))) (L + 1) : Nat) : Int)))) rfl rfl rfl ?_
      refine SeqK.q (q_asC rfl rfl) rfl rfl rfl ?_
      refine SeqK.nil ?_
      refine AW.reg ?_
      refine SeqK.q (q_mvC rfl rfl) rfl rfl rfl ?_
      refine SeqK.q (q_add _ rfl rfl rfl (w64 (by omega) (by omega))) rfl rfl rfl ?_
      refine SeqK.q (q_asC rfl rfl) rfl rfl rfl ?_
      refine SeqK.nil ?_
      exact ⟨i + 1, _, Wk.keep 31 [(1, .c (iC (L : Int))), (2, .lp 2 0), (4, .c (iC 0)), (5, iX .i64 ((min (1 + sizEs (e.args.take (i + 1))) (L + 1) : Nat) : Int)), (6, iX .i64 (((i + 1) : Nat) : Int))] [(2, .box [.t (.v (.int .i64 e.op)), .t (.v (.string e.tb)), .t (.v (.string e.nm)), .t (.v (.int .i64 e.ix)), .t (.v (.int .i64 e.vk)), .t (.v (.int .i64 e.vn)), .t (.v (.string e.vs)), .t (.sl .un 8 (e.args.map exT'))])] (H) rfl ⟨rfl, rfl, rfl, rfl, rfl, trivial⟩ ⟨rfl, trivial⟩ (fun _ _ h => h) rfl, by omega, hi, rfl⟩
    ·
      refine AW.exit ?_
      refine eth_e ?_
      refine eth_e ?_
      refine exit_here ?_
      refine AW.seq ?_
      refine AW.reg ?_
      refine SeqK.q (q_mvC rfl rfl) rfl rfl rfl ?_
      refine SeqK.q (q_asC rfl rfl) rfl rfl rfl ?_
      refine SeqK.nil ?_
      refine AW.ret ?_
      exact fin_x (x := .c _) (H) (.tmp rfl .nil) rfl (fun _ _ h => h) (⟨by rw [show min e.siz (L + 1) = min (1 + sizEs (e.args.take i)) (L + 1) by have := sizEs_take_le e.args i; first | (have hil : i = e.args.length := (by rw [List.length_map] at g12; omega); subst hil; rw [List.take_length]; omega) | omega], rfl⟩)
  ·
    refine SeqK.off rfl rfl rfl rfl rfl rfl ?_
    refine SeqK.off rfl rfl rfl rfl rfl rfl ?_
    refine SeqK.off rfl rfl rfl rfl rfl rfl ?_
    refine SeqK.q (q_pkF rfl rfl rfl) rfl rfl rfl ?_
    refine SeqK.nil ?_
    refine AW.condF rfl ?_
    refine AW.exit ?_
    refine eth_e ?_
    refine eth_e ?_
    refine exit_here ?_
    refine AW.seq ?_
    refine AW.reg ?_
    refine SeqK.q (q_mvC rfl rfl) rfl rfl rfl ?_
    refine SeqK.q (q_asC rfl rfl) rfl rfl rfl ?_
    refine SeqK.nil ?_
    refine AW.ret ?_
    exact fin_x (x := .c _) (H) (.tmp rfl .nil) rfl (fun _ _ h => h) (⟨by rw [show min e.siz (L + 1) = min (1 + sizEs (e.args.take i)) (L + 1) by have := sizEs_take_le e.args i; first | (have hil : i = e.args.length := (by rw [List.length_map] at g12; omega); subst hil; rw [List.take_length]; omega) | omega], rfl⟩)

theorem size_any (e : Ex) : rgE' e → ∀ L : Nat, L ≤ 100000 → Pure Tryd.prog 60 [exC e, iC (L : Int)] (.c (iC ((min e.siz (L + 1) : Nat) : Int))) := by
  induction e using Ex.ind with
  | h e ih =>
    intro hr L hL
    exact size_of e L hL hr fun a ha M hM => ih a ha (((rgE_eq e).1 hr).2 a ha) M (by omega)

set_option maxRecDepth 20000 in
theorem mods_of (e : Ex) (hs : e.siz ≤ 100000) (ih : ∀ a ∈ e.args, a.siz ≤ 100000 → Pure Tryd.prog 61 [exC a] (.c (iC (a.mds : Int)))) : Pure Tryd.prog 61 [exC e] (.c (iC (e.mds : Int))) := by
  intro H
  refine Spec.enter Tryd.func61 rfl ?_
  refine AW.wk (Wk.keep 24 [(0, .c (exC e))] [] (H) rfl ⟨rfl, trivial⟩ trivial (fun _ _ h => h) rfl) ?_
  refine AW.seq ?_
  refine AW.reg ?_
  refine SeqK.r (b_box (r := [_, _, _, _, _, _, _, _]) rfl rfl rfl rfl rfl rfl) rfl ?_
  refine SeqK.q (q_asC rfl rfl) rfl rfl rfl ?_
  refine SeqK.nil ?_
  refine AW.seq ?_
  have hct := siz_eq e
  have hln := sizEs_len e.args
  have hmd := mds_eq e
  have hml := mds_le e
  refine AW.reg ?_
  refine SeqK.q (q_asC rfl rfl) rfl rfl rfl ?_
  refine SeqK.nil ?_
  refine AW.seq ?_
  refine AW.seq ?_
  refine AW.reg ?_
  refine SeqK.q (q_fieldL _ rfl Fx.fl36_0 rfl rfl) rfl rfl rfl ?_
  refine SeqK.r (b_load (r := .a _) rfl Fx.ty3 rfl rfl rfl rfl rfl rfl) rfl ?_
  refine SeqK.q (q_eql rfl rfl rfl) rfl rfl rfl ?_
  refine SeqK.nil ?_
  refine AW.condD rfl (fun h7 => ?_) (fun h7 => ?_)
  ·
    have hm : (if e.op = 8 then 1 else 0) = 1 := if_pos h7
    refine AW.reg ?_
    refine SeqK.q (q_asC rfl rfl) rfl rfl rfl ?_
    refine SeqK.nil ?_
    refine AW.seq ?_
    refine AW.seq ?_
    refine AW.reg ?_
    refine SeqK.q (q_asC rfl rfl) rfl rfl rfl ?_
    refine SeqK.nil ?_
    refine AW.block ?_
    refine AW.wk (Wk.keep 24 [(1, .lp 1 0), (2, .c (iC 0)), (3, iX .i64 (((if e.op = 8 then 1 else 0) + mdsEs (e.args.take 0) : Nat) : Int)), (4, iX .i64 ((0 : Nat) : Int))] [(1, .box [.t (.v (.int .i64 e.op)), .t (.v (.string e.tb)), .t (.v (.string e.nm)), .t (.v (.int .i64 e.ix)), .t (.v (.int .i64 e.vk)), .t (.v (.int .i64 e.vn)), .t (.v (.string e.vs)), .t (.sl .un 8 (e.args.map exT'))])] (H) rfl ⟨rfl, rfl, by first | exact iXe (a := 1) (by rw [hm]; simp [mdsEs]) | exact iXe (a := 0) (by rw [hm]; simp [mdsEs]), rfl, trivial⟩ ⟨rfl, trivial⟩ (fun _ _ h => h) rfl) ?_
    refine AW.loop (fun (i : Nat) s => (i ≤ e.args.length) ∧ s = ⟨24, sp [(1, .lp 1 0), (2, .c (iC 0)), (3, iX .i64 (((if e.op = 8 then 1 else 0) + mdsEs (e.args.take i) : Nat) : Int)), (4, iX .i64 ((i : Nat) : Int))], lv [(1, .box [.t (.v (.int .i64 e.op)), .t (.v (.string e.tb)), .t (.v (.string e.nm)), .t (.v (.int .i64 e.ix)), .t (.v (.int .i64 e.vk)), .t (.v (.int .i64 e.vn)), .t (.v (.string e.vs)), .t (.sl .un 8 (e.args.map exT'))])], H⟩) (fun i => e.args.length - i) 0 ⟨_, Wk.keep 24 [(1, .lp 1 0), (2, .c (iC 0)), (3, iX .i64 (((if e.op = 8 then 1 else 0) + mdsEs (e.args.take ((0 : Nat))) : Nat) : Int)), (4, iX .i64 ((((0 : Nat)) : Nat) : Int))] [(1, .box [.t (.v (.int .i64 e.op)), .t (.v (.string e.tb)), .t (.v (.string e.nm)), .t (.v (.int .i64 e.ix)), .t (.v (.int .i64 e.vk)), .t (.v (.int .i64 e.vn)), .t (.v (.string e.vs)), .t (.sl .un 8 (e.args.map exT'))])] (H) rfl ⟨rfl, rfl, rfl, rfl, trivial⟩ ⟨rfl, trivial⟩ (fun _ _ h => h) rfl, Nat.zero_le _, rfl⟩ (fun i s hs => ?_)
    obtain ⟨hi0, rfl⟩ := hs
    refine AW.seq ?_
    refine AW.seq ?_
    refine AW.reg ?_
    refine SeqK.q (q_mvC rfl rfl) rfl rfl rfl ?_
    refine SeqK.q (q_fieldL _ rfl Fx.fl36_5 rfl rfl) rfl rfl rfl ?_
    refine SeqK.r (b_load (r := .a _) rfl Fx.ty34 rfl rfl rfl rfl rfl rfl) rfl ?_
    refine SeqK.q (q_len rfl Fx.un34 rfl) rfl rfl rfl ?_
    refine SeqK.q (q_lss rfl rfl rfl) rfl rfl rfl ?_
    refine SeqK.nil ?_
    refine AW.condD rfl (fun h12 => ?_) (fun h12 => ?_)
    ·
      have hi : i < e.args.length := by rw [List.length_map] at h12; omega
      have hct1 := mdsEs_take hi
      have hct2 := mdsEs_take_le e.args (i + 1)
      have hsi := siz_mem (List.getElem_mem hi)
      refine AW.skip ?_
      refine AW.seq ?_
      refine AW.block ?_
      refine AW.reg ?_
      refine SeqK.q (q_mvC rfl rfl) rfl rfl rfl ?_
      refine SeqK.q (q_fieldL _ rfl Fx.fl36_5 rfl rfl) rfl rfl rfl ?_
      refine SeqK.r (b_load (r := .a _) rfl Fx.ty34 rfl rfl rfl rfl rfl rfl) rfl ?_
      refine SeqK.q (q_mvC rfl rfl) rfl rfl rfl ?_
      refine SeqK.q (q_index _ rfl Fx.sl34 rfl rfl (by omega) (idx_ex hi)) rfl rfl rfl ?_
      refine SeqK.q (q_load (.g [_, _, _, _, _, _, _, _]) rfl Fx.ty36 rfl rfl rfl) rfl rfl rfl ?_
      refine SeqK.q (q_call _ rfl Fx.fn61 rfl (ih _ (List.getElem_mem hi) (by omega)) rfl) rfl rfl rfl ?_
      refine SeqK.q (q_add _ rfl rfl rfl ((by rw [w64 (by omega) (by omega)]; omega : IntKind.i64.wrap _ = (((if e.op = 8 then 1 else 0) + mdsEs (e.args.take (i + 1)) : Nat) : Int)))) rfl rfl rfl ?_
      refine SeqK.q (q_asC rfl rfl) rfl rfl rfl ?_
      refine SeqK.nil ?_
      refine AW.reg ?_
      refine SeqK.q (q_mvC rfl rfl) rfl rfl rfl ?_
      refine SeqK.q (q_add _ rfl rfl rfl (w64 (by omega) (by omega))) rfl rfl rfl ?_
      refine SeqK.q (q_asC rfl rfl) rfl rfl rfl ?_
      refine SeqK.nil ?_
      exact ⟨i + 1, _, Wk.keep 24 [(1, .lp 1 0), (2, .c (iC 0)), (3, iX .i64 (((if e.op = 8 then 1 else 0) + mdsEs (e.args.take (i + 1)) : Nat) : Int)), (4, iX .i64 (((i + 1) : Nat) : Int))] [(1, .box [.t (.v (.int .i64 e.op)), .t (.v (.string e.tb)), .t (.v (.string e.nm)), .t (.v (.int .i64 e.ix)), .t (.v (.int .i64 e.vk)), .t (.v (.int .i64 e.vn)), .t (.v (.string e.vs)), .t (.sl .un 8 (e.args.map exT'))])] (H) rfl ⟨rfl, rfl, rfl, rfl, trivial⟩ ⟨rfl, trivial⟩ (fun _ _ h => h) rfl, by omega, hi, rfl⟩
    ·
      refine AW.exit ?_
      refine eth_e ?_
      refine eth_e ?_
      refine exit_here ?_
      refine AW.seq ?_
      have hil : i = e.args.length := by rw [List.length_map] at h12; omega
      subst hil
      rw [List.take_length, ← hmd]
      refine AW.reg ?_
      refine SeqK.q (q_mvC rfl rfl) rfl rfl rfl ?_
      refine SeqK.q (q_asC rfl rfl) rfl rfl rfl ?_
      refine SeqK.nil ?_
      refine AW.ret ?_
      exact fin_x (x := .c _) (H) (.tmp rfl .nil) rfl (fun _ _ h => h) (⟨rfl, rfl⟩)
  ·
    have hm : (if e.op = 8 then 1 else 0) = 0 := if_neg h7
    refine AW.skip ?_
    refine AW.seq ?_
    refine AW.seq ?_
    refine AW.reg ?_
    refine SeqK.q (q_asC rfl rfl) rfl rfl rfl ?_
    refine SeqK.nil ?_
    refine AW.block ?_
    refine AW.wk (Wk.keep 24 [(1, .lp 1 0), (2, .c (iC 0)), (3, iX .i64 (((if e.op = 8 then 1 else 0) + mdsEs (e.args.take 0) : Nat) : Int)), (4, iX .i64 ((0 : Nat) : Int))] [(1, .box [.t (.v (.int .i64 e.op)), .t (.v (.string e.tb)), .t (.v (.string e.nm)), .t (.v (.int .i64 e.ix)), .t (.v (.int .i64 e.vk)), .t (.v (.int .i64 e.vn)), .t (.v (.string e.vs)), .t (.sl .un 8 (e.args.map exT'))])] (H) rfl ⟨rfl, rfl, by first | exact iXe (a := 1) (by rw [hm]; simp [mdsEs]) | exact iXe (a := 0) (by rw [hm]; simp [mdsEs]), rfl, trivial⟩ ⟨rfl, trivial⟩ (fun _ _ h => h) rfl) ?_
    refine AW.loop (fun (i : Nat) s => (i ≤ e.args.length) ∧ s = ⟨24, sp [(1, .lp 1 0), (2, .c (iC 0)), (3, iX .i64 (((if e.op = 8 then 1 else 0) + mdsEs (e.args.take i) : Nat) : Int)), (4, iX .i64 ((i : Nat) : Int))], lv [(1, .box [.t (.v (.int .i64 e.op)), .t (.v (.string e.tb)), .t (.v (.string e.nm)), .t (.v (.int .i64 e.ix)), .t (.v (.int .i64 e.vk)), .t (.v (.int .i64 e.vn)), .t (.v (.string e.vs)), .t (.sl .un 8 (e.args.map exT'))])], H⟩) (fun i => e.args.length - i) 0 ⟨_, Wk.keep 24 [(1, .lp 1 0), (2, .c (iC 0)), (3, iX .i64 (((if e.op = 8 then 1 else 0) + mdsEs (e.args.take ((0 : Nat))) : Nat) : Int)), (4, iX .i64 ((((0 : Nat)) : Nat) : Int))] [(1, .box [.t (.v (.int .i64 e.op)), .t (.v (.string e.tb)), .t (.v (.string e.nm)), .t (.v (.int .i64 e.ix)), .t (.v (.int .i64 e.vk)), .t (.v (.int .i64 e.vn)), .t (.v (.string e.vs)), .t (.sl .un 8 (e.args.map exT'))])] (H) rfl ⟨rfl, rfl, rfl, rfl, trivial⟩ ⟨rfl, trivial⟩ (fun _ _ h => h) rfl, Nat.zero_le _, rfl⟩ (fun i s hs => ?_)
    obtain ⟨hi0, rfl⟩ := hs
    refine AW.seq ?_
    refine AW.seq ?_
    refine AW.reg ?_
    refine SeqK.q (q_mvC rfl rfl) rfl rfl rfl ?_
    refine SeqK.q (q_fieldL _ rfl Fx.fl36_5 rfl rfl) rfl rfl rfl ?_
    refine SeqK.r (b_load (r := .a _) rfl Fx.ty34 rfl rfl rfl rfl rfl rfl) rfl ?_
    refine SeqK.q (q_len rfl Fx.un34 rfl) rfl rfl rfl ?_
    refine SeqK.q (q_lss rfl rfl rfl) rfl rfl rfl ?_
    refine SeqK.nil ?_
    refine AW.condD rfl (fun h12 => ?_) (fun h12 => ?_)
    ·
      have hi : i < e.args.length := by rw [List.length_map] at h12; omega
      have hct1 := mdsEs_take hi
      have hct2 := mdsEs_take_le e.args (i + 1)
      have hsi := siz_mem (List.getElem_mem hi)
      refine AW.skip ?_
      refine AW.seq ?_
      refine AW.block ?_
      refine AW.reg ?_
      refine SeqK.q (q_mvC rfl rfl) rfl rfl rfl ?_
      refine SeqK.q (q_fieldL _ rfl Fx.fl36_5 rfl rfl) rfl rfl rfl ?_
      refine SeqK.r (b_load (r := .a _) rfl Fx.ty34 rfl rfl rfl rfl rfl rfl) rfl ?_
      refine SeqK.q (q_mvC rfl rfl) rfl rfl rfl ?_
      refine SeqK.q (q_index _ rfl Fx.sl34 rfl rfl (by omega) (idx_ex hi)) rfl rfl rfl ?_
      refine SeqK.q (q_load (.g [_, _, _, _, _, _, _, _]) rfl Fx.ty36 rfl rfl rfl) rfl rfl rfl ?_
      refine SeqK.q (q_call _ rfl Fx.fn61 rfl (ih _ (List.getElem_mem hi) (by omega)) rfl) rfl rfl rfl ?_
      refine SeqK.q (q_add _ rfl rfl rfl ((by rw [w64 (by omega) (by omega)]; omega : IntKind.i64.wrap _ = (((if e.op = 8 then 1 else 0) + mdsEs (e.args.take (i + 1)) : Nat) : Int)))) rfl rfl rfl ?_
      refine SeqK.q (q_asC rfl rfl) rfl rfl rfl ?_
      refine SeqK.nil ?_
      refine AW.reg ?_
      refine SeqK.q (q_mvC rfl rfl) rfl rfl rfl ?_
      refine SeqK.q (q_add _ rfl rfl rfl (w64 (by omega) (by omega))) rfl rfl rfl ?_
      refine SeqK.q (q_asC rfl rfl) rfl rfl rfl ?_
      refine SeqK.nil ?_
      exact ⟨i + 1, _, Wk.keep 24 [(1, .lp 1 0), (2, .c (iC 0)), (3, iX .i64 (((if e.op = 8 then 1 else 0) + mdsEs (e.args.take (i + 1)) : Nat) : Int)), (4, iX .i64 (((i + 1) : Nat) : Int))] [(1, .box [.t (.v (.int .i64 e.op)), .t (.v (.string e.tb)), .t (.v (.string e.nm)), .t (.v (.int .i64 e.ix)), .t (.v (.int .i64 e.vk)), .t (.v (.int .i64 e.vn)), .t (.v (.string e.vs)), .t (.sl .un 8 (e.args.map exT'))])] (H) rfl ⟨rfl, rfl, rfl, rfl, trivial⟩ ⟨rfl, trivial⟩ (fun _ _ h => h) rfl, by omega, hi, rfl⟩
    ·
      refine AW.exit ?_
      refine eth_e ?_
      refine eth_e ?_
      refine exit_here ?_
      refine AW.seq ?_
      have hil : i = e.args.length := by rw [List.length_map] at h12; omega
      subst hil
      rw [List.take_length, ← hmd]
      refine AW.reg ?_
      refine SeqK.q (q_mvC rfl rfl) rfl rfl rfl ?_
      refine SeqK.q (q_asC rfl rfl) rfl rfl rfl ?_
      refine SeqK.nil ?_
      refine AW.ret ?_
      exact fin_x (x := .c _) (H) (.tmp rfl .nil) rfl (fun _ _ h => h) (⟨rfl, rfl⟩)

theorem mods_any (e : Ex) : e.siz ≤ 100000 → Pure Tryd.prog 61 [exC e] (.c (iC (e.mds : Int))) := by
  induction e using Ex.ind with
  | h e ih =>
    intro hs
    exact mods_of e hs fun a ha h => ih a ha h
abbrev fewB (e : Ex) : Bool := decide (e.siz ≤ 80) && decide (e.mds ≤ 6)

set_option maxRecDepth 20000 in
theorem few_any (e : Ex) (hr : rgE' e) : Pure Tryd.prog 21 [exC e] (.c (bC (fewB e))) := by
  intro H
  refine Spec.enter Tryd.func21 rfl ?_
  refine AW.wk (Wk.keep 11 [(0, .c (exC e))] [] (H) rfl ⟨rfl, trivial⟩ trivial (fun _ _ h => h) rfl) ?_
  refine AW.seq ?_
  refine AW.reg ?_
  refine SeqK.r (b_box (r := [_, _, _, _, _, _, _, _]) rfl rfl rfl rfl rfl rfl) rfl ?_
  refine SeqK.q (q_asC rfl rfl) rfl rfl rfl ?_
  refine SeqK.nil ?_
  refine AW.seq ?_
  refine AW.reg ?_
  refine SeqK.r (b_load (r := .g [_, _, _, _, _, _, _, _]) rfl Fx.ty36 rfl rfl rfl rfl rfl rfl) rfl ?_
  refine SeqK.q (q_call _ rfl Fx.fn60 rfl (size_any e hr 80 (by decide)) rfl) rfl rfl rfl ?_
  refine SeqK.q (q_leq rfl rfl rfl) rfl rfl rfl ?_
  refine SeqK.qD (q_mvC rfl rfl) rfl rfl rfl (fun g6 => ?_) (fun g6 => ?_)
  ·
    refine SeqK.rOn (b_load (r := .g [_, _, _, _, _, _, _, _]) rfl Fx.ty36 rfl rfl rfl rfl rfl rfl) rfl rfl rfl ?_
    refine SeqK.on (q_call _ rfl Fx.fn61 rfl (mods_any e (by omega)) rfl) rfl rfl rfl rfl rfl ?_
    refine SeqK.on (q_leq rfl rfl rfl) rfl rfl rfl rfl rfl ?_
    refine SeqK.q (q_pkT rfl rfl rfl) rfl rfl rfl ?_
    refine SeqK.q (q_asC rfl rfl) rfl rfl rfl ?_
    refine SeqK.nil ?_
    refine AW.ret ?_
    exact fin_x (x := .c _) (H) (.tmp rfl .nil) rfl (fun _ _ h => h) (⟨bCe (by rw [fewB, show decide (e.siz ≤ 80) = true by simp; omega]; simp only [Bool.true_and, decide_eq_decide]; omega), rfl⟩)
  ·
    refine SeqK.off rfl rfl rfl rfl rfl rfl ?_
    refine SeqK.off rfl rfl rfl rfl rfl rfl ?_
    refine SeqK.off rfl rfl rfl rfl rfl rfl ?_
    refine SeqK.q (q_pkF rfl rfl rfl) rfl rfl rfl ?_
    refine SeqK.q (q_asC rfl rfl) rfl rfl rfl ?_
    refine SeqK.nil ?_
    refine AW.ret ?_
    exact fin_x (x := .c _) (H) (.tmp rfl .nil) rfl (fun _ _ h => h) (⟨bCe (by rw [fewB, show decide (e.siz ≤ 80) = false by simp; omega]; rfl), rfl⟩)

end Go.Proofs.YtfbdokfcebpkaaaDoor.W
/- Expressions out of memory. -/
namespace Go.Proofs.YtfbdokfcebpkaaaDoor.W
open Go.RowKit E M
set_option linter.unusedVariables false
theorem ex_fun : exT' = fun e : Ex => exL e := funext exT_eq
theorem rd36 (N : Nat) : Reads Tryd.prog N 36 8 (fun e : Ex => exL e) rgE' := by
  induction N using Nat.strongRecOn with
  | ind N ih =>
    exact (Reads.struct Tryd.underlying36 (ReadsF.cons rfl (by kernel_rfl) (fun _ _ => Reads.int Tryd.underlying3) (ReadsF.cons rfl (by kernel_rfl) (fun _ _ => Reads.string Tryd.underlying9) (ReadsF.cons rfl (by kernel_rfl) (fun _ _ => Reads.string Tryd.underlying9) (ReadsF.cons rfl (by kernel_rfl) (fun _ _ => Reads.int Tryd.underlying3) (ReadsF.cons rfl (by kernel_rfl) (fun _ _ => (Reads.struct Tryd.underlying33 (ReadsF.cons rfl (by kernel_rfl) (fun _ _ => Reads.int Tryd.underlying3) (ReadsF.cons rfl (by kernel_rfl) (fun _ _ => Reads.int Tryd.underlying2) (ReadsF.cons rfl (by kernel_rfl) (fun _ _ => Reads.string Tryd.underlying9) .nil))))) (ReadsF.cons rfl (by kernel_rfl) (fun M2 hM2 => Reads.slice Tryd.underlying34 (by kernel_rfl) (by decide) (fun M3 hM3 => ih M3 (by omega))) .nil))))))).conv
        (fun p => Ex.mk p.1 p.2.1 p.2.2.1 p.2.2.2.1 p.2.2.2.2.1.1 p.2.2.2.2.1.2.1 p.2.2.2.2.1.2.2.1 p.2.2.2.2.2.1) (fun p _ => by
          show [_, _, _, _, _, _, _, T.sl .un 8 (p.2.2.2.2.2.1.map exT')] = _
          rw [ex_fun]; rfl) (fun p h => by
          obtain ⟨h1, h2, h3, h4, h5, h6, _⟩ := h
          rw [rgE_eq]
          refine ⟨⟨rg_int h4, rg_int h5.2.1, ?_, ?_⟩, h6.2.2⟩
          · have := h5.2.2.1
            show p.2.2.2.2.1.2.2.1.size ≤ _
            omega
          · have := h6.1
            rw [show Tryd.prog.bytesOf 36 = 104 from by kernel_rfl] at this
            show p.2.2.2.2.2.1.length ≤ _
            omega)
end Go.Proofs.YtfbdokfcebpkaaaDoor.W
namespace Go.Proofs.YtfbdokfcebpkaaaDoor.W
open Go.RowKit E M
set_option linter.unusedVariables false
set_option linter.unusedSimpArgs false
set_option linter.unusedSectionVars false
theorem opsR_ne : ∀ rs : List (Tm × Int), (opsR rs).2 ≠ 0
  | [] => by decide
  | r :: l => by
    rw [opsR]; split
    · rename_i h; exact h
    · exact opsR_ne l
/-- the expressions that have a term -/
inductive OkE (e : Ex) : Prop
  | lit (h1 : e.op = 1) (h2 : e.vk = 1) (h3 : ofE e = (⟨e.vn, []⟩, 0)) (h4 : smallB ⟨e.vn, []⟩ = true)
  | col (h1 : e.op = 2) (h2 : 0 ≤ e.ix) (h3 : ofE e = (⟨0, [⟨1, 0, e.ix, 0, []⟩]⟩, 0)) (h4 : smallB ⟨0, [⟨1, 0, e.ix, 0, []⟩]⟩ = true)
  | lenT (a : Ex) (h1 : e.op = 9) (h2 : e.args = [a]) (h3 : a.op = 1) (h4 : ofE e = (⟨(a.vs.size : Int), []⟩, 0)) (h5 : smallB ⟨(a.vs.size : Int), []⟩ = true)
  | lenC (a : Ex) (h1 : e.op = 9) (h2 : e.args = [a]) (h3 : a.op = 2) (h0 : 0 ≤ a.ix) (h4 : ofE e = (⟨0, [⟨1, 1, a.ix, 0, []⟩]⟩, 0)) (h5 : smallB ⟨0, [⟨1, 1, a.ix, 0, []⟩]⟩ = true)
  | neg (a : Ex) (h1 : e.op = 3) (h2 : e.args = [a]) (h3 : (ofE a).2 = 0) (h4 : ofE e = scale (ofE a).1 (-1))
  | bin (a b : Ex) (h1 : 4 ≤ e.op ∧ e.op ≤ 8) (h2 : e.args = [a, b]) (h3 : (ofE a).2 = 0) (h4 : (ofE b).2 = 0) (h5 : ofE e = comb e.op (ofE a).1 (ofE b).1)
theorem okE_inv {e : Ex} (h : (ofE e).2 = 0) : OkE e := by
  have hE := ofE_eq e
  rw [hE] at h
  unfold stepE at h hE
  by_cases h1 : e.op = 1 ∨ e.op = 2 ∨ e.op = 9
  · rw [if_pos h1] at h hE
    unfold leafE at h hE
    by_cases h9 : e.op = 9
    · rw [if_pos h9] at h hE
      cases ha : e.args with
      | nil => rw [ha] at h; exact absurd h (opsR_ne _)
      | cons a r =>
        cases r with
        | cons b s => rw [ha] at h; exact absurd h (opsR_ne _)
        | nil =>
          rw [ha] at h hE
          simp only [lenL, lenE] at h hE
          by_cases k1 : 0 < a.args.length
          · rw [if_pos k1] at h; exact absurd h (opsR_ne _)
          · rw [if_neg k1] at h hE
            by_cases k2 : a.op = 1 ∧ a.vk = 2
            · rw [if_pos k2] at h hE
              obtain ⟨l1, l2⟩ := lim_ok h
              exact .lenT a h9 ha k2.1 (hE.trans l1) l2
            · rw [if_neg k2] at h hE
              by_cases k3 : a.op = 2 ∧ 0 ≤ a.ix
              · rw [if_pos k3] at h hE
                obtain ⟨l1, l2⟩ := lim_ok h
                exact .lenC a h9 ha k3.1 k3.2 (hE.trans l1) l2
              · rw [if_neg k3] at h; exact absurd h (opsR_ne _)
    · rw [if_neg h9] at h hE
      by_cases k1 : 0 < e.args.length
      · rw [if_pos k1] at h; exact absurd h (opsR_ne _)
      · rw [if_neg k1] at h hE
        by_cases k2 : e.op = 1 ∧ e.vk = 1
        · rw [if_pos k2] at h hE
          obtain ⟨l1, l2⟩ := lim_ok h
          exact .lit k2.1 k2.2 (hE.trans l1) l2
        · rw [if_neg k2] at h hE
          by_cases k3 : e.op = 2 ∧ 0 ≤ e.ix
          · rw [if_pos k3] at h hE
            obtain ⟨l1, l2⟩ := lim_ok h
            exact .col k3.1 k3.2 (hE.trans l1) l2
          · rw [if_neg k3] at h; cases h
  · rw [if_neg h1] at h hE
    by_cases h3 : e.op = 3
    · rw [if_pos h3] at h hE
      cases ha : e.args with
      | nil => rw [ha] at h; exact absurd h (opsR_ne _)
      | cons a r =>
        cases r with
        | cons b s => rw [ha] at h; exact absurd h (opsR_ne _)
        | nil =>
          rw [ha] at h hE
          simp only [List.map_cons, List.map_nil, unR] at h hE
          by_cases k1 : (ofE a).2 ≠ 0
          · rw [if_pos k1] at h; exact absurd h k1
          · rw [if_neg k1] at hE
            exact .neg a h3 ha (Classical.not_not.1 k1) hE
    · rw [if_neg h3] at h hE
      by_cases h4 : e.op = 4 ∨ e.op = 5 ∨ e.op = 6 ∨ e.op = 7 ∨ e.op = 8
      · rw [if_pos h4] at h hE
        cases ha : e.args with
        | nil => rw [ha] at h; exact absurd h (opsR_ne _)
        | cons a r =>
          cases r with
          | nil => rw [ha] at h; exact absurd h (opsR_ne _)
          | cons b s =>
            cases s with
            | cons _ _ => rw [ha] at h; exact absurd h (opsR_ne _)
            | nil =>
              rw [ha] at h hE
              simp only [List.map_cons, List.map_nil, binR] at h hE
              by_cases k1 : (ofE a).2 ≠ 0
              · rw [if_pos k1] at h; exact absurd h k1
              · rw [if_neg k1] at h hE
                by_cases k2 : (ofE b).2 ≠ 0
                · rw [if_pos k2] at h; exact absurd h k2
                · rw [if_neg k2] at hE
                  exact .bin a b (by omega) ha (Classical.not_not.1 k1) (Classical.not_not.1 k2) hE
      · rw [if_neg h4] at h; exact absurd h (opsR_ne _)
/-- the operations that have a term -/
inductive OkC (op : Int) (a b : Tm) : Prop
  | add (h1 : op = 4) (h2 : comb op a b = W.add a b)
  | sub (h1 : op = 5) (h3 : (scale b (-1)).2 = 0) (h2 : comb op a b = W.add a (scale b (-1)).1)
  | mulL (h1 : op = 6) (h3 : a.ps = []) (h2 : comb op a b = scale b a.c)
  | mulR (h1 : op = 6) (h3 : b.ps = []) (h2 : comb op a b = scale a b.c)
  | div (h1 : op = 7) (h3 : b.ps = []) (h4 : 1 ≤ b.c ∧ b.c ≤ 1000) (h5 : (W.div a b.c).2 = 0) (h2 : comb op a b = W.div a b.c)
  | mod (h1 : op = 8) (h3 : b.ps = []) (h4 : 1 ≤ b.c ∧ b.c ≤ 1000) (h5 : (W.div a b.c).2 = 0) (h6 : (scale (W.div a b.c).1 (-b.c)).2 = 0) (h2 : comb op a b = W.add a (scale (W.div a b.c).1 (-b.c)).1)
theorem ps_nil {t : Tm} (h : t.ps.length = 0) : t.ps = [] := List.eq_nil_of_length_eq_zero h
theorem comb_inv {op : Int} {a b : Tm} (ho : 4 ≤ op ∧ op ≤ 8) (h : (comb op a b).2 = 0) : OkC op a b := by
  have hE : comb op a b = comb op a b := rfl
  conv at hE => rhs; unfold comb
  unfold comb at h
  by_cases h4 : op = 4
  · rw [if_pos h4] at hE; exact .add h4 hE
  · rw [if_neg h4] at h hE
    by_cases h5 : op = 5
    · rw [if_pos h5] at h hE
      by_cases k : (scale b (-1)).2 ≠ 0
      · rw [if_pos k] at h; exact absurd h k
      · rw [if_neg k] at hE; exact .sub h5 (Classical.not_not.1 k) hE
    · rw [if_neg h5] at h hE
      by_cases h6 : op = 6
      · rw [if_pos h6] at h hE
        by_cases k : a.ps.length = 0
        · rw [if_pos k] at hE; exact .mulL h6 (ps_nil k) hE
        · rw [if_neg k] at h hE
          by_cases k2 : b.ps.length = 0
          · rw [if_pos k2] at hE; exact .mulR h6 (ps_nil k2) hE
          · rw [if_neg k2] at h; cases h
      · rw [if_neg h6] at h hE
        by_cases k : 0 < b.ps.length ∨ b.c < 1 ∨ b.c > 1000
        · rw [if_pos k] at h; cases h
        · rw [if_neg k] at h hE
          have hb : b.ps = [] := ps_nil (by omega)
          by_cases k2 : (W.div a b.c).2 ≠ 0 ∨ op = 7
          · rw [if_pos k2] at h hE
            exact .div (by omega) hb (by omega) h hE
          · rw [if_neg k2] at h hE
            by_cases k3 : (scale (W.div a b.c).1 (-b.c)).2 ≠ 0
            · rw [if_pos k3] at h; exact absurd h k3
            · rw [if_neg k3] at hE
              exact .mod (by omega) hb (by omega) (by omega) (Classical.not_not.1 k3) hE
theorem vld_c {n : Int} (h : smallB ⟨n, []⟩ = true) : vldT ⟨n, []⟩ = true := by
  rw [vldT_eq, h]; rfl
theorem vld_v {k v : Int} (hk : k = 0 ∨ k = 1) (hv : 0 ≤ v) (h : smallB ⟨0, [⟨1, k, v, 0, []⟩]⟩ = true) : vldT ⟨0, [⟨1, k, v, 0, []⟩]⟩ = true := by
  rw [vldT_eq, h]
  simp [vldPs, vldP, ascB, hk, hv]
theorem comb_vld {op : Int} {a b : Tm} (ho : 4 ≤ op ∧ op ≤ 8) (ha : vldT a = true) (hb : vldT b = true) (h : (comb op a b).2 = 0) : vldT (comb op a b).1 = true := by
  cases comb_inv ho h with
  | add h1 h2 => rw [h2]; exact sum_vld ha hb
  | sub h1 h3 h2 => rw [h2]; exact sum_vld ha (scale_vld' hb)
  | mulL h1 h3 h2 => rw [h2]; exact scale_vld' hb
  | mulR h1 h3 h2 => rw [h2]; exact scale_vld' ha
  | div h1 h3 h4 h5 h2 => rw [h2]; exact div_vld' ha
  | mod h1 h3 h4 h5 h6 h2 => rw [h2]; exact sum_vld ha (scale_vld' (div_vld' ha))
theorem comb_cnt {op : Int} {a b : Tm} (ho : 4 ≤ op ∧ op ≤ 8) (h : (comb op a b).2 = 0) : (comb op a b).1.cnt ≤ (if op = 8 then 2 else 1) * a.cnt + b.cnt + 2 := by
  cases comb_inv ho h with
  | add h1 h2 => rw [h2, if_neg (by omega)]; have := add_cnt a b; omega
  | sub h1 h3 h2 => rw [h2, if_neg (by omega)]; have := add_cnt a (scale b (-1)).1; have := scale_cnt b (-1); omega
  | mulL h1 h3 h2 => rw [h2, if_neg (by omega)]; have := scale_cnt b a.c; omega
  | mulR h1 h3 h2 => rw [h2, if_neg (by omega)]; have := scale_cnt a b.c; omega
  | div h1 h3 h4 h5 h2 => rw [h2, if_neg (by omega)]; have := div_cnt a b.c; omega
  | mod h1 h3 h4 h5 h6 h2 =>
    rw [h2, if_pos h1]
    have := add_cnt a (scale (W.div a b.c).1 (-b.c)).1
    have := scale_cnt (W.div a b.c).1 (-b.c)
    have := div_cnt a b.c
    omega
theorem ofE_gd (e : Ex) : (ofE e).2 = 0 → vldT (ofE e).1 = true ∧ (ofE e).1.cnt ≤ 3 * (e.siz * 2 ^ e.mds) := by
  induction e using Ex.ind with
  | h e ih =>
    intro h
    have hs := siz_pos e
    have hp : 1 ≤ 2 ^ e.mds := Nat.one_le_two_pow
    have h0 : 1 ≤ e.siz * 2 ^ e.mds := Nat.mul_pos hs hp
    cases okE_inv h with
    | lit h1 h2 h3 h4 => rw [h3]; exact ⟨vld_c h4, by simp [Tm.cnt, cntPs]; omega⟩
    | col h1 h2 h3 h4 => rw [h3]; exact ⟨vld_v (.inl rfl) h2 h4, by simp [Tm.cnt, cntPs, Pt.cnt, cntTs]; omega⟩
    | lenT a h1 h2 h3 h4 h5 => rw [h4]; exact ⟨vld_c h5, by simp [Tm.cnt, cntPs]; omega⟩
    | lenC a h1 h2 h3 h0 h4 h5 => rw [h4]; exact ⟨vld_v (.inr rfl) h0 h5, by simp [Tm.cnt, cntPs, Pt.cnt, cntTs]; omega⟩
    | neg a h1 h2 h3 h4 =>
      rw [h4]
      obtain ⟨i1, i2⟩ := ih a (by rw [h2]; simp) h3
      refine ⟨scale_vld' i1, ?_⟩
      have k1 := scale_cnt (ofE a).1 (-1)
      have k2 : e.siz = 1 + a.siz := by rw [siz_eq, h2]; simp [sizEs]
      have k3 : e.mds = a.mds := by rw [mds_eq, h2, if_neg (by omega)]; simp [mdsEs]
      rw [k2, k3, Nat.add_mul]; omega
    | bin a b h1 h2 h3 h4 h5 =>
      rw [h5] at h ⊢
      obtain ⟨i1, i2⟩ := ih a (by rw [h2]; simp) h3
      obtain ⟨j1, j2⟩ := ih b (by rw [h2]; simp) h4
      refine ⟨comb_vld h1 i1 j1 h, ?_⟩
      have k1 := comb_cnt h1 h
      have k2 : e.siz = 1 + (a.siz + b.siz) := by rw [siz_eq, h2]; simp [sizEs]
      have k3 : e.mds = (if e.op = 8 then 1 else 0) + (a.mds + b.mds) := by rw [mds_eq, h2]; simp [mdsEs]
      have ea : a.siz * 2 ^ a.mds ≤ a.siz * 2 ^ (a.mds + b.mds) := Nat.mul_le_mul_left _ (Nat.pow_le_pow_right (by decide) (by omega))
      have eb : b.siz * 2 ^ b.mds ≤ b.siz * 2 ^ (a.mds + b.mds) := Nat.mul_le_mul_left _ (Nat.pow_le_pow_right (by decide) (by omega))
      have ep : 1 ≤ 2 ^ (a.mds + b.mds) := Nat.one_le_two_pow
      rw [k2, k3]
      by_cases h8 : e.op = 8
      · rw [if_pos h8] at k1 ⊢
        have e2 : 2 ^ (1 + (a.mds + b.mds)) = 2 * 2 ^ (a.mds + b.mds) := by rw [Nat.pow_add]
        rw [e2]
        generalize 2 ^ (a.mds + b.mds) = p at *
        have e3 : (1 + (a.siz + b.siz)) * (2 * p) = 2 * p + 2 * (a.siz * p) + 2 * (b.siz * p) := by grind
        rw [e3]; omega
      · rw [if_neg h8] at k1 ⊢
        rw [Nat.zero_add]
        generalize 2 ^ (a.mds + b.mds) = p at *
        have e3 : (1 + (a.siz + b.siz)) * p = p + a.siz * p + b.siz * p := by grind
        rw [e3]; omega
theorem gd_few {e : Ex} (h1 : e.siz ≤ 80) (h2 : e.mds ≤ 6) : gd (ofE e) := fun h => by
  obtain ⟨k1, k2⟩ := ofE_gd e h
  refine ⟨k1, ?_⟩
  have e1 : e.siz * 2 ^ e.mds ≤ 80 * 2 ^ 6 := Nat.mul_le_mul h1 (Nat.pow_le_pow_right (by decide) h2)
  omega
theorem okE_few (e : Ex) : rgE' e → e.siz ≤ 80 → e.mds ≤ 6 → okE e := by
  induction e using Ex.ind with
  | h e ih =>
    intro hr h1 h2
    have hr' := (rgE_eq e).1 hr
    have k1 := siz_eq e
    have k2 := mds_eq e
    have k3 := sizEs_len e.args
    cases e with | mk op tb nm ix vk vn vs args =>
    simp only [okE, okEs_iff]
    refine ⟨⟨hr'.1.2.1, by show args.length ≤ _; simp only [Ex.args] at k1 k3; omega⟩, fun a ha => ?_⟩
    have k4 := siz_mem ha
    have k5 := mds_mem ha
    simp only [Ex.args, Ex.op] at k1 k2 k4 k5
    have h3 := hr'.2 a ha
    refine ⟨ih a ha h3 (by omega) (by omega), gd_few (by omega) (by omega), ((rgE_eq a).1 h3).1.2.2.1⟩

end Go.Proofs.YtfbdokfcebpkaaaDoor.W
