/- Variables of the call's own, seen anew; a rule for what else there is. Plain theorems, for any program. -/
import Derived.Test.YtojkjiakkcgfcaaE20
namespace Go.Proofs.Ytojkjiakkcgfcaa.E
open Go.RowKit
set_option linter.unusedVariables false
section
variable {P : Program} {cd : Code} {Q : Exit → S → Prop} {n d : Nat} {t : Nat → X} {L : Nat → Option AO} {H : Heap}
theorem Sat.reL {c : Ctx} {a : Act} {w : World} {x x' : AO} (g : Sat c ⟨n, t, L, H⟩ a w) (hd : L d = some x) (hx : ¬ x.empty) (h : ∀ b m, ORep c w x b m → ORep c w x' b m) : Sat c ⟨n, t, upd L d (some x'), H⟩ a w ∧ Ext c (S.own ⟨n, t, L, H⟩) w c (S.own ⟨n, t, upd L d (some x'), H⟩) w := by
  have own' : ∀ i y, S.own ⟨n, t, upd L d (some x'), H⟩ i = some y → (i = .l d ∧ y = x') ∨ (i ≠ .l d ∧ S.own ⟨n, t, L, H⟩ i = some y) := fun i y hi => by
    cases i with
    | e k => exact .inr ⟨by simp, hi⟩
    | l e =>
      have hi : upd L d (some x') e = some y := hi
      by_cases h : e = d
      · subst h; rw [upd_same] at hi; exact .inl ⟨rfl, by injection hi with hi; exact hi.symm⟩
      · rw [upd_ne _ _ h] at hi; exact .inr ⟨by simpa using h, hi⟩
  have old : ∀ i y, S.own ⟨n, t, upd L d (some x'), H⟩ i = some y → ¬ y.empty → ∃ z, S.own ⟨n, t, L, H⟩ i = some z ∧ ¬ z.empty := fun i y hi hy => by
    rcases own' i y hi with ⟨rfl, rfl⟩ | ⟨_, h⟩
    · exact ⟨x, hd, hx⟩
    · exact ⟨y, h, hy⟩
  refine ⟨⟨⟨g.conc.mem, fun i y hi hy => ?_, fun i j y z b n1 n2 hi hj hy hz h1 h2 => ?_, ?_⟩, g.size, g.tmps, g.defers, fun i e hi => ?_⟩, ⟨rfl, rfl, rfl, Nat.le_refl _, fun _ _ _ => rfl, fun _ _ _ h => h, fun _ _ _ h => .inl h, fun _ _ h => h, fun i y b n1 hi hy h1 => ?_, rfl⟩⟩
  · rcases own' i y hi with ⟨rfl, rfl⟩ | ⟨_, h1⟩
    · obtain ⟨b, m, h2, h3⟩ := g.conc.obj (.l d) x hd hx
      exact ⟨b, m, h2, h b m h3⟩
    · exact g.conc.obj i y h1 hy
  · obtain ⟨y', h3, h4⟩ := old i y hi hy
    obtain ⟨z', h5, h6⟩ := old j z hj hz
    exact g.conc.inj i j y' z' b n1 n2 h3 h5 h4 h6 h1 h2
  · exact g.conc.fin
  · show upd L d (some x') e ≠ none
    by_cases h : e = d
    · subst h; rw [upd_same]; simp
    · rw [upd_ne _ _ h]; exact g.wf i e hi
  · obtain ⟨y', h3, h4⟩ := old i y hi hy
    exact .inr ⟨i, y', n1, h3, h4, h1⟩
/-- nil in a variable, to be appended to -/
theorem Gh.rowL (d i : Nat) (e sz : Nat) {cells : List A} (hd : L d = some (.box cells)) (hi : cells[i]? = some (.t (.v (.slice none 0 0)))) : Gh ⟨n, t, L, H⟩ fun s' => ∃ k, H k = none ∧ s' = ⟨n, t, upd L d (some (.box (cells.set i (.os k 0 0 sz)))), upd H k (some (.row e sz []))⟩ := by
  intro c a w g
  obtain ⟨k, h1, h2, h3⟩ := g.add0 (x := .row e sz []) rfl
  obtain ⟨h4, h5⟩ := h2.reL (x' := .box (cells.set i (.os k 0 0 sz))) hd (by simp [AO.empty]) fun b m ⟨us, ty, q1, q2, q3⟩ => by
    refine ⟨us, ty, q1, ?_, q3⟩
    obtain ⟨v, hv, hr⟩ := q2.get hi
    have hv' : v = .slice none 0 0 := by cases hr with | t h => cases h; rfl
    subst hv'
    have := q2.set i (x := .os k 0 0 sz) (v := .slice none 0 0) .os0
    have e1 : us.toList.set i (.slice none 0 0) = us.toList := by
      apply List.ext_getElem?
      intro j
      rw [List.getElem?_set]
      split
      · rename_i hij; subst hij
        split
        · exact hv.symm
        · rename_i hh; rw [List.getElem?_eq_none (by omega)]
      · rfl
    rwa [e1] at this
  exact ⟨_, c, ⟨k, h1, rfl⟩, h4, h3.trans h5⟩
theorem Gh.tipL (d i : Nat) (e sz : Nat) {cells : List A} (hd : L d = some (.box cells)) (hi : cells[i]? = some (.t (.v (.slice none 0 0)))) : Gh ⟨n, t, L, H⟩ fun s' => ∃ k, H k = none ∧ s' = ⟨n, t, upd L d (some (.box (cells.set i (.ts k .ne sz [])))), upd H k (some (.tip e sz 0))⟩ := by
  intro c a w g
  obtain ⟨k, h1, h2, h3⟩ := g.add0 (x := .tip e sz 0) rfl
  obtain ⟨h4, h5⟩ := h2.reL (x' := .box (cells.set i (.ts k .ne sz []))) hd (by simp [AO.empty]) fun b m ⟨us, ty, q1, q2, q3⟩ => by
    refine ⟨us, ty, q1, ?_, q3⟩
    obtain ⟨v, hv, hr⟩ := q2.get hi
    have hv' : v = .slice none 0 0 := by cases hr with | t h => cases h; rfl
    subst hv'
    have := q2.set i (x := .ts k .ne sz []) (v := .slice none 0 0) .ts0
    have e1 : us.toList.set i (.slice none 0 0) = us.toList := by
      apply List.ext_getElem?
      intro j
      rw [List.getElem?_set]
      split
      · rename_i hij; subst hij
        split
        · exact hv.symm
        · rename_i hh; rw [List.getElem?_eq_none (by omega)]
      · rfl
    rwa [e1] at this
  exact ⟨_, c, ⟨k, h1, rfl⟩, h4, h3.trans h5⟩
theorem AW.rowL (d i : Nat) (e sz : Nat) {cells : List A} (hd : L d = some (.box cells)) (hi : cells[i]? = some (.t (.v (.slice none 0 0)))) (k : ∀ k, H k = none → AW P cd Q ⟨n, t, upd L d (some (.box (cells.set i (.os k 0 0 sz)))), upd H k (some (.row e sz []))⟩) : AW P cd Q ⟨n, t, L, H⟩ :=
  AW.gh (Gh.rowL d i e sz hd hi) fun s' ⟨k', h1, h2⟩ => h2 ▸ k k' h1
theorem AW.tipL (d i : Nat) (e sz : Nat) {cells : List A} (hd : L d = some (.box cells)) (hi : cells[i]? = some (.t (.v (.slice none 0 0)))) (k : ∀ k, H k = none → AW P cd Q ⟨n, t, upd L d (some (.box (cells.set i (.ts k .ne sz [])))), upd H k (some (.tip e sz 0))⟩) : AW P cd Q ⟨n, t, L, H⟩ :=
  AW.gh (Gh.tipL d i e sz hd hi) fun s' ⟨k', h1, h2⟩ => h2 ▸ k k' h1
end
end Go.Proofs.Ytojkjiakkcgfcaa.E
