/- What a call does not name stays. Plain theorems, for any program. -/
import Derived.Test.YtojkjiakkcgfcaaE23
namespace Go.Proofs.Ytojkjiakkcgfcaa.E
open Go.RowKit
set_option linter.unusedVariables false
open Classical in
theorem Spec.frame {P : Program} {f : FuncId} {args : List C} {H Hi : Heap} {Q : X → Heap → Prop} (h : Spec P f args Hi Q) (hs : ∀ k o, Hi k = some o → H k = some o) :
    Spec P f args H fun x H'' => ∃ H', Q x H' ∧ (∀ k o, H' k = some o → ¬ o.empty → H'' k = some o) ∧ (∀ k o, H k = some o → Hi k = none → ¬ o.empty → H'' k = some o) ∧ (∀ k o o', H' k = some o → ¬ o.empty → H k = some o' → Hi k = none → o'.empty) := by
  intro c w vs hc hr
  have sub : ∀ i x, ownH Hi i = some x → ownH H i = some x := fun i x hi => by cases i with
    | e k => exact hs k x hi
    | l d => cases hi
  refine (h c w vs (hc.sub sub) hr).mono ?_
  rintro e w' ⟨v, x, H', c', he, hq, hx, hc', hE⟩
  -- the rest
  let Hr : Heap := fun k => match Hi k, H k with | none, some o => if o.empty then none else some o | _, _ => none
  let Hn : Heap := fun k => match H' k with | some o => if o.empty then Hr k else some o | none => Hr k
  have hr1 : ∀ k o, Hr k = some o → H k = some o ∧ Hi k = none ∧ ¬ o.empty := fun k o hk => by
    simp only [Hr] at hk
    cases h1 : Hi k with
    | some y => rw [h1] at hk; cases hk
    | none =>
      rw [h1] at hk
      cases h2 : H k with
      | none => rw [h2] at hk; cases hk
      | some y =>
        rw [h2] at hk
        simp only at hk
        split at hk
        · cases hk
        · injection hk with hk; subst hk; exact ⟨rfl, rfl, by assumption⟩
  -- an object of the rest lies apart from what the call may turn
  have apart : ∀ k o b n, Hr k = some o → c.β k = some (b, n) → b < w.heap.size ∧ ∀ i y m, ownH Hi i = some y → ¬ y.empty → c.pos i ≠ some (b, m) := fun k o b n hk hb => by
    obtain ⟨h1, h2, h3⟩ := hr1 k o hk
    obtain ⟨b', n', h4, h5⟩ := hc.obj (.e k) o h1 h3
    have h4 : c.β k = some (b', n') := h4
    rw [hb] at h4; injection h4 with h4; injection h4 with e1 e2; subst e1 e2
    refine ⟨h5.lt, fun i y m hi hy hp => ?_⟩
    have := hc.inj i (.e k) y o b m n (sub i y hi) h1 hy h3 hp hb
    subst this
    have hi : Hi k = some y := hi
    rw [h2] at hi; cases hi
  have posr : ∀ k o, Hr k = some o → ∃ b n, c.β k = some (b, n) ∧ c'.β k = some (b, n) ∧ ORep c' w' o b n := fun k o hk => by
    obtain ⟨h1, h2, h3⟩ := hr1 k o hk
    obtain ⟨b, n, h4, h5⟩ := hc.obj (.e k) o h1 h3
    obtain ⟨h6, h7⟩ := apart k o b n hk h4
    refine ⟨b, n, h4, hE.ext k _ h4, h5.keep (hE.blk b h6 fun i y m hi hy => h7 i y m hi hy) hE.mem (fun q u hq => ?_) hE.ext⟩
    rcases hE.new b q u hq with h8 | h8 | ⟨i, y, m, h8, h9, h10⟩
    · exact h8
    · omega
    · exact absurd h10 (h7 i y m h8 h9)
  -- two names: one of the call's, one of the rest
  have clash : ∀ k k' o o' b n m, H' k = some o → ¬ o.empty → c'.β k = some (b, n) → Hr k' = some o' → c'.β k' = some (b, m) → False := fun k k' o o' b n m h1 h2 h3 h4 h5 => by
    obtain ⟨b', n', h6, h7, _⟩ := posr k' o' h4
    rw [h5] at h7; injection h7 with h7; injection h7 with e1 e2; subst e1 e2
    obtain ⟨h8, h9⟩ := apart k' o' b m h4 h6
    rcases hE.own (.e k) o b n h1 h2 h3 with h10 | ⟨j, y, q, h10, h11, h12⟩
    · omega
    · exact h9 j y q h10 h11 h12
  have own' : ∀ i y, ownH Hn i = some y → ¬ y.empty ∧ (ownH H' i = some y ∨ ∃ k, i = .e k ∧ Hr k = some y) ∨ (y.empty ∧ False) := fun i y hi => by
    cases i with
    | l d => cases hi
    | e k =>
      have hi : Hn k = some y := hi
      simp only [Hn] at hi
      cases h1 : H' k with
      | none => rw [h1] at hi; exact .inl ⟨(hr1 k y hi).2.2, .inr ⟨k, rfl, hi⟩⟩
      | some z =>
        rw [h1] at hi
        simp only at hi
        split at hi
        · exact .inl ⟨(hr1 k y hi).2.2, .inr ⟨k, rfl, hi⟩⟩
        · injection hi with hi; subst hi; exact .inl ⟨by assumption, .inl h1⟩
  have hcn : Conc c' (ownH Hn) w' := by
    refine ⟨hc'.mem, fun i y hi hy => ?_, fun i j y z b n m hi hj hy hz h1 h2 => ?_, ?_⟩
    · rcases own' i y hi with ⟨_, h1 | ⟨k, rfl, h1⟩⟩ | ⟨_, h1⟩
      · exact hc'.obj i y h1 hy
      · obtain ⟨b, n, _, h2, h3⟩ := posr k y h1; exact ⟨b, n, h2, h3⟩
      · exact h1.elim
    · rcases own' i y hi with ⟨_, h3 | ⟨k, rfl, h3⟩⟩ | ⟨_, h3⟩
      · rcases own' j z hj with ⟨_, h4 | ⟨k', rfl, h4⟩⟩ | ⟨_, h4⟩
        · exact hc'.inj i j y z b n m h3 h4 hy hz h1 h2
        · cases i with
          | l d => cases h3
          | e k => exact (clash k k' y z b n m h3 hy h1 h4 h2).elim
        · exact h4.elim
      · rcases own' j z hj with ⟨_, h4 | ⟨k', rfl, h4⟩⟩ | ⟨_, h4⟩
        · cases j with
          | l d => cases h4
          | e k' => exact (clash k' k z y b m n h4 hz h2 h3 h1).elim
        · obtain ⟨b1, n1, h5, h6, _⟩ := posr k y h3
          obtain ⟨b2, n2, h7, h8, _⟩ := posr k' z h4
          have h1 : c'.β k = some (b, n) := h1
          have h2 : c'.β k' = some (b, m) := h2
          rw [h6] at h1; rw [h8] at h2
          injection h1 with h1; injection h1 with e1 e2; subst e1 e2
          injection h2 with h2; injection h2 with e1 e2; subst e1 e2
          exact hc.inj (.e k) (.e k') y z _ _ _ (hr1 k y h3).1 (hr1 k' z h4).1 hy hz h5 h7
        · exact h4.elim
      · exact h3.elim
    · obtain ⟨N, hN⟩ := hc'.fin
      obtain ⟨N', hN'⟩ := hc.fin
      refine ⟨max N N', fun k hk => ⟨(hN k (by omega)).1, ?_⟩⟩
      cases hn : ownH Hn (.e k) with
      | none => rfl
      | some y =>
        rcases own' _ y hn with ⟨_, h1 | ⟨k', h1, h2⟩⟩ | ⟨_, h1⟩
        · rw [(hN k (by omega)).2] at h1; cases h1
        · injection h1 with h1; subst h1
          have h3 := (hr1 k y h2).1
          have h4 : H k = none := (hN' k (by omega)).2
          rw [h4] at h3; cases h3
        · exact h1.elim
  refine ⟨v, x, Hn, c', he, ⟨H', hq, fun k o hk ho => ?_, fun k o hk hi ho => ?_, fun k o o' hk ho hk' hi => ?_⟩, hx, hcn, ⟨hE.os, hE.tape, hE.output, hE.size, fun b hb hn => hE.blk b hb fun i y n hi => hn i y n (sub i y hi), hE.mem, fun b o u hu => ?_, hE.ext, fun i y b n hi hy hp => ?_, hE.base⟩⟩
  · simp only [Hn, hk, if_neg ho]
  · have h1 : Hr k = some o := by simp only [Hr, hi, hk, if_neg ho]
    obtain ⟨b, n, _, h3, _⟩ := posr k o h1
    simp only [Hn]
    cases h2 : H' k with
    | none => exact h1
    | some z =>
      simp only
      split
      · exact h1
      · rename_i hz
        obtain ⟨b', n', h4, _⟩ := hc'.obj (.e k) z h2 hz
        have h4 : c'.β k = some (b', n') := h4
        rw [h3] at h4; injection h4 with h4; injection h4 with e1 e2; subst e1 e2
        exact (clash k k z o b n n h2 hz h3 h1 h3).elim
  · refine Classical.byContradiction fun ho' => ?_
    have h1 : Hr k = some o' := by simp only [Hr, hi, hk', if_neg ho']
    obtain ⟨b, n, _, h3, _⟩ := posr k o' h1
    obtain ⟨b', n', h4, _⟩ := hc'.obj (.e k) o hk ho
    have h4 : c'.β k = some (b', n') := h4
    rw [h3] at h4; injection h4 with h4; injection h4 with e1 e2; subst e1 e2
    exact clash k k o o' b n n hk ho h3 h1 h3
  · rcases hE.new b o u hu with h1 | h1 | ⟨i, y, m, h1, h2, h3⟩
    · exact .inl h1
    · exact .inr (.inl h1)
    · exact .inr (.inr ⟨i, y, m, sub i y h1, h2, h3⟩)
  · rcases own' i y hi with ⟨_, h1 | ⟨k, rfl, h1⟩⟩ | ⟨_, h1⟩
    · rcases hE.own i y b n h1 hy hp with h2 | ⟨j, z, m, h2, h3, h4⟩
      · exact .inl h2
      · exact .inr ⟨j, z, m, sub j z h2, h3, h4⟩
    · obtain ⟨b', n', h2, h3, _⟩ := posr k y h1
      have hp : c'.β k = some (b, n) := hp
      rw [h3] at hp; injection hp with hp; injection hp with e1 e2; subst e1 e2
      exact .inr ⟨.e k, y, n', (hr1 k y h1).1, hy, h2⟩
    · exact h1.elim
end Go.Proofs.Ytojkjiakkcgfcaa.E
