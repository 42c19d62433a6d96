/- The library's sort, in the engine's words. Plain theorems, for any program. -/
import Derived.Test.YtojkjiakkcgfcaaE24
import Derived.Sort.Grow
namespace Go.Proofs.Ytojkjiakkcgfcaa.E
open Go.RowKit
set_option linter.unusedVariables false
/-- an object's block is written, and blocks of the call's own lie behind -/
theorem Conc.write {c : Ctx} {H : Heap} {w w' : World} {k : Nat} {x x' : AO} {b n : Nat} (g : Conc c (ownH H) w) (hi : H k = some x) (hx : ¬ x.empty) (hp : c.β k = some (b, n))
    (hos : w'.os = w.os) (htape : w'.tape = w.tape) (hout : w'.output = w.output) (hsz : w'.heap.size = w.heap.size) (hblk : ∀ k, k ≠ b → w'.heap[k]? = w.heap[k]?) (hno : ∀ o, c.μ b o = none) (ho : ORep c w' x' b n) :
    Conc c (ownH (upd H k (some x'))) w' ∧ Ext c (ownH H) w c (ownH (upd H k (some x'))) w' := by
  let s : S := ⟨0, fun _ => .any, fun _ => none, H⟩
  have e1 : s.own = ownH H := by funext i; cases i <;> rfl
  have e2 : (s.setOwn (.e k) x').own = ownH (upd H k (some x')) := by funext i; cases i <;> rfl
  have g0 : Sat c s ⟨#[], []⟩ w → Sat c (s.setOwn (.e k) x') ⟨#[], []⟩ w' ∧ Ext c s.own w c (s.setOwn (.e k) x').own w' := fun g =>
    g.write (c' := c) (i := .e k) (x := x) hi hx hp hos htape hout hsz hblk rfl rfl (fun _ _ _ h => h) (fun _ _ _ h => .inl h) (fun o u h => by rw [hno o] at h; cases h) ho
  have hs : Sat c s ⟨#[], []⟩ w := ⟨by rw [e1]; exact g, rfl, fun i => trivial, .nil, fun i d h => by cases h⟩
  obtain ⟨h1, h2⟩ := g0 hs
  rw [e1, e2] at h2
  have h3 := h1.conc
  rw [e2] at h3
  exact ⟨h3, h2⟩
theorem Conc.far {c : Ctx} {own : Own} {w w' : World} (g : Conc c own w) (hos : w'.os = w.os) (htape : w'.tape = w.tape) (hout : w'.output = w.output) (hsz : w.heap.size ≤ w'.heap.size) (hblk : ∀ b, b < w.heap.size → w'.heap[b]? = w.heap[b]?) :
    Conc c own w' ∧ Ext c own w c own w' :=
  g.grow ⟨hos, htape, hout, hsz, hblk, fun _ _ _ h => h, fun _ _ _ h => .inl h, fun _ _ h => h, rfl, rfl, ⟨fun b o u h => by
    have h1 := g.mem b o u h
    unfold World.cell? at h1 ⊢
    cases hb : w.heap[b]? with
    | none => rw [hb] at h1; simp at h1
    | some y =>
      rw [hblk b (Array.getElem?_eq_some_iff.1 hb).1]; exact h1, by obtain ⟨N, h⟩ := g.fin; exact ⟨N, fun k hk => (h k hk).1⟩⟩⟩
theorem Spec.sort {α : Type} [Inhabited α] {P : Program} {f : FuncId} (enc : α → Value) (henc : ∀ x, (enc x).oneCell' = true) (st : List α → List α) (hst : ∀ l, (st l).length = l.length)
    (hS : ∀ (blk off cap : Nat) (zs : List α) (w : World), Go.Sort.Holds enc w blk off zs.toArray → blk < w.heap.size → zs.length < 4611686018427387904 →
      Calls P f #[.slice (some ⟨blk, off, none⟩) zs.length cap] w fun e w' => e = .returned (.tuple #[]) ∧ ∃ n os, w' = Go.Sort.grow (Go.Sort.putRow enc (Go.Sort.ahead w n) blk off (st zs).toArray) os)
    (hN : ∀ (p : Option Addr) (cap : Nat) (w : World), Calls P f #[.slice p 0 cap] w fun e w' => e = .returned (.tuple #[]) ∧ w' = w)
    (H : Heap) (k : Nat) (e : TypeId) (l : List α) (hk : H k = some (.row e 1 (l.map fun x => .t (.v (enc x))))) (hl : l.length < 4611686018427387904) :
    Spec P f [.a (.os k 0 l.length 1)] H fun x H' => x = .tup [] ∧ H' = upd H k (some (.row e 1 ((st l).map fun x => .t (.v (enc x))))) := by
  intro c w vs hc hr
  obtain ⟨v, hv⟩ : ∃ v, vs = #[v] := by
    have := hr.1
    simp at this
    match vs, this with
    | ⟨[v]⟩, _ => exact ⟨v, rfl⟩
  subst hv
  have hv : RepA c.μ c.β (.os k 0 l.length 1) v := hr.2 0 (.a (.os k 0 l.length 1)) v rfl rfl
  have same : l = [] → upd H k (some (.row e 1 ((st l).map fun x => .t (.v (enc x))))) = H := fun h => by
    have h2 : st l = [] := List.length_eq_zero_iff.1 (by rw [hst, h]; rfl)
    rw [h2]; subst h
    funext j
    by_cases hj : j = k
    · subst hj; rw [upd_same, hk]
    · rw [upd_ne _ _ hj]
  generalize hn : l.length = n at hv
  cases hv with
  | os0 =>
    refine (hN _ _ w).mono ?_
    rintro ex w' ⟨rfl, rfl⟩
    refine ⟨_, .tup [], H, c, rfl, ⟨rfl, (same (List.length_eq_zero_iff.1 hn)).symm⟩, ⟨#[], rfl, .nil⟩, hc, .refl _ _ _⟩
  | osub hb ho => exact absurd ho (by omega)
  | @os _ _ _ b cap hb hpos =>
    have hne : ¬ (AO.row e 1 (l.map fun x => A.t (.v (enc x)))).empty := fun h => by simp only [AO.empty] at h; have := congrArg List.length h; simp at this; subst this; simp at hn; omega
    obtain ⟨b', n', h1, h2⟩ := hc.obj (.e k) _ hk hne
    have h1 : c.β k = some (b', n') := h1
    rw [hb] at h1; injection h1 with h1; injection h1 with e1 e2; subst e1 e2
    have hlt := h2.lt
    obtain ⟨us, h3, h4, h5, h6, h7⟩ := h2
    have hus : l.length ≤ us.size := by have := h6.1; simp at this; omega
    have hget : ∀ j (hj : j < l.length), us[j]? = some (enc l[j]) := fun j hj => by
      have hu : j < us.size := by omega
      have := h6.2 j (.t (.v (enc l[j]))) us[j] (by simp [hj]) (by simp [hj, hu])
      rw [Array.getElem?_eq_getElem hu]
      generalize us[j] = u at this
      cases this with | t h => cases h; rfl
    subst hn
    refine (hS b 0 cap l w (fun j hj => ?_) hlt hl).mono ?_
    · have hj : j < l.length := by simpa using hj
      refine ⟨?_, ?_⟩
      · unfold World.cell?; rw [h3]
        simp only [Nat.zero_add]
        rw [hget j hj]; simp [hj]
      · unfold World.frozen?; rw [h3]; simp
    · rintro ex w' ⟨rfl, m, os, rfl⟩
      have hb2 : (Go.Sort.putRow enc (Go.Sort.ahead w m) b 0 (st l).toArray).heap[b]? = some (.cells (Go.Sort.putCells enc 0 (st l).toArray us) e (0, 0)) := by
        simp [Go.Sort.putRow, Go.Sort.mapBlock, Array.getElem?_modify, h3, Go.Sort.onCells]
      have hob : ∀ j, j ≠ b → (Go.Sort.putRow enc (Go.Sort.ahead w m) b 0 (st l).toArray).heap[j]? = w.heap[j]? := fun j hj => by
        simp [Go.Sort.putRow, Go.Sort.mapBlock, Array.getElem?_modify, Ne.symm hj]
      obtain ⟨q1, q2⟩ := hc.write (w' := Go.Sort.putRow enc (Go.Sort.ahead w m) b 0 (st l).toArray) (x' := .row e 1 ((st l).map fun x => .t (.v (enc x)))) hk hne hb rfl rfl rfl (by simp) hob h7
        ⟨_, hb2, by simpa [Go.Sort.putCells] using h4, h5, ⟨by simp [Go.Sort.putCells, hst]; omega, fun j x u hx hu => by
          have hj : j < (st l).length := by
            have := (List.getElem?_eq_some_iff.1 hx).1
            simpa using this
          have hju : j < us.size := by have := hst l; omega
          have hx' : x = .t (.v (enc (st l)[j])) := by
            have := (List.getElem?_eq_some_iff.1 hx).2
            simpa using this.symm
          have hu' : u = enc (st l)[j] := by
            rw [List.getElem?_take] at hu
            split at hu
            · simp [Go.Sort.putCells, hju, hj] at hu
              exact hu.symm
            · cases hu
          subst hx' hu'
          exact .t (.v (henc _))⟩, h7⟩
      obtain ⟨q3, q4⟩ := q1.far (w' := Go.Sort.grow (Go.Sort.putRow enc (Go.Sort.ahead w m) b 0 (st l).toArray) os) rfl rfl rfl (by simp) (fun j hj => Go.Sort.heap_grow_old _ _ hj)
      exact ⟨_, .tup [], _, c, rfl, ⟨rfl, rfl⟩, ⟨#[], rfl, .nil⟩, q3, q2.trans q4⟩
end Go.Proofs.Ytojkjiakkcgfcaa.E
