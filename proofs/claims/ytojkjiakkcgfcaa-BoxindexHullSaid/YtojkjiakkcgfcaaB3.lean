/- The list of numbered boxes, and the function that it is. -/
import Derived.Test.YtojkjiakkcgfcaaW7
namespace Go.Proofs.Ytojkjiakkcgfcaa.W
open Go.RowKit E
set_option linter.unusedVariables false
structure Rel (f : Int → Option Bx) (l : List (Int × Bx)) : Prop where
  asc : l.Pairwise fun p q => p.1 < q.1
  get : ∀ i b, f i = some b ↔ (i, b) ∈ l
theorem Rel.nil : Rel (fun _ => none) [] := ⟨.nil, fun i b => by simp⟩
theorem mem_refDel {l : List (Int × Bx)} {id i : Int} {b : Bx} : (i, b) ∈ refDel l id ↔ (i, b) ∈ l ∧ i ≠ id := by simp [refDel]
theorem mem_ins {id i : Int} {b c : Bx} : ∀ {l : List (Int × Bx)}, (i, c) ∈ ins id b l ↔ (i, c) ∈ l ∨ (i = id ∧ c = b)
  | [] => by simp [ins]
  | y :: l => by
    unfold ins
    split
    · simp; constructor
      · rintro (h | h); exact .inr h; exact .inl h
      · rintro (h | h); exact .inr h; exact .inl h
    · have ih := mem_ins (id := id) (i := i) (b := b) (c := c) (l := l)
      simp only [List.mem_cons, ih]
      constructor
      · rintro (h | h | h); exact .inl (.inl h); exact .inl (.inr h); exact .inr h
      · rintro ((h | h) | h); exact .inl h; exact .inr (.inl h); exact .inr (.inr h)
theorem ins_asc {id : Int} {b : Bx} : ∀ {l : List (Int × Bx)}, l.Pairwise (fun p q => p.1 < q.1) → (∀ p ∈ l, p.1 ≠ id) → (ins id b l).Pairwise fun p q => p.1 < q.1
  | [], _, _ => by simp [ins]
  | y :: l, h, hn => by
    obtain ⟨h1, h2⟩ := List.pairwise_cons.1 h
    unfold ins
    split
    · rename_i hlt
      refine List.pairwise_cons.2 ⟨fun p hp => ?_, h⟩
      rcases List.mem_cons.1 hp with rfl | hp
      · exact hlt
      · have := h1 p hp; show id < p.1; omega
    · rename_i hlt
      refine List.pairwise_cons.2 ⟨fun p hp => ?_, ins_asc h2 fun p hp => hn p (by simp [hp])⟩
      obtain ⟨i, c⟩ := p
      rcases mem_ins.1 hp with hp | ⟨rfl, rfl⟩
      · exact h1 _ hp
      · have := hn y (by simp); show y.1 < i; omega
theorem Rel.del {f : Int → Option Bx} {l : List (Int × Bx)} (h : Rel f l) (id : Int) : Rel (fdel f id) (refDel l id) :=
  ⟨h.asc.sublist List.filter_sublist, fun i b => by
    rw [mem_refDel, ← h.get]; unfold fdel
    by_cases hi : i = id <;> simp [hi]⟩
theorem Rel.put {f : Int → Option Bx} {l : List (Int × Bx)} (h : Rel f l) (id : Int) (b : Bx) : Rel (fput f id b) (refPut l id b) :=
  ⟨ins_asc (h.del id).asc fun p hp => by obtain ⟨i, c⟩ := p; exact (mem_refDel.1 hp).2, fun i c => by
    unfold refPut
    rw [mem_ins, mem_refDel, ← h.get]; unfold fput
    by_cases hi : i = id
    · subst hi; simp [eq_comm]
    · simp [hi]⟩
theorem Rel.has {f : Int → Option Bx} {l : List (Int × Bx)} (h : Rel f l) (id : Int) : (f id).isSome = refHas l id := by
  unfold refHas
  cases hf : f id with
  | some b =>
    have := (h.get id b).1 hf
    symm; rw [Option.isSome_some, List.any_eq_true]
    exact ⟨_, this, by simp⟩
  | none =>
    symm; rw [Option.isSome_none, List.any_eq_false]
    rintro ⟨i, b⟩ hp hi
    have hi : i = id := by simpa using hi
    subst hi
    rw [(h.get i b).2 hp] at hf; cases hf
theorem ins_length {id : Int} {b : Bx} : ∀ {l : List (Int × Bx)}, (ins id b l).length = l.length + 1
  | [] => rfl
  | y :: l => by unfold ins; split <;> simp [ins_length]
theorem Rel.del_len {f : Int → Option Bx} {l : List (Int × Bx)} (h : Rel f l) (id : Int) : (refDel l id).length = if (f id).isSome = true then l.length - 1 else l.length := by
  have key : ∀ (l : List (Int × Bx)), l.Pairwise (fun p q => p.1 < q.1) → (refDel l id).length = if refHas l id = true then l.length - 1 else l.length := by
    intro l
    induction l with
    | nil => intro _; rfl
    | cons y l ih =>
      intro hp
      obtain ⟨h1, h2⟩ := List.pairwise_cons.1 hp
      have ih := ih h2
      by_cases hy : y.1 = id
      · have hno : refHas l id = false := by
          unfold refHas; rw [List.any_eq_false]
          intro p hp' e
          have e : p.1 = id := by simpa using e
          have := h1 p hp'; omega
        rw [hno] at ih
        have e1 : refDel (y :: l) id = refDel l id := by simp [refDel, hy]
        have e2 : refHas (y :: l) id = true := by simp [refHas, hy]
        rw [e1, e2]; simpa using ih
      · have e1 : refDel (y :: l) id = y :: refDel l id := by simp [refDel, hy]
        have e2 : refHas (y :: l) id = refHas l id := by simp [refHas, hy]
        rw [e1, e2, List.length_cons, ih]
        split
        · rename_i hh
          have : 0 < l.length := by cases l with
            | nil => cases hh
            | cons => simp
          simp; omega
        · rfl
  rw [h.has]; exact key l h.asc
theorem Rel.put_len {f : Int → Option Bx} {l : List (Int × Bx)} (h : Rel f l) (id : Int) (b : Bx) : (refPut l id b).length = (if (f id).isSome = true then l.length - 1 else l.length) + 1 := by
  unfold refPut; rw [ins_length, h.del_len]
theorem asc_ext : ∀ {a b : List Int}, a.Pairwise (· < ·) → b.Pairwise (· < ·) → (∀ i, i ∈ a ↔ i ∈ b) → a = b
  | [], [], _, _, _ => rfl
  | [], y :: b, _, _, h => by have := (h y).2 (by simp); simp at this
  | x :: a, [], _, _, h => by have := (h x).1 (by simp); simp at this
  | x :: a, y :: b, ha, hb, h => by
    obtain ⟨h1, h2⟩ := List.pairwise_cons.1 ha
    obtain ⟨h3, h4⟩ := List.pairwise_cons.1 hb
    have e : x = y := by
      have hx := (h x).1 (by simp)
      have hy := (h y).2 (by simp)
      rcases List.mem_cons.1 hx with hx | hx
      · exact hx
      · rcases List.mem_cons.1 hy with hy | hy
        · exact hy.symm
        · have := h1 y hy; have := h3 x hx; omega
    subst e
    rw [asc_ext h2 h4 fun i => ?_]
    constructor
    · intro hi
      rcases List.mem_cons.1 ((h i).1 (by simp [hi])) with rfl | h5
      · have := h1 i hi; omega
      · exact h5
    · intro hi
      rcases List.mem_cons.1 ((h i).2 (by simp [hi])) with rfl | h5
      · have := h3 i hi; omega
      · exact h5
theorem Rel.wanted {f : Int → Option Bx} {l : List (Int × Bx)} (h : Rel f l) {b : Bx} {cs : List Int} (hc : CandOf f b cs) : cs = wantedL l b := by
  refine asc_ext hc.asc ?_ fun i => ?_
  · unfold wantedL
    rw [List.pairwise_map]
    exact h.asc.sublist List.filter_sublist
  · rw [hc.mem]
    unfold wantedL
    simp only [List.mem_map, List.mem_filter]
    constructor
    · rintro ⟨b', h1, h2⟩; exact ⟨(i, b'), ⟨(h.get i b').1 h1, h2⟩, rfl⟩
    · rintro ⟨⟨j, b'⟩, ⟨h1, h2⟩, rfl⟩; exact ⟨b', (h.get j b').2 h1, h2⟩
theorem flat_i64 (cs : List Int) : (cs.map i64T).flatten.map A.t = cs.map i64A := by
  induction cs with
  | nil => rfl
  | cons c cs ih => simp only [List.map_cons, List.flatten_cons, List.map_append, ih]; rfl
theorem cand_pure (H : Heap) (k N : Nat) (f : Int → Option Bx) (l : List (Int × Bx)) (b : Bx) (z : Nz) (I : Idx H k f N) (R : Rel f l) (hN9 : N ≤ 1000000) (hs : b.ss.length ≤ 1000000) :
    E.Spec Try.prog 14 [.a (.bp k 0), bxC z b] H fun x H' => x = .c (int64Z .un (wantedL l b)) ∧ H' = H :=
  E.Spec.freeze (cand_any H k N f b z I hN9 hs) fun x H' ⟨kr, cs, h1, h2, hx, hH⟩ => ⟨kr, 1, 2, cs.map i64T, by rw [hH, upd_same, flat_i64], fun e he => by obtain ⟨s, _, rfl⟩ := List.mem_map.1 he; rfl, by decide, by
    subst hx hH
    refine ⟨?_, upd_back h1⟩
    rw [← R.wanted h2]
    simp [fzX, fzC, fzA]⟩
end Go.Proofs.Ytojkjiakkcgfcaa.W
