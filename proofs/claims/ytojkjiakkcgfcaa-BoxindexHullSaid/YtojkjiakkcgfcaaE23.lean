/- Lists of entries: plain laws. -/
import Derived.Test.YtojkjiakkcgfcaaE22
namespace Go.Proofs.Ytojkjiakkcgfcaa.E
open Go.RowKit
set_option linter.unusedVariables false
structure MOk (kk : KK) (es : List ME) (ck : Nat) : Prop where
  key : ∀ m ∈ es, kok kk m.k = true
  born : ∀ m ∈ es, m.b < ck
  nodup : (es.map (·.k)).Nodup
  inj : (es.map (·.b)).Nodup
section
variable {kk : KK} {k k' : Value} {x : C} {ck : Nat} {es : List ME}
theorem MOk.nil : MOk kk [] 0 := ⟨fun _ h => by simp at h, fun _ h => by simp at h, by simp, by simp⟩
theorem keq_refl (hk : kok kk k = true) : keq k k = true := (keq_iff hk hk).2 rfl
theorem mget_mem (h : MOk kk es ck) {m : ME} (hm : m ∈ es) : mget m.k es = some m.x := by
  obtain ⟨j, hj⟩ := List.getElem?_of_mem hm
  exact (m_some (x := .g []) (ck := 0) (h.key m hm) h.key h.nodup hj rfl).1
theorem mget_some (hk : kok kk k = true) (hs : ∀ m ∈ es, kok kk m.k = true) (h : mget k es = some x) : ∃ m ∈ es, m.k = k ∧ m.x = x := by
  induction es with
  | nil => cases h
  | cons e es ih =>
    simp only [mget] at h
    cases hq : keq k e.k with
    | true => rw [hq] at h; injection h with h; exact ⟨e, by simp, ((keq_iff hk (hs e (by simp))).1 hq).symm, h⟩
    | false =>
      rw [hq] at h
      obtain ⟨m, h1, h2⟩ := ih (fun m hm => hs m (by simp [hm])) h
      exact ⟨m, by simp [h1], h2⟩
theorem mget_none (hk : kok kk k = true) (hs : ∀ m ∈ es, kok kk m.k = true) (h : mget k es = none) : ∀ m ∈ es, m.k ≠ k := by
  induction es with
  | nil => intro m hm; simp at hm
  | cons e es ih =>
    simp only [mget] at h
    cases hq : keq k e.k with
    | true => rw [hq] at h; cases h
    | false =>
      rw [hq] at h
      intro m hm
      rcases List.mem_cons.1 hm with rfl | hm
      · intro e1; rw [← e1, keq_refl (hs m (by simp))] at hq; cases hq
      · exact ih (fun m hm => hs m (by simp [hm])) h m hm
theorem mget_mset (hk : kok kk k = true) (hk' : kok kk k' = true) (hs : ∀ m ∈ es, kok kk m.k = true) : mget k (mset k' x ck es) = bif keq k k' then some x else mget k es := by
  induction es with
  | nil => simp [mset, mget]
  | cons e es ih =>
    have ih := ih fun m hm => hs m (by simp [hm])
    have he := hs e (by simp)
    simp only [mset]
    cases h1 : keq k' e.k with
    | true =>
      have e1 := (keq_iff hk' he).1 h1
      subst e1
      simp only [cond_true, mget]
      cases keq k e.k <;> rfl
    | false =>
      simp only [cond_false, mget, ih]
      cases h2 : keq k e.k with
      | true =>
        have e2 := (keq_iff hk he).1 h2
        subst e2
        have : keq e.k k' = false := by
          cases h3 : keq e.k k' with
          | false => rfl
          | true => have e3 := (keq_iff hk hk').1 h3; rw [← e3, keq_refl hk] at h1; cases h1
        simp [this]
      | false => rfl
theorem mget_mdel (h : MOk kk es ck) (hk : kok kk k = true) (hk' : kok kk k' = true) : mget k (mdel k' es) = bif keq k k' then none else mget k es := by
  have hs := h.key
  have hn := h.nodup
  clear h
  induction es with
  | nil => simp [mdel, mget]
  | cons e es ih =>
    obtain ⟨hn1, hn2⟩ := List.nodup_cons.1 hn
    have ih := ih (fun m hm => hs m (by simp [hm])) hn2
    have he := hs e (by simp)
    simp only [mdel]
    cases h1 : keq k' e.k with
    | true =>
      have e1 := (keq_iff hk' he).1 h1
      subst e1
      simp only [cond_true, mget]
      cases h2 : keq k e.k with
      | true =>
        have e2 := (keq_iff hk he).1 h2
        subst e2
        simp only [cond_true]
        exact (m_none (x := .g []) (ck := 0) hk (fun m hm => hs m (by simp [hm])) fun m hm e3 => hn1 (List.mem_map.2 ⟨m, hm, e3⟩)).1
      | false => rfl
    | false =>
      simp only [cond_false, mget, ih]
      cases h2 : keq k e.k with
      | true =>
        have e2 := (keq_iff hk he).1 h2
        subst e2
        have : keq e.k k' = false := by
          cases h3 : keq e.k k' with
          | false => rfl
          | true => have e3 := (keq_iff hk hk').1 h3; rw [← e3, keq_refl hk] at h1; cases h1
        simp [this]
      | false => rfl
theorem mset_length : (mset k x ck es).length = match mget k es with | some _ => es.length | none => es.length + 1 := by
  induction es with
  | nil => rfl
  | cons e es ih =>
    simp only [mset, mget]
    cases keq k e.k with
    | true => rfl
    | false =>
      simp only [cond_false, List.length_cons, ih]
      cases mget k es <;> rfl
theorem mdel_length : (mdel k es).length = match mget k es with | some _ => es.length - 1 | none => es.length := by
  induction es with
  | nil => rfl
  | cons e es ih =>
    simp only [mdel, mget]
    cases keq k e.k with
    | true => simp
    | false =>
      simp only [cond_false, List.length_cons, ih]
      cases h : mget k es with
      | none => rfl
      | some y =>
        have : 0 < es.length := by cases es with
          | nil => cases h
          | cons => simp
        show es.length - 1 + 1 = es.length + 1 - 1
        omega
theorem mset_keys (hk : kok kk k = true) (hs : ∀ m ∈ es, kok kk m.k = true) : (mset k x ck es).map (·.k) = match mget k es with | some _ => es.map (·.k) | none => es.map (·.k) ++ [k] := by
  induction es with
  | nil => rfl
  | cons e es ih =>
    have ih := ih fun m hm => hs m (by simp [hm])
    simp only [mset, mget]
    cases h : keq k e.k with
    | true => have := (keq_iff hk (hs e (by simp))).1 h; subst this; rfl
    | false =>
      simp only [cond_false, List.map_cons, ih]
      cases mget k es <;> rfl
theorem mset_borns : (mset k x ck es).map (·.b) = match mget k es with | some _ => es.map (·.b) | none => es.map (·.b) ++ [ck] := by
  induction es with
  | nil => rfl
  | cons e es ih =>
    simp only [mset, mget]
    cases h : keq k e.k with
    | true => rfl
    | false =>
      simp only [cond_false, List.map_cons, ih]
      cases mget k es <;> rfl
theorem mem_mset {m : ME} (h : m ∈ mset k x ck es) : m ∈ es ∨ (m.k = k ∧ (m.b = ck ∨ ∃ e ∈ es, m.b = e.b)) := by
  induction es with
  | nil => simp [mset] at h; subst h; exact .inr ⟨rfl, .inl rfl⟩
  | cons e es ih =>
    simp only [mset] at h
    cases hq : keq k e.k with
    | true =>
      rw [hq] at h
      rcases List.mem_cons.1 h with rfl | h
      · exact .inr ⟨rfl, .inr ⟨e, by simp, rfl⟩⟩
      · exact .inl (by simp [h])
    | false =>
      rw [hq] at h
      rcases List.mem_cons.1 h with rfl | h
      · exact .inl (by simp)
      · rcases ih h with h | ⟨h1, h2 | ⟨e', h2, h3⟩⟩
        · exact .inl (by simp [h])
        · exact .inr ⟨h1, .inl h2⟩
        · exact .inr ⟨h1, .inr ⟨e', by simp [h2], h3⟩⟩
theorem MOk.set (h : MOk kk es ck) (hk : kok kk k = true) : MOk kk (mset k x ck es) (mclock k es ck) := by
  have hle : ck ≤ mclock k es ck := by unfold mclock; split <;> omega
  refine ⟨fun m hm => ?_, fun m hm => ?_, ?_, ?_⟩
  · rcases mem_mset hm with h1 | ⟨h1, _⟩
    · exact h.key m h1
    · rw [h1]; exact hk
  · cases hg : mget k es with
    | some y =>
      have hb := mset_borns (k := k) (x := x) (ck := ck) (es := es)
      rw [hg] at hb
      have : m.b ∈ (mset k x ck es).map (·.b) := List.mem_map.2 ⟨m, hm, rfl⟩
      rw [hb] at this
      obtain ⟨e, h1, h2⟩ := List.mem_map.1 this
      have := h.born e h1; omega
    | none =>
      have hc : mclock k es ck = ck + 1 := by simp [mclock, hg]
      rcases mem_mset hm with h1 | ⟨_, h1 | ⟨e, h1, h2⟩⟩
      · have := h.born m h1; omega
      · omega
      · have := h.born e h1; omega
  · rw [mset_keys hk h.key]
    cases hg : mget k es with
    | some y => exact h.nodup
    | none =>
      simp only
      rw [List.nodup_append]
      refine ⟨h.nodup, by simp, fun a ha b hb e => ?_⟩
      simp at hb; subst hb e
      obtain ⟨m, hm, e1⟩ := List.mem_map.1 ha
      exact mget_none hk h.key hg m hm e1
  · rw [mset_borns]
    cases hg : mget k es with
    | some y => exact h.inj
    | none =>
      simp only
      rw [List.nodup_append]
      refine ⟨h.inj, by simp, fun a ha b hb e => ?_⟩
      simp at hb; subst hb e
      obtain ⟨m, hm, e1⟩ := List.mem_map.1 ha
      have := h.born m hm; omega
theorem mdel_sub : (mdel k es).Sublist es := by
  induction es with
  | nil => exact .slnil
  | cons e es ih =>
    simp only [mdel]
    cases keq k e.k with
    | true => exact List.sublist_cons_self _ _
    | false => exact ih.cons_cons _
theorem MOk.del (h : MOk kk es ck) : MOk kk (mdel k es) ck :=
  ⟨fun m hm => h.key m (mdel_sub.subset hm), fun m hm => h.born m (mdel_sub.subset hm), (mdel_sub.map _).nodup h.nodup, (mdel_sub.map _).nodup h.inj⟩
end
end Go.Proofs.Ytojkjiakkcgfcaa.E
