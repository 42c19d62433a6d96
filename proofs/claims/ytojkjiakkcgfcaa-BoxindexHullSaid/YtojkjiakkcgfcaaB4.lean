/- Hulls, plainly: what meets one of two boxes. -/
import Derived.Test.YtojkjiakkcgfcaaW16
namespace Go.Proofs.Ytojkjiakkcgfcaa.W
open Go.RowKit E
set_option linter.unusedVariables false
theorem less_eq : ∀ (x y : List UInt8), Op.bytesLess x y = decide (x < y)
  | [], [] => by simp [Op.bytesLess]
  | _ :: _, [] => by simp [Op.bytesLess]
  | [], _ :: _ => by simp [Op.bytesLess]
  | a :: x, b :: y => by
    have ih := less_eq x y
    simp only [Op.bytesLess, List.cons_lt_cons_iff, ih]
    by_cases h : a < b <;> by_cases h2 : a = b <;> simp [h, h2]
def sle (p q : ByteArray) : Prop := ¬ q.data.toList < p.data.toList
theorem strLt_iff {p q : ByteArray} : strLt p q = true ↔ p.data.toList < q.data.toList := by unfold strLt; rw [less_eq]; simp
theorem sext {p q : ByteArray} (h : p.data.toList = q.data.toList) : p = q := by
  cases p; cases q; simp at h; exact congrArg _ (Array.toList_inj.1 (by simpa using h))
theorem sle_iff {p q : ByteArray} : (strLt p q || decide (p = q)) = true ↔ sle p q := by
  simp only [Bool.or_eq_true, decide_eq_true_eq, strLt_iff, sle]
  constructor
  · rintro (h | rfl)
    · exact List.lt_asymm h
    · exact List.lt_irrefl _
  · intro h
    by_cases h2 : p.data.toList < q.data.toList
    · exact .inl h2
    · exact .inr (sext (List.le_antisymm (List.not_lt.1 h) (List.not_lt.1 h2)))
theorem max_min_self (x y : ByteArray) : maxStr x (minStr x y) = x := by
  unfold maxStr minStr
  split
  · split <;> rfl
  · rename_i h
    rw [if_neg]
    intro h2
    have : (strLt x y || decide (x = y)) = true := by rw [h2]; rfl
    exact h this
theorem min_max_self (x y : ByteArray) : minStr x (maxStr x y) = x := by
  unfold maxStr minStr
  split
  · rename_i h; rw [if_pos (by rw [h]; rfl)]
  · rw [if_pos (by simp)]
theorem sle_anti {p q : ByteArray} (h : sle p q) (h' : sle q p) : p = q := sext (List.le_antisymm (List.not_lt.1 h) (List.not_lt.1 h'))
theorem maxStr_of {p q : ByteArray} (h : sle q p) : maxStr p q = p := by
  unfold maxStr; rw [if_neg]; intro h2; exact h (strLt_iff.1 h2)
theorem minStr_of {p q : ByteArray} (h : sle p q) : minStr p q = p := by
  unfold minStr; rw [if_pos (sle_iff.2 h)]
theorem minStr_sle (x y : ByteArray) : sle (minStr x y) y := by
  unfold minStr
  split
  · rename_i h; exact sle_iff.1 h
  · exact List.lt_irrefl _
theorem maxStr_sle (x y : ByteArray) : sle y (maxStr x y) := by
  unfold maxStr
  split
  · exact List.lt_irrefl _
  · rename_i h; exact fun h2 => h (strLt_iff.2 h2)
theorem good1 {s : Sd} (h : bad1 s = false) : (s.nul = true ∨ s.oth = true) ∧ s.lo ≤ s.hi ∧ sle s.fr s.to := by
  simp only [bad1, Bool.or_eq_false_iff, Bool.not_eq_false'] at h
  obtain ⟨⟨⟨_, h1⟩, h2⟩, h3⟩ := h
  refine ⟨?_, by simpa using h2, sle_iff.1 h3⟩
  cases hn : s.nul <;> cases ho : s.oth <;> simp_all
theorem meet1_left {x y : Sd} (hx : bad1 x = false) (hy : bad1 y = false) : meet1 x (hull1 x y) = true := by
  obtain ⟨h1, h2, h3⟩ := good1 hx
  obtain ⟨h4, h5, h6⟩ := good1 hy
  unfold hull1
  split
  · rename_i ho
    have hn : y.nul = true := by rcases h4 with h | h; exact h; rw [ho] at h; cases h
    unfold meet1
    rcases h1 with h | h
    · simp [h]
    · have e1 : maxStr x.fr x.fr = x.fr := maxStr_of (List.lt_irrefl _)
      have e2 : minStr x.to x.to = x.to := minStr_of (List.lt_irrefl _)
      simp only [h, e1, e2, hn, Bool.or_true, Bool.and_true, Int.max_self, Int.min_self, decide_eq_true h2, Bool.true_and, sle_iff.2 h3, Bool.true_or]
  · split
    · rename_i ho hx0
      have hn : x.nul = true := by rcases h1 with h | h; exact h; rw [hx0] at h; cases h
      simp [meet1, hn]
    · rename_i ho hx0
      have ho : y.oth = true := by simpa using ho
      have hx0 : x.oth = true := by simpa using hx0
      unfold meet1
      simp only [hx0, max_min_self, min_max_self, sle_iff.2 h3, Bool.and_true, Bool.true_and]
      have : max x.lo (min x.lo y.lo) ≤ min x.hi (max x.hi y.hi) := by omega
      simp [this]
theorem meet1_right {x y : Sd} (hx : bad1 x = false) (hy : bad1 y = false) : meet1 y (hull1 x y) = true := by
  obtain ⟨h1, h2, h3⟩ := good1 hx
  obtain ⟨h4, h5, h6⟩ := good1 hy
  unfold hull1
  split
  · rename_i ho
    have hn : y.nul = true := by rcases h4 with h | h; exact h; rw [ho] at h; cases h
    simp [meet1, hn]
  · rename_i ho
    have ho : y.oth = true := by simpa using ho
    split
    · have e1 : maxStr y.fr y.fr = y.fr := maxStr_of (List.lt_irrefl _)
      have e2 : minStr y.to y.to = y.to := minStr_of (List.lt_irrefl _)
      unfold meet1
      simp only [ho, e1, e2, Bool.and_true, Int.max_self, Int.min_self, decide_eq_true h5, Bool.true_and, sle_iff.2 h6, Bool.true_or]
    · rename_i hx0
      have hx0 : x.oth = true := by simpa using hx0
      unfold meet1
      have e1 : maxStr y.fr (minStr x.fr y.fr) = y.fr := maxStr_of (minStr_sle _ _)
      have e2 : minStr y.to (maxStr x.to y.to) = y.to := minStr_of (maxStr_sle _ _)
      simp only [ho, hx0, e1, e2, sle_iff.2 h6, Bool.and_true, Bool.true_and]
      have : max y.lo (min x.lo y.lo) ≤ min y.hi (max x.hi y.hi) := by omega
      simp [this]
theorem good_sides {b : Bx} (h : goodB b = true) : ∀ s ∈ b.ss, bad1 s = false := fun s hs => by
  simp only [goodB, Bool.and_eq_true, List.all_eq_true] at h
  simpa using h.2 s hs
theorem hull_len {a b : Bx} (h : a.ss.length = b.ss.length) : (hull a b).ss.length = a.ss.length := by simp [hull, h]
theorem meet_left {a b : Bx} (ha : goodB a = true) (hb : goodB b = true) (hl : a.ss.length = b.ss.length) (h0 : a.ss.length ≠ 0) : meet a (hull a b) = true := by
  have h1 := hull_len hl
  have : meetL a.ss (hull a b).ss = true := meetL_true h1.symm fun k hx hy => by
    have hk : k < b.ss.length := by omega
    have e : (hull a b).ss[k] = hull1 a.ss[k] b.ss[k] := by simp [hull]
    rw [e]; exact meet1_left (good_sides ha _ (List.getElem_mem _)) (good_sides hb _ (List.getElem_mem _))
  simp only [meet, this, h1]
  simpa [hull] using h0
theorem meet_right {a b : Bx} (ha : goodB a = true) (hb : goodB b = true) (ht : a.tb = b.tb) (hl : a.ss.length = b.ss.length) (h0 : a.ss.length ≠ 0) : meet b (hull a b) = true := by
  have h1 := hull_len hl
  have : meetL b.ss (hull a b).ss = true := meetL_true (by omega) fun k hx hy => by
    have hk : k < a.ss.length := by omega
    have e : (hull a b).ss[k] = hull1 a.ss[k] b.ss[k] := by simp [hull]
    rw [e]; exact meet1_right (good_sides ha _ (List.getElem_mem _)) (good_sides hb _ (List.getElem_mem _))
  simp only [meet, this, h1, hl]
  have : b.ss.length ≠ 0 := by omega
  simpa [hull, ht] using this
/-! ### boxes of one table have the same number of sides -/
theorem fair_at : ∀ {l : List Opn} {S : List Int}, S.length = 4 → fairGo S l = true → ∀ o ∈ l, 0 < o.b.ss.length → S.getD o.b.tb.toNat 0 = 0 ∨ S.getD o.b.tb.toNat 0 = (o.b.ss.length : Int)
  | [], _, _, _, o, ho, _ => by simp at ho
  | x :: l, S, hS, h, o, ho, hp => by
    rw [fairGo, Bool.and_eq_true] at h
    obtain ⟨h1, h2⟩ := h
    split at h2
    · cases h2
    · rename_i hn
      rcases List.mem_cons.1 ho with rfl | ho
      · by_cases h3 : S.getD o.b.tb.toNat 0 = 0
        · exact .inl h3
        · by_cases h4 : S.getD o.b.tb.toNat 0 = (o.b.ss.length : Int)
          · exact .inr h4
          · exact absurd ⟨hp, h3, h4⟩ hn
      · split at h2
        · rename_i hx
          have ih := fair_at (by simpa using hS) h2 o ho hp
          have hg := goodB_facts h1
          by_cases e : x.b.tb.toNat = o.b.tb.toNat
          · rw [← e] at ih ⊢
            have e2 : (S.set x.b.tb.toNat (x.b.ss.length : Int)).getD x.b.tb.toNat 0 = (x.b.ss.length : Int) := by
              rw [List.getD_eq_getElem?_getD, List.getElem?_set, if_pos rfl, if_pos (by omega)]; rfl
            rw [e2] at ih
            have ih : (x.b.ss.length : Int) = (o.b.ss.length : Int) := by omega
            by_cases h3 : S.getD x.b.tb.toNat 0 = 0
            · exact .inl h3
            · by_cases h4 : S.getD x.b.tb.toNat 0 = (x.b.ss.length : Int)
              · exact .inr (by rw [h4, ih])
              · exact absurd ⟨hx, h3, h4⟩ hn
          · have e2 : (S.set x.b.tb.toNat (x.b.ss.length : Int)).getD o.b.tb.toNat 0 = S.getD o.b.tb.toNat 0 := by
              rw [List.getD_eq_getElem?_getD, List.getElem?_set, if_neg e, List.getD_eq_getElem?_getD]
            rwa [e2] at ih
        · exact fair_at hS h2 o ho hp
theorem fair_same_len : ∀ {l : List Opn} {S : List Int}, S.length = 4 → fairGo S l = true → ∀ o ∈ l, ∀ o' ∈ l, o.b.tb = o'.b.tb → 0 < o.b.ss.length → 0 < o'.b.ss.length → o.b.ss.length = o'.b.ss.length
  | [], _, _, _, o, ho, _, _, _, _, _ => by simp at ho
  | x :: l, S, hS, h, o, ho, o', ho', ht, hp, hp' => by
    rw [fairGo, Bool.and_eq_true] at h
    obtain ⟨h1, h2⟩ := h
    split at h2
    · cases h2
    · rename_i hn
      have hg := goodB_facts h1
      have key : ∀ o ∈ l, x.b.tb = o.b.tb → 0 < x.b.ss.length → 0 < o.b.ss.length → x.b.ss.length = o.b.ss.length := fun o ho ht hx hp => by
        rw [if_pos hx] at h2
        have := fair_at (by simpa using hS) h2 o ho hp
        rw [← ht] at this
        have e2 : (S.set x.b.tb.toNat (x.b.ss.length : Int)).getD x.b.tb.toNat 0 = (x.b.ss.length : Int) := by
          rw [List.getD_eq_getElem?_getD, List.getElem?_set, if_pos rfl, if_pos (by omega)]; rfl
        rw [e2] at this
        omega
      rcases List.mem_cons.1 ho with rfl | ho1
      · rcases List.mem_cons.1 ho' with rfl | ho2
        · rfl
        · exact key o' ho2 ht hp hp'
      · rcases List.mem_cons.1 ho' with rfl | ho2
        · exact (key o ho1 ht.symm hp' hp).symm
        · exact fair_same_len (S := if 0 < x.b.ss.length then S.set x.b.tb.toNat (x.b.ss.length : Int) else S) (by split <;> simpa using hS) h2 o ho1 o' ho2 ht hp hp'
theorem fairB_go {l : List Opn} {m : Int} (h : fairB l m = true) : fairGo [0, 0, 0, 0] l = true := by simp [fairB] at h; exact h.2
/-- how many of two numbers a list of candidates holds -/
def bothN (a b : Int) (l : List Int) : Nat := (l.filter fun i => decide (i = a) || decide (i = b)).length
theorem bothN_succ {a b : Int} {l : List Int} {i : Nat} (h : i < l.length) : bothN a b (l.take (i + 1)) = bothN a b (l.take i) + (if l[i] = a ∨ l[i] = b then 1 else 0) := by
  unfold bothN
  rw [List.take_succ_eq_append_getElem h, List.filter_append, List.length_append]
  congr 1
  by_cases h1 : l[i] = a ∨ l[i] = b
  · rw [if_pos h1]; rcases h1 with h1 | h1 <;> simp [h1]
  · rw [if_neg h1]
    have : ¬ (decide (l[i] = a) || decide (l[i] = b)) = true := by simpa using h1
    simp [List.filter_cons, this]
theorem count1 {a : Int} : ∀ {l : List Int}, l.Nodup → a ∈ l → l.count a = 1
  | [], _, h => by simp at h
  | x :: l, hn, h => by
    obtain ⟨h1, h2⟩ := List.nodup_cons.1 hn
    by_cases e : x = a
    · subst e
      rw [List.count_cons_self, List.count_eq_zero.2 h1]
    · rw [List.count_cons_of_ne (by simpa using e)]
      exact count1 h2 ((List.mem_cons.1 h).resolve_left (fun h => e h.symm))
theorem bothN_asc {a b : Int} : ∀ {l : List Int}, l.Pairwise (· < ·) → a ∈ l → b ∈ l → bothN a b l = if a = b then 1 else 2 := by
  intro l hp ha hb
  have hn : l.Nodup := hp.imp fun h => by omega
  unfold bothN
  by_cases e : a = b
  · subst e
    rw [if_pos rfl]
    have h1 : (l.filter fun i => decide (i = a) || decide (i = a)) = l.filter (fun i => i == a) := by
      congr 1; funext i; by_cases h : i = a <;> simp [h]
    rw [h1, ← List.countP_eq_length_filter]
    have := count1 (a := a) hn ha
    exact this
  · rw [if_neg e]
    have h1 : ∀ l : List Int, (l.filter fun i => decide (i = a) || decide (i = b)).length = l.count a + l.count b := by
      intro l
      induction l with
      | nil => rfl
      | cons x l ih =>
        by_cases h1 : x = a
        · subst h1
          have : ¬ x = b := e
          simp [List.filter_cons, ih, List.count_cons, this]; omega
        · by_cases h2 : x = b
          · subst h2; simp [List.filter_cons, ih, List.count_cons, h1]; omega
          · simp [List.filter_cons, ih, List.count_cons, h1, h2]
    rw [h1]
    have h2 := count1 (a := a) hn ha
    have h3 := count1 (a := b) hn hb
    omega
theorem both_hull {f : Int → Option Bx} {l : List Opn} {its : List (Int × Bx)} {m : Int} (R : Rel f its) (hf : fairB l m = true) (hs : Sub l its) {i j : Nat} (hi : i < its.length) (hj : j < its.length) (ht : its[i].2.tb = its[j].2.tb) (hp : its[i].2.ss.length ≠ 0) (hp' : its[j].2.ss.length ≠ 0) :
    its[i].2.ss.length = its[j].2.ss.length ∧ bothN its[i].1 its[j].1 (wantedL its (hull its[i].2 its[j].2)) = if its[i].1 = its[j].1 then 1 else 2 := by
  obtain ⟨o, ho, e⟩ := hs _ (List.getElem_mem hi)
  obtain ⟨o', ho', e'⟩ := hs _ (List.getElem_mem hj)
  have hg := fairGo_good (fairB_go hf) o ho
  have hg' := fairGo_good (fairB_go hf) o' ho'
  rw [e] at hg; rw [e'] at hg'
  have hl : its[i].2.ss.length = its[j].2.ss.length := by
    have := fair_same_len (S := [0, 0, 0, 0]) rfl (fairB_go hf) o ho o' ho' (by rw [e, e']; exact ht) (by rw [e]; omega) (by rw [e']; omega)
    rwa [e, e'] at this
  refine ⟨hl, bothN_asc ?_ ?_ ?_⟩
  · unfold wantedL
    rw [List.pairwise_map]
    exact R.asc.sublist List.filter_sublist
  · exact List.mem_map.2 ⟨its[i], List.mem_filter.2 ⟨List.getElem_mem hi, meet_left hg hg' hl hp⟩, rfl⟩
  · exact List.mem_map.2 ⟨its[j], List.mem_filter.2 ⟨List.getElem_mem hj, meet_right hg hg' ht hl hp⟩, rfl⟩
end Go.Proofs.Ytojkjiakkcgfcaa.W
