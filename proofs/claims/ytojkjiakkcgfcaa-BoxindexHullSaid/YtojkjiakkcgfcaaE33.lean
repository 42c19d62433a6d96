/- Regions that draw, with operations whose result is not determined. Plain theorems, for any program. -/
import Derived.Test.YtojkjiakkcgfcaaE32
namespace Go.Proofs.Ytojkjiakkcgfcaa.E
open Go.RowKit
set_option linter.unusedVariables false
/-- an operation that looks at the places R alone and turns the places W alone, to one of several states -/
def NOp (P : Program) (all : Array Oper) (o : Oper) (R W : List Loc) (s : S) (K : S → Prop) : Prop :=
  ∀ s1, Len s1 s → (∀ ℓ, ℓ ∈ R → Same ℓ s1 s) → OpW P all o (fun s2 => ∃ s', Len s' s ∧ (∀ ℓ, ℓ ∉ W → Same ℓ s' s) ∧ s2 = s1.over W s' ∧ K s') s1
abbrev Hi := Nat × Fp
def okO (all : Array Oper) (hs : List Hi) : Bool :=
  (List.range hs.length).all fun j => (List.range j).all fun i => !conflict (hs.getD i default).2 (hs.getD j default).2 || reach all 8 (hs.getD j default).1 (hs.getD i default).1
def aheadO (all : Array Oper) (dn : List Nat) (j : Nat) : Bool := (all.getD j default).after.all fun e => !Region.binds .any e || dn.contains e.on
def okX (all : Array Oper) (j : Nat) (rest : List Nat) : Bool := rest.all fun i => reach all 8 i j
def LexO (P : Program) (all : Array Oper) (K : S → Prop) : List Nat → S → List Hi → Prop
  | [], s, hs => okO all hs = true ∧ K s
  | j :: rest, s, hs => aheadO all (hs.map (·.1)) j = true ∧ ∃ o, all[j]? = some o ∧
      ((∃ R W s', LOp P all o R W s s' ∧ LexO P all K rest s' (hs ++ [(j, (R, W))])) ∨
       (okX all j rest = true ∧ ∃ R W, okO all (hs ++ [(j, (R, W))]) = true ∧ NOp P all o R W s fun s' => LexO P all K rest s' (hs ++ [(j, (R, W))])))
section
variable {P : Program} {all : Array Oper} {K : S → Prop}
/-- the places as they stand when the operations Lm have been carried out -/
def standO (hs : List Hi) (sq : Nat → S) (Lm : Array Bool) : Nat → S
  | 0 => sq 0
  | i + 1 => if Lm.getD (hs.getD i default).1 false = true then (standO hs sq Lm i).over (hs.getD i default).2.2 (sq (i + 1)) else standO hs sq Lm i
/-- a step of a history: one that may be run, or one that has been -/
structure StepO (P : Program) (all : Array Oper) (hs : List Hi) (sq : Nat → S) (Lm : Array Bool) (i : Nat) : Prop where
  len : Len (sq (i + 1)) (sq i)
  out : ∀ ℓ, ℓ ∉ (hs.getD i default).2.2 → Same ℓ (sq (i + 1)) (sq i)
  run : Lm.getD (hs.getD i default).1 false = true ∨ ∃ o, all[(hs.getD i default).1]? = some o ∧ LOp P all o (hs.getD i default).2.1 (hs.getD i default).2.2 (sq i) (sq (i + 1))
variable {hs : List Hi} {sq : Nat → S} {Lm : Array Bool}
theorem standO_len : ∀ k, Len (standO hs sq Lm k) (sq 0)
  | 0 => rfl
  | k + 1 => by
    simp only [standO]
    split
    · exact (over_len (hs.getD k default).2.2 (standO hs sq Lm k) (sq (k + 1))).trans (standO_len k)
    · exact standO_len k
theorem sqO_len (hL : ∀ i, i < hs.length → StepO P all hs sq Lm i) : ∀ k, k ≤ hs.length → Len (sq k) (sq 0)
  | 0, _ => rfl
  | k + 1, h => (hL k (by omega)).len.trans (sqO_len hL k (by omega))
theorem standO_same (hL : ∀ i, i < hs.length → StepO P all hs sq Lm i) {ℓ : Loc} :
    ∀ k, k ≤ hs.length → (∀ i, i < k → ℓ ∈ (hs.getD i default).2.2 → Lm.getD (hs.getD i default).1 false = true) → Same ℓ (standO hs sq Lm k) (sq k)
  | 0, _, _ => .refl _ _
  | k + 1, hk, h => by
    have ho := hL k (by omega)
    simp only [standO]
    by_cases hw : ℓ ∈ (hs.getD k default).2.2
    · rw [if_pos (h k (by omega) hw)]
      exact over_in hw
    · have ih := standO_same hL k (by omega) (fun i hi => h i (by omega)) (ℓ := ℓ)
      split
      · exact (over_out hw).trans (ih.trans (ho.out ℓ hw).symm)
      · exact ih.trans (ho.out ℓ hw).symm
theorem standO_later {ℓ : Loc} {j : Nat} : ∀ k, j ≤ k → (∀ i, j ≤ i → i < k → ℓ ∈ (hs.getD i default).2.2 → Lm.getD (hs.getD i default).1 false = false) → Same ℓ (standO hs sq Lm k) (standO hs sq Lm j)
  | 0, hk, h => by obtain rfl : j = 0 := by omega
                   exact .refl _ _
  | k + 1, hk, h => by
    by_cases e : j = k + 1
    · subst e; exact .refl _ _
    · simp only [standO]
      have ih := standO_later (ℓ := ℓ) (j := j) k (by omega) (fun i h1 h2 => h i h1 (by omega))
      split
      · rename_i hl
        refine (over_out fun hw => ?_).trans ih
        rw [h k (by omega) (by omega) hw] at hl; cases hl
      · exact ih
theorem okO_at (h : okO all hs = true) {j : Nat} (hj : j < hs.length) : ∀ i, i < j → conflict (hs.getD i default).2 (hs.getD j default).2 = false ∨ reach all 8 (hs.getD j default).1 (hs.getD i default).1 = true := by
  simp only [okO, List.all_eq_true, List.mem_range, Bool.or_eq_true, Bool.not_eq_true'] at h
  exact h j hj
def Aheads (all : Array Oper) (hs : List Hi) : Prop := ∀ k, k < hs.length → aheadO all ((hs.take k).map (·.1)) (hs.getD k default).1 = true
/-- where a history ends: nothing is left, or the next operation's result is not determined -/
def EndO (P : Program) (all : Array Oper) (K : S → Prop) (hs : List Hi) (rest : List Nat) (s : S) : Prop :=
  (rest = [] ∧ okO all hs = true ∧ K s) ∨ ∃ j r o R W, rest = j :: r ∧ aheadO all (hs.map (·.1)) j = true ∧ all[j]? = some o ∧ okX all j r = true ∧ okO all (hs ++ [(j, (R, W))]) = true ∧ NOp P all o R W s fun s' => LexO P all K r s' (hs ++ [(j, (R, W))])
theorem getD_app1 {t : List Hi} {i : Nat} (h : i < hs.length) : (hs ++ t).getD i default = hs.getD i default := by
  rw [List.getD_eq_getElem?_getD, List.getD_eq_getElem?_getD, List.getElem?_append_left h]
theorem getD_app2 {x : Hi} : (hs ++ [x]).getD hs.length default = x := by
  rw [List.getD_eq_getElem?_getD, List.getElem?_append_right (Nat.le_refl _)]; simp
theorem StepO.app {t : List Hi} {sq' : Nat → S} {i : Nat} (h : StepO P all hs sq Lm i) (hi : i < hs.length) (h1 : sq' i = sq i) (h2 : sq' (i + 1) = sq (i + 1)) : StepO P all (hs ++ t) sq' Lm i := by
  obtain ⟨a, b, c⟩ := h
  rw [← h1, ← h2] at a
  refine ⟨a, ?_, ?_⟩
  · rw [getD_app1 hi, h1, h2]; exact b
  · rw [getD_app1 hi, h1, h2]; exact c
theorem Aheads.snoc (h : Aheads all hs) {x : Hi} (hx : aheadO all (hs.map (·.1)) x.1 = true) : Aheads all (hs ++ [x]) := fun k hk => by
  by_cases e : k < hs.length
  · rw [getD_app1 e, List.take_append_of_le_length (by omega)]; exact h k e
  · have : k = hs.length := by simp at hk; omega
    subst this
    rw [getD_app2, List.take_append_of_le_length (Nat.le_refl _), List.take_length]; exact hx
theorem LexO.ext : ∀ (rest : List Nat) (hs : List Hi) (sq : Nat → S), LexO P all K rest (sq hs.length) hs → (∀ i, i < hs.length → StepO P all hs sq Lm i) → Aheads all hs →
    ∃ (t : List Hi) (sq' : Nat → S) (rest' : List Nat), rest = t.map (·.1) ++ rest' ∧ (∀ i, i ≤ hs.length → sq' i = sq i) ∧ (∀ i, i < (hs ++ t).length → StepO P all (hs ++ t) sq' Lm i) ∧ Aheads all (hs ++ t) ∧ EndO P all K (hs ++ t) rest' (sq' (hs ++ t).length)
  | [], hs, sq, h, hL, ha => ⟨[], sq, [], rfl, fun _ _ => rfl, by simpa using hL, by simpa using ha, .inl ⟨rfl, by simpa using h.1, by simpa using h.2⟩⟩
  | j :: rest, hs, sq, h, hL, ha => by
    obtain ⟨h1, o, ho, ⟨R, W, s', hop, k⟩ | ⟨hx, R, W, hok, hn⟩⟩ := h
    · let sq1 : Nat → S := fun i => if i ≤ hs.length then sq i else s'
      have e1 : ∀ i, i ≤ hs.length → sq1 i = sq i := fun i hi => if_pos hi
      have e2 : sq1 (hs.length + 1) = s' := if_neg (by omega)
      have hlen : (hs ++ [(j, (R, W))]).length = hs.length + 1 := by simp
      have hL1 : ∀ i, i < (hs ++ [(j, (R, W))]).length → StepO P all (hs ++ [(j, (R, W))]) sq1 Lm i := fun i hi => by
        by_cases e : i < hs.length
        · exact (hL i e).app e (e1 i (by omega)) (e1 (i + 1) (by omega))
        · have : i = hs.length := by omega
          subst this
          refine ⟨?_, ?_, .inr ⟨o, ?_, ?_⟩⟩
          · rw [e2, e1 _ (Nat.le_refl _)]; exact hop.len
          · rw [getD_app2, e2, e1 _ (Nat.le_refl _)]; exact hop.out
          · rw [getD_app2]; exact ho
          · rw [getD_app2, e2, e1 _ (Nat.le_refl _)]; exact hop
      obtain ⟨t, sq', rest', g1, g2, g3, g4, g5⟩ := LexO.ext rest (hs ++ [(j, (R, W))]) sq1 (by rw [hlen, e2]; exact k) hL1 (ha.snoc h1)
      have ea : hs ++ [(j, (R, W))] ++ t = hs ++ ((j, (R, W)) :: t) := by simp
      rw [ea] at g3 g4 g5
      exact ⟨(j, (R, W)) :: t, sq', rest', by rw [g1]; rfl, fun i hi => (g2 i (by rw [hlen]; omega)).trans (e1 i hi), g3, g4, g5⟩
    · exact ⟨[], sq, j :: rest, rfl, fun _ _ => rfl, by simpa using hL, by simpa using ha, .inr ⟨j, rest, o, R, W, rfl, by simpa using h1, ho, hx, by simpa using hok, by simpa using hn⟩⟩
theorem hi_at {hs : List Hi} {i : Nat} (h : i < hs.length) : (hs.getD i default).1 ∈ hs.map (·.1) := by
  rw [List.getD_eq_getElem?_getD, List.getElem?_eq_getElem h]; exact List.mem_map.2 ⟨_, List.getElem_mem h, rfl⟩
theorem okO_pre {x : Hi} (h : okO all (hs ++ [x]) = true) {j : Nat} (hj : j < hs.length) : ∀ i, i < j → conflict (hs.getD i default).2 (hs.getD j default).2 = false ∨ reach all 8 (hs.getD j default).1 (hs.getD i default).1 = true := fun i hi => by
  have := okO_at h (j := j) (by simp; omega) i hi
  rwa [getD_app1 hj, getD_app1 (by omega)] at this
theorem EndO.ok {rest : List Nat} {s : S} (h : EndO P all K hs rest s) {j : Nat} (hj : j < hs.length) : ∀ i, i < j → conflict (hs.getD i default).2 (hs.getD j default).2 = false ∨ reach all 8 (hs.getD j default).1 (hs.getD i default).1 = true := by
  rcases h with ⟨_, h, _⟩ | ⟨j', r, o, R, W, _, _, _, _, h, _⟩
  · exact okO_at h hj
  · exact okO_pre h hj
/-- different places of a history are different operations -/
theorem hi_inj {hs : List Hi} {rest : List Nat} (h : (hs.map (·.1) ++ rest).Nodup) {i k : Nat} (hi : i < hs.length) (hk : k < hs.length) (hne : i ≠ k) : (hs.getD i default).1 ≠ (hs.getD k default).1 := fun e => by
  have h1 := (List.nodup_append.1 h).1
  have h2 := List.pairwise_iff_getElem.1 h1
  rw [List.getD_eq_getElem?_getD, List.getElem?_eq_getElem hi, List.getD_eq_getElem?_getD, List.getElem?_eq_getElem hk] at e
  rcases Nat.lt_or_gt_of_ne hne with h3 | h3
  · exact h2 i k (by simpa using hi) (by simpa using hk) h3 (by simpa using e)
  · exact h2 k i (by simpa using hk) (by simpa using hi) h3 (by simpa using e.symm)
/-- what it looks at stands as in the canonical order -/
theorem standO_read {rest : List Nat} {s : S} {q : Nat} {R : List Loc} (hq : q ≤ hs.length) (hL : ∀ i, i < hs.length → StepO P all hs sq Lm i)
    (hbefore : ∀ i, i < q → ∀ ℓ, ℓ ∈ (hs.getD i default).2.2 → ℓ ∈ R → Lm.getD (hs.getD i default).1 false = true)
    (hlater : ∀ i, q ≤ i → i < hs.length → Lm.getD (hs.getD i default).1 false = true → ∀ ℓ, ℓ ∈ R → ℓ ∉ (hs.getD i default).2.2) :
    ∀ ℓ, ℓ ∈ R → Same ℓ (standO hs sq Lm hs.length) (sq q) := fun ℓ hℓ =>
  (standO_later (j := q) hs.length hq fun i h1 h2 hw => by
    cases h3 : Lm.getD (hs.getD i default).1 false with
    | false => rfl
    | true => exact absurd hw (hlater i h1 h2 h3 ℓ hℓ)).trans (standO_same hL q hq fun i hi hw => hbefore i hi ℓ hw hℓ)
/-- one more is carried out -/
theorem standO_set {rest : List Nat} (hnd : (hs.map (·.1) ++ rest).Nodup) {q : Nat} (hq : q < hs.length) (hsz : (hs.getD q default).1 < Lm.size) (hL : ∀ i, i < hs.length → StepO P all hs sq Lm i) (hun : Lm.getD (hs.getD q default).1 false = false)
    (hbefore : ∀ i, i < q → ∀ ℓ, ℓ ∈ (hs.getD i default).2.2 → ℓ ∈ (hs.getD q default).2.2 → Lm.getD (hs.getD i default).1 false = true)
    (hlater : ∀ i, q < i → i < hs.length → Lm.getD (hs.getD i default).1 false = true → ∀ ℓ, ℓ ∈ (hs.getD q default).2.2 → ℓ ∉ (hs.getD i default).2.2) :
    (standO hs sq Lm hs.length).over (hs.getD q default).2.2 (sq (q + 1)) = standO hs sq (Lm.setIfInBounds (hs.getD q default).1 true) hs.length := by
  have hne : ∀ i, i < hs.length → i ≠ q → (hs.getD q default).1 ≠ (hs.getD i default).1 := fun i hi e => hi_inj hnd hq hi (Ne.symm e)
  have hself : (Lm.setIfInBounds (hs.getD q default).1 true).getD (hs.getD q default).1 false = true := getD_set_self hsz
  have hL1 : ∀ i, i < hs.length → StepO P all hs sq (Lm.setIfInBounds (hs.getD q default).1 true) i := fun i hi => ⟨(hL i hi).len, (hL i hi).out, (hL i hi).run.imp (fun h => getD_set_true h) id⟩
  refine S.ext' ((over_len _ _ _).trans ((standO_len _).trans (standO_len _).symm)) fun ℓ => ?_
  by_cases hw : ℓ ∈ (hs.getD q default).2.2
  · refine (over_in hw).trans ?_
    refine Same.symm ((standO_later (j := q + 1) hs.length (by omega) fun i h1 h2 hwi => ?_).trans (standO_same hL1 (q + 1) (by omega) fun i hi hwi => ?_))
    · rw [getD_set_ne false (hne i h2 (by omega))]
      cases h3 : Lm.getD (hs.getD i default).1 false with
      | false => rfl
      | true => exact absurd hwi (hlater i (by omega) h2 h3 ℓ hw)
    · by_cases hij : i = q
      · subst hij; exact hself
      · exact getD_set_true (hbefore i (by omega) ℓ hwi hw)
  · refine (over_out hw).trans ?_
    have key : ∀ k, k ≤ hs.length → Same ℓ (standO hs sq Lm k) (standO hs sq (Lm.setIfInBounds (hs.getD q default).1 true) k) := by
      intro k
      induction k with
      | zero => intro _; exact .refl _ _
      | succ k ihk =>
        intro hk
        have ihk := ihk (by omega)
        simp only [standO]
        by_cases hkj : k = q
        · subst hkj
          rw [if_neg (by rw [hun]; simp), if_pos hself]
          exact ihk.trans (over_out hw).symm
        · rw [getD_set_ne false (hne k (by omega) hkj)]
          split
          · by_cases hwk : ℓ ∈ (hs.getD k default).2.2
            · exact (over_in hwk).trans (over_in hwk).symm
            · exact (over_out hwk).trans (ihk.trans (over_out hwk).symm)
          · exact ihk
    exact key hs.length (Nat.le_refl _)
/-- a history that grew, of which the new part is not done -/
theorem standO_grow {t : List Hi} {sq' : Nat → S} {Lm' : Array Bool} (h1 : ∀ i, i ≤ hs.length → sq' i = sq i) (h2 : ∀ i, i < hs.length → Lm'.getD (hs.getD i default).1 false = Lm.getD (hs.getD i default).1 false) : ∀ k, k ≤ hs.length → standO (hs ++ t) sq' Lm' k = standO hs sq Lm k
  | 0, _ => h1 0 (Nat.zero_le _)
  | k + 1, hk => by
    simp only [standO]
    rw [getD_app1 (by omega), h2 k (by omega), standO_grow h1 h2 k (by omega), h1 (k + 1) hk]
theorem standO_idle {t : List Hi} {sq' : Nat → S} (h : ∀ i, i < t.length → Lm.getD ((hs ++ t).getD (hs.length + i) default).1 false = false) : ∀ k, k ≤ t.length → standO (hs ++ t) sq' Lm (hs.length + k) = standO (hs ++ t) sq' Lm hs.length
  | 0, _ => rfl
  | k + 1, hk => by
    rw [show hs.length + (k + 1) = hs.length + k + 1 by omega]
    simp only [standO]
    rw [h k (by omega), if_neg (by simp), standO_idle h k (by omega)]
theorem ready_iffO {Lm : Array Bool} {j : Nat} (hj : j ∈ Region.ready .any all Lm) : Lm.getD j true = false ∧ ∀ i, waits all j i = true → Lm.getD i false = true := by
  obtain ⟨h0, o, ho, hall⟩ := mem_ready.1 hj
  refine ⟨h0, fun i hi => ?_⟩
  have : all.getD j default = o := by simp [ho]
  unfold waits at hi
  rw [this, Array.any_eq_true] at hi
  obtain ⟨q, hq, hi⟩ := hi
  simp only [Bool.and_eq_true, beq_iff_eq] at hi
  have := hall _ (Array.getElem_mem hq) hi.1
  rwa [hi.2] at this
theorem ready_ofO {Lm : Array Bool} {n j : Nat} {dn : List Nat} (hn : all.size = n) (hj : j < n) (h0 : Lm.getD j true = false) (ha : aheadO all dn j = true) (hb : ∀ i, i ∈ dn → Lm.getD i false = true) : j ∈ Region.ready .any all Lm := by
  refine mem_ready.2 ⟨h0, all[j]'(by omega), Array.getElem?_eq_getElem (by omega), fun e he hbnd => ?_⟩
  have : all.getD j default = all[j]'(by omega) := by simp [show j < all.size by omega]
  unfold aheadO at ha
  rw [this] at ha
  have h1 := Array.all_eq_true_iff_forall_mem.1 ha e he
  simp only [hbnd, Bool.not_true, Bool.false_or] at h1
  exact hb _ (by simpa using h1)
theorem okO_last {x : Hi} (h : okO all (hs ++ [x]) = true) : ∀ i, i < hs.length → conflict (hs.getD i default).2 x.2 = false ∨ reach all 8 x.1 (hs.getD i default).1 = true := fun i hi => by
  have := okO_at h (j := hs.length) (by simp) i hi
  rwa [getD_app2, getD_app1 hi] at this
theorem getD_mem {hs : List Hi} {j : Nat} (h : j ∈ hs.map (·.1)) : ∃ q, q < hs.length ∧ (hs.getD q default).1 = j := by
  obtain ⟨x, hx, rfl⟩ := List.mem_map.1 h
  obtain ⟨q, hq⟩ := List.getElem?_of_mem hx
  exact ⟨q, (List.getElem?_eq_some_iff.1 hq).1, by rw [List.getD_eq_getElem?_getD, hq]; rfl⟩
theorem StepO.done {Lm' : Array Bool} {i : Nat} (h : StepO P all hs sq Lm i) (hm : ∀ j, Lm.getD j false = true → Lm'.getD j false = true) : StepO P all hs sq Lm' i := ⟨h.len, h.out, h.run.imp (hm _) id⟩
theorem drawO_key {n : Nat} (hn : all.size = n) {Q' : Exit → Act → World → Prop} {c0 : Ctx} {own0 : Own} {w0 : World}
    (hQ : ∀ s c a w, K s → Sat c s a w → Ext c0 own0 w0 c s.own w → Q' .normal a w) :
    ∀ (fuel : Nat) (Lm : Array Bool) (hs : List Hi) (sq : Nat → S) (rest : List Nat) (c : Ctx) (a : Act) (w : World), Lm.size = n → Lm.toList.count false = fuel → shut all Lm →
      (hs.map (·.1) ++ rest).Nodup → (∀ j, j ∈ hs.map (·.1) ++ rest ↔ j < n) → (∀ i, i < hs.length → StepO P all hs sq Lm i) → Aheads all hs → EndO P all K hs rest (sq hs.length) → (∀ j, j ∈ rest → Lm.getD j false = false) →
      Sat c (standO hs sq Lm hs.length) a w → Ext c0 own0 w0 c (standO hs sq Lm hs.length).own w → wpAnyIn Fence.wide 0 P .any all Q' fuel Lm a w := by
  have getlt : ∀ {Lm : Array Bool} {j : Nat}, Lm.getD j true = false → j < Lm.size := fun {Lm j} h => by
    rcases Nat.lt_or_ge j Lm.size with h' | h'
    · exact h'
    · simp [Array.getElem?_eq_none h'] at h
  have count0 : ∀ {Lm : Array Bool} {j : Nat}, Lm.toList.count false = 0 → Lm.getD j true ≠ false := by
    intro Lm j hc h
    have hj := getlt h
    have hm : false ∈ Lm.toList := by
      have : Lm[j] = false := by simpa [hj] using h
      rw [← this]; simp
    exact absurd (List.count_pos_iff.2 hm) (by omega)
  intro fuel
  induction fuel with
  | zero =>
    intro Lm hs sq rest c a w hsz hc hsh hnd hmem hL ha hend hrest g x
    have hall : ∀ i, i < n → Lm.getD i false = true := fun i hi => by
      have := count0 (j := i) hc
      cases h : Lm[i]? with
      | none => simp at h; omega
      | some b => cases b <;> simp [h] at this ⊢
    have hr : Region.ready .any all Lm = [] := by
      cases hr : Region.ready .any all Lm with
      | nil => rfl
      | cons j r =>
        have hj : j ∈ Region.ready .any all Lm := by rw [hr]; simp
        exact absurd (ready_iffO hj).1 (count0 hc)
    have e : standO hs sq Lm hs.length = sq hs.length := S.ext' ((standO_len _).trans (sqO_len hL _ (Nat.le_refl _)).symm) fun ℓ => standO_same hL _ (Nat.le_refl _) fun i hi _ => hall _ ((hmem _).1 (List.mem_append_left _ (hi_at hi)))
    rw [e] at g x
    rcases hend with ⟨_, _, k⟩ | ⟨j, r, _, _, _, hj, _⟩
    · exact ⟨hr, hQ _ _ _ _ k g x⟩
    · have h1 := hrest j (by rw [hj]; simp)
      rw [hall j ((hmem j).1 (by rw [hj]; simp))] at h1; cases h1
  | succ fuel ih =>
    intro Lm hs sq rest c a w hsz hc hsh hnd hmem hL ha hend hrest g x
    have setfacts : ∀ {j : Nat}, Lm.getD j true = false → (Lm.setIfInBounds j true).size = n ∧ (Lm.setIfInBounds j true).toList.count false = fuel := by
      intro j hj
      have hlt := getlt hj
      refine ⟨by simpa using hsz, ?_⟩
      have h1 : Lm.toList[j]? = some false := by
        have : Lm[j] = false := by simpa [hlt] using hj
        rw [Array.getElem?_toList, Array.getElem?_eq_getElem hlt, this]
      have := cnt_set Lm.toList j h1
      rw [Array.toList_setIfInBounds]
      omega
    have unl : ∀ {j : Nat}, j < n → (Lm.getD j true = false ↔ Lm.getD j false = false) := fun {j} hj => by
      have hlt : j < Lm.size := by omega
      simp [hlt]
    refine ⟨fun hr => ?_, fun j hj => ?_⟩
    · -- nothing is ready, yet one is not carried out: the least of these is ready
      exfalso
      have hex : ∃ j, j < n ∧ Lm.getD j true = false := by
        have hm : false ∈ Lm.toList := List.count_pos_iff.1 (by omega)
        obtain ⟨j, hj⟩ := List.getElem?_of_mem hm
        have hj' : Lm[j]? = some false := by simpa using hj
        refine ⟨j, ?_, by simp [hj']⟩
        have := (Array.getElem?_eq_some_iff.1 hj').1
        omega
      have least : ∀ m, m ≤ hs.length → (∀ i, i < m → Lm.getD (hs.getD i default).1 false = true) ∨ ∃ q, q < m ∧ Lm.getD (hs.getD q default).1 false = false ∧ ∀ i, i < q → Lm.getD (hs.getD i default).1 false = true := by
        intro m
        induction m with
        | zero => intro _; exact .inl fun i hi => absurd hi (Nat.not_lt_zero i)
        | succ m ihm =>
          intro hm
          rcases ihm (by omega) with h | ⟨q, h1, h2, h3⟩
          · cases h4 : Lm.getD (hs.getD m default).1 false with
            | false => exact .inr ⟨m, by omega, h4, h⟩
            | true =>
              refine .inl fun i hi => ?_
              by_cases e : i = m
              · rw [e]; exact h4
              · exact h i (by omega)
          · exact .inr ⟨q, by omega, h2, h3⟩
      rcases least hs.length (Nat.le_refl _) with h | ⟨q, h1, h2, h3⟩
      · have hdone : ∀ i, i ∈ hs.map (·.1) → Lm.getD i false = true := fun i hi => by
          obtain ⟨q, hq, rfl⟩ := getD_mem hi
          exact h q hq
        rcases hend with ⟨h1, _, _⟩ | ⟨j, r, _, _, _, hj, hah, _⟩
        · obtain ⟨j, h4, h5⟩ := hex
          have hm := (hmem j).2 h4
          rw [h1, List.append_nil] at hm
          have h6 := hdone j hm
          rw [(unl h4).1 h5] at h6; cases h6
        · have hjr : j ∈ rest := by rw [hj]; simp
          have hjn : j < n := (hmem j).1 (List.mem_append_right _ hjr)
          have := ready_ofO hn hjn ((unl hjn).2 (hrest j hjr)) hah hdone
          rw [hr] at this; cases this
      · have hqn : (hs.getD q default).1 < n := (hmem _).1 (List.mem_append_left _ (hi_at h1))
        have := ready_ofO hn hqn ((unl hqn).2 h2) (ha q h1) (fun i hi => by
          obtain ⟨k, hk, rfl⟩ := getD_mem hi
          rw [List.length_take] at hk
          have e : (hs.take q).getD k default = hs.getD k default := by
            rw [List.getD_eq_getElem?_getD, List.getD_eq_getElem?_getD, List.getElem?_take, if_pos (by omega)]
          rw [e]; exact h3 k (by omega))
        rw [hr] at this; cases this
    · obtain ⟨hun, hwt⟩ := ready_iffO hj
      have hjn : j < n := by have := getlt hun; omega
      obtain ⟨hs1, hc1⟩ := setfacts hun
      have hunf := (unl hjn).1 hun
      have hrch : ∀ {i}, reach all 8 j i = true → Lm.getD i false = true := fun h => reach_pre hsh 8 j _ hwt h
      have hsh1 : shut all (Lm.setIfInBounds j true) := by
        intro q hq i hi
        by_cases hqj : j = q
        · subst hqj; exact getD_set_true (hwt i hi)
        · rw [getD_set_ne false hqj] at hq
          exact getD_set_true (hsh q hq i hi)
      rcases List.mem_append.1 ((hmem j).2 hjn) with hjh | hjr
      · obtain ⟨q, hqf, rfl⟩ := getD_mem hjh
        obtain ⟨o, ho, hop⟩ := (hL q hqf).run.resolve_left (by rw [hunf]; simp)
        have hcf := hend.ok hqf
        have nolater : ∀ i, q < i → i < hs.length → Lm.getD (hs.getD i default).1 false = true → conflict (hs.getD q default).2 (hs.getD i default).2 = false := by
          intro i h1 h2 h3
          rcases hend.ok h2 q h1 with h | h
          · exact h
          · have := reach_shut hsh h3 h; rw [hunf] at this; cases this
        have hread : ∀ ℓ, ℓ ∈ (hs.getD q default).2.1 → Same ℓ (standO hs sq Lm hs.length) (sq q) :=
          standO_read (rest := rest) (s := sq 0) (by omega) hL (fun i hi ℓ hw hℓ => by
            rcases hcf i hi with h | h
            · exact absurd hℓ ((conflict_of h (l := ℓ)).1 hw).1
            · exact hrch h) fun i h1 h2 h3 ℓ hℓ hw => by
            by_cases e : i = q
            · subst e; rw [hunf] at h3; cases h3
            · exact (conflict_of (nolater i (by omega) h2 h3) (l := ℓ)).2 hℓ hw
        have hlen : Len (standO hs sq Lm hs.length) (sq q) := (standO_len _).trans (sqO_len hL q (by omega)).symm
        have hafter := standO_set hnd hqf (by omega) hL hunf (fun i hi ℓ h1 h2 => by
            rcases hcf i hi with h | h
            · exact absurd h2 ((conflict_of h (l := ℓ)).1 h1).2
            · exact hrch h) fun i h1 h2 h3 ℓ hℓ hw => ((conflict_of (nolater i h1 h2 h3) (l := ℓ)).1 hℓ).2 hw
        have hrun := hop.run _ hlen hread c a w g
        unfold wpOpIn
        rw [ho]
        have go : ∀ a' w', (∃ s' c', s' = (standO hs sq Lm hs.length).over (hs.getD q default).2.2 (sq (q + 1)) ∧ Sat c' s' a' w' ∧ Ext c (standO hs sq Lm hs.length).own w c' s'.own w') → wpAnyIn Fence.wide 0 P .any all Q' fuel (Lm.setIfInBounds (hs.getD q default).1 true) a' w' := by
          rintro a' w' ⟨s', c', rfl, g', x'⟩
          rw [hafter] at g' x'
          exact ih _ hs sq rest c' a' w' hs1 hc1 hsh1 hnd hmem (fun i hi => (hL i hi).done fun j h => getD_set_true h) ha hend (fun i hi => by
            rw [getD_set_ne false (fun e => (List.nodup_append.1 hnd).2.2 _ (hi_at hqf) _ hi e)]; exact hrest i hi) g' (x.trans x')
        unfold opRun at hrun
        simp only []
        split
        · rename_i hw; rw [if_pos hw] at hrun; exact wpIn_weak hrun go
        · rename_i hw; rw [if_neg hw] at hrun; exact ⟨fun _ _ => trivial, go _ _ hrun⟩
      · rcases hend with ⟨h1, _, _⟩ | ⟨j', r, o, R, W, hr, hah, ho, hx, hok, hno⟩
        · rw [h1] at hjr; cases hjr
        · have hjj : j = j' := by
            rw [hr] at hjr
            rcases List.mem_cons.1 hjr with h | h
            · exact h
            · have h1 := hrch (List.all_eq_true.1 hx j h)
              rw [hrest j' (by rw [hr]; simp)] at h1; cases h1
          subst hjj
          have hlast := okO_last hok
          have hread : ∀ ℓ, ℓ ∈ R → Same ℓ (standO hs sq Lm hs.length) (sq hs.length) :=
            standO_read (rest := rest) (s := sq 0) (Nat.le_refl _) hL (fun i hi ℓ hw hℓ => by
              rcases hlast i hi with h | h
              · exact absurd hℓ ((conflict_of h (l := ℓ)).1 hw).1
              · exact hrch h) fun i h1 h2 => by omega
          have hlen : Len (standO hs sq Lm hs.length) (sq hs.length) := (standO_len _).trans (sqO_len hL _ (Nat.le_refl _)).symm
          have hrun := hno _ hlen hread c a w g
          unfold wpOpIn
          rw [ho]
          have go : ∀ a' w', (∃ s2 c', (∃ s', Len s' (sq hs.length) ∧ (∀ ℓ, ℓ ∉ W → Same ℓ s' (sq hs.length)) ∧ s2 = (standO hs sq Lm hs.length).over W s' ∧ LexO P all K r s' (hs ++ [(j, (R, W))])) ∧ Sat c' s2 a' w' ∧ Ext c (standO hs sq Lm hs.length).own w c' s2.own w') → wpAnyIn Fence.wide 0 P .any all Q' fuel (Lm.setIfInBounds j true) a' w' := by
            rintro a' w' ⟨s2, c', ⟨s', hl', ho', rfl, hk⟩, g', x'⟩
            let sq1 : Nat → S := fun i => if i ≤ hs.length then sq i else s'
            have e1 : ∀ i, i ≤ hs.length → sq1 i = sq i := fun i hi => if_pos hi
            have e2 : sq1 (hs.length + 1) = s' := if_neg (by omega)
            have hlen1 : (hs ++ [(j, (R, W))]).length = hs.length + 1 := by simp
            have hself : (Lm.setIfInBounds j true).getD j false = true := getD_set_self (by omega)
            have hL1 : ∀ i, i < (hs ++ [(j, (R, W))]).length → StepO P all (hs ++ [(j, (R, W))]) sq1 (Lm.setIfInBounds j true) i := fun i hi => by
              by_cases e : i < hs.length
              · exact ((hL i e).app e (e1 i (by omega)) (e1 (i + 1) (by omega))).done fun j h => getD_set_true h
              · have : i = hs.length := by omega
                subst this
                refine ⟨?_, ?_, .inl ?_⟩
                · rw [e2, e1 _ (Nat.le_refl _)]; exact hl'
                · rw [getD_app2, e2, e1 _ (Nat.le_refl _)]; exact ho'
                · rw [getD_app2]; exact hself
            obtain ⟨t, sq', rest', f1, f2, f3, f4, f5⟩ := LexO.ext r (hs ++ [(j, (R, W))]) sq1 (by rw [hlen1, e2]; exact hk) hL1 (ha.snoc hah)
            have hsplit : (hs ++ [(j, (R, W))] ++ t).map (·.1) ++ rest' = hs.map (·.1) ++ rest := by rw [hr, f1]; simp
            have hne : ∀ i, i ∈ r → j ≠ i := fun i hi e => by
              have h1 := (List.nodup_append.1 hnd).2.1
              rw [hr] at h1
              exact (List.nodup_cons.1 h1).1 (e ▸ hi)
            have hidle : ∀ i, i < t.length → (Lm.setIfInBounds j true).getD ((hs ++ [(j, (R, W))] ++ t).getD ((hs ++ [(j, (R, W))]).length + i) default).1 false = false := fun i hi => by
              have hm : ((hs ++ [(j, (R, W))] ++ t).getD ((hs ++ [(j, (R, W))]).length + i) default).1 ∈ r := by
                rw [f1, List.getD_eq_getElem?_getD, List.getElem?_append_right (by omega)]
                rw [Nat.add_sub_cancel_left, List.getElem?_eq_getElem hi]
                exact List.mem_append_left _ (List.mem_map.2 ⟨_, List.getElem_mem hi, rfl⟩)
              rw [getD_set_ne false (hne _ hm)]
              exact hrest _ (by rw [hr]; exact List.mem_cons_of_mem _ hm)
            have hstand : standO (hs ++ [(j, (R, W))] ++ t) sq' (Lm.setIfInBounds j true) (hs ++ [(j, (R, W))] ++ t).length = (standO hs sq Lm hs.length).over W s' := by
              rw [List.length_append, standO_idle hidle _ (Nat.le_refl _), standO_grow (hs := hs ++ [(j, (R, W))]) (sq := sq1) (Lm := Lm.setIfInBounds j true) f2 (fun _ _ => rfl) _ (Nat.le_refl _), hlen1]
              simp only [standO]
              rw [getD_app2, if_pos hself, e2, standO_grow (sq := sq) (Lm := Lm) e1 (fun i hi => ?_) _ (Nat.le_refl _)]
              rw [getD_set_ne false]
              intro e
              refine (List.nodup_append.1 hnd).2.2 _ (hi_at hi) j (by rw [hr]; simp) e.symm
            rw [← hstand] at g' x'
            refine ih _ (hs ++ [(j, (R, W))] ++ t) sq' rest' c' a' w' hs1 hc1 hsh1 (by rw [hsplit]; exact hnd) (by rw [hsplit]; exact hmem) f3 f4 f5 (fun i hi => ?_) g' (x.trans x')
            have hir : i ∈ r := by rw [f1]; exact List.mem_append_right _ hi
            rw [getD_set_ne false (hne i hir)]
            exact hrest i (by rw [hr]; exact List.mem_cons_of_mem _ hir)
          unfold opRun at hrun
          simp only []
          split
          · rename_i hw; rw [if_pos hw] at hrun; exact wpIn_weak hrun go
          · rename_i hw; rw [if_neg hw] at hrun; exact ⟨fun _ _ => trivial, go _ _ hrun⟩
def permB (n : Nat) (l : List Nat) : Bool := decide l.Nodup && l.all (fun j => Nat.blt j n) && (List.range n).all (l.contains ·)
end
theorem AW.drawO {P : Program} {Q : Exit → S → Prop} {s : S} {id : Nat} {l : List Oper} (pi : List Nat) (hm : P.follows .mixedOrders = true) (hp : permB l.length pi = true) (h : LexO P l.toArray (Q .normal) pi s []) : AW P (.region id l.toArray true) Q s := by
  intro c a w g
  refine (wpIn_wide (n := 0)).1 (wpIn_region_any hm ?_)
  simp only [permB, Bool.and_eq_true, decide_eq_true_eq, List.all_eq_true, List.mem_range, List.contains_iff_mem] at hp
  obtain ⟨⟨hp1, hp2⟩, hp3⟩ := hp
  obtain ⟨t, sq, rest, f1, f2, f3, f4, f5⟩ := LexO.ext (Lm := Array.replicate l.toArray.size false) pi [] (fun _ => s) h (fun i hi => absurd hi (Nat.not_lt_zero i)) (fun k hk => absurd hk (Nat.not_lt_zero k))
  simp only [List.nil_append] at f3 f4 f5
  have hno : ∀ i, (Array.replicate l.toArray.size false).getD i false = false := fun j => by simp [Array.getElem?_replicate]; split <;> simp
  have e0 : standO t sq (Array.replicate l.toArray.size false) t.length = s := by
    have := standO_idle (hs := []) (t := t) (sq' := sq) (fun i _ => hno _) t.length (Nat.le_refl _)
    simp only [List.nil_append, List.length_nil, Nat.zero_add] at this
    rw [this]; exact f2 0 (Nat.le_refl _)
  refine drawO_key (P := P) (all := l.toArray) (K := Q .normal) (c0 := c) (own0 := s.own) (w0 := w) rfl (fun s' c' a' w' k g' x' => ⟨s', c', k, g', x'⟩) _ _ t sq rest c a _ (by simp) ?_ (fun j hj => by rw [hno j] at hj; cases hj) (by rw [← f1]; exact hp1) (fun j => ?_) f3 f4 f5 (fun j _ => hno j) ?_ ?_
  · simp
  · rw [← f1]; exact ⟨fun h => by have h1 := Nat.le_of_ble_eq_true (hp2 j h); simpa using Nat.lt_of_succ_le h1, fun h => hp3 j (by simpa using h)⟩
  · rw [e0]; exact ⟨⟨g.conc.mem, g.conc.obj, g.conc.inj, g.conc.fin⟩, g.size, g.tmps, g.defers, g.wf⟩
  · rw [e0]; exact ⟨rfl, rfl, rfl, Nat.le_refl _, fun _ _ _ => rfl, fun _ _ _ h => h, fun _ _ _ h => .inl h, fun _ _ h => h, fun i x b n h1 he h2 => .inr ⟨i, x, n, h1, he, h2⟩, rfl⟩
end Go.Proofs.Ytojkjiakkcgfcaa.E
