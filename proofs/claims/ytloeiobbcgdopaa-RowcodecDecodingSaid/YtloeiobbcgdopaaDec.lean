/- Decoding rows: the plain functions and laws; first, printable, Valid, DecodeRow of the program. -/
import Derived.Test.YtloeiobbcgdopaaOrder
import Derived.Test.YtloeiobbcgdopaaNumbers
import Derived.Test.YtloeiobbcgdopaaShelf
import Derived.Deep.RegionHeld3
namespace Go.Proofs.Ytloeiobbcgdopaa.Dc
open Go.RowKit L Fr Rw R4

/-- how many printable bytes stand first -/
def run : List UInt8 → Nat
  | [] => 0
  | c :: r => if okC c = true then run r + 1 else 0
/-- the first value of an encoding, and its length -/
def step : List UInt8 → Option (Val × Nat)
  | [] => none
  | c :: r =>
    if c = 1 then some (⟨0, 0, ⟨#[]⟩⟩, 1)
    else if c = 2 then (if 8 ≤ r.length then some (⟨1, Nu.unnum (r.take 8), ⟨#[]⟩⟩, 9) else none)
    else if c = 3 then (if r[run r]? = some 0 ∧ run r ≤ 16 then some (⟨2, 0, ⟨(r.take (run r)).toArray⟩⟩, run r + 2) else none)
    else none
theorem run_le : ∀ r : List UInt8, run r ≤ r.length
  | [] => Nat.le_refl _
  | c :: r => by have := run_le r; simp only [run]; split <;> simp <;> omega
theorem step_pos {l : List UInt8} {v : Val} {n : Nat} (h : step l = some (v, n)) : 0 < n ∧ n ≤ l.length := by
  cases l with
  | nil => cases h
  | cons c r =>
    simp only [step] at h
    split at h
    · simp at h; obtain ⟨_, rfl⟩ := h; simp
    · split at h
      · split at h
        · simp at h; obtain ⟨_, rfl⟩ := h; simp; omega
        · cases h
      · split at h
        · split at h
          · rename_i h2
            simp at h; obtain ⟨_, rfl⟩ := h
            have := (List.getElem?_eq_some_iff.1 h2.1).1
            simp; omega
          · cases h
        · cases h
def dec : Nat → List UInt8 → Option (List Val)
  | _, [] => some []
  | 0, _ :: _ => none
  | f + 1, c :: l => match step (c :: l) with
    | none => none
    | some (v, n) => (dec f ((c :: l).drop n)).map (v :: ·)
theorem dec_nil (f : Nat) : dec f [] = some [] := by cases f <;> rfl
/-- more fuel than bytes makes no difference -/
theorem dec_fuel : ∀ (f : Nat) (l : List UInt8), l.length ≤ f → dec f l = dec l.length l
  | f, [], _ => by rw [dec_nil, dec_nil]
  | 0, c :: l, h => by simp at h
  | f + 1, c :: l, h => by
    simp only [dec, List.length_cons]
    cases hs : step (c :: l) with
    | none => rfl
    | some p =>
      obtain ⟨v, n⟩ := p
      obtain ⟨h1, h2⟩ := step_pos hs
      have hd : ((c :: l).drop n).length ≤ l.length := by rw [List.length_drop]; simp; omega
      simp only
      rw [dec_fuel f _ (by simp at h; omega), dec_fuel l.length _ hd]
def decode (l : List UInt8) : Option (List Val) := dec l.length l
theorem decode_nil : decode [] = some [] := rfl
theorem decode_none {c : UInt8} {l : List UInt8} (h : step (c :: l) = none) : decode (c :: l) = none := by
  simp only [decode, List.length_cons, dec, h]
theorem decode_some {c : UInt8} {l : List UInt8} {v : Val} {n : Nat} (h : step (c :: l) = some (v, n)) : decode (c :: l) = (decode ((c :: l).drop n)).map (v :: ·) := by
  obtain ⟨h1, h2⟩ := step_pos h
  simp only [decode, List.length_cons, dec, h]
  rw [dec_fuel]
  rw [List.length_drop]; simp; omega

theorem run_all : ∀ {t : List UInt8} (_ : printable t = true) (r : List UInt8) (c : UInt8), okC c = false → run (t ++ c :: r) = t.length
  | [], _, r, c, hc => by simp [run, hc]
  | a :: t, h, r, c, hc => by
    have h' : okC a = true ∧ printable t = true := by simpa [printable] using h
    simp only [List.cons_append, run, h'.1, if_true, run_all h'.2 r c hc, List.length_cons]
theorem run_take : ∀ (r : List UInt8), printable (r.take (run r)) = true
  | [] => rfl
  | c :: r => by
    simp only [run]
    split
    · rename_i h
      have := run_take r
      simp [printable] at *
      exact ⟨h, this⟩
    · rfl
theorem run_stop : ∀ (r : List UInt8) (h : run r < r.length), okC r[run r] = false
  | [], h => by simp at h
  | c :: r, h => by
    by_cases hc : okC c = true
    · have e : run (c :: r) = run r + 1 := by simp [run, hc]
      have h' : run r < r.length := by rw [e] at h; simpa using h
      have := run_stop r h'
      simp only [e, List.getElem_cons_succ]
      exact this
    · have e : run (c :: r) = 0 := by simp [run, hc]
      simp only [e, List.getElem_cons_zero]
      simpa using hc

theorem bs_empty {t : ByteArray} (h : t.data.toList = []) : t = ⟨#[]⟩ := by
  apply ByteArray.ext
  apply Array.ext'
  simpa using h
/-- what is encoded is decoded -/
theorem step_enc {x : Val} (h : validV x = true) (ho : In64 x.n) (l : List UInt8) : step (Add.enc x.k x.n x.t.data.toList ++ l) = some (x, (Add.enc x.k x.n x.t.data.toList).length) := by
  obtain ⟨k, n, t⟩ := x
  rcases Or.valid_cases h with ⟨h1, h2, h3⟩ | ⟨h1, h3⟩ | ⟨h1, h2, h3, h4⟩
  · simp only at h1 h2 h3
    subst h1 h2
    have := bs_empty h3
    subst this
    rfl
  · simp only at h1 h3
    subst h1
    have := bs_empty h3
    subst this
    have e : (Num.num n ++ l).take 8 = Num.num n := by rw [List.take_append_of_le_length (Nat.le_refl 8)]; rfl
    have e8 : 8 ≤ (Num.num n ++ l).length := by simp [Num.num, Num.numL]
    simp only [Add.enc, if_true, List.cons_append, step]
    rw [if_neg (by decide), if_pos e8, e, Nu.unnum_num n ho.1 ho.2]
    rfl
  · simp only at h1 h2 h3 h4
    subst h1 h2
    obtain ⟨e1, n1⟩ := Or.print_esc h3
    have hr : run (t.data.toList ++ 0 :: l) = t.data.toList.length := run_all h3 l 0 (by decide)
    have hl : t.data.toList.length = t.size := by rw [Array.length_toList]; rfl
    simp only [Add.enc, if_true, e1]
    rw [if_neg (by decide)]
    simp only [List.cons_append, List.append_assoc, List.nil_append, step]
    rw [if_neg (by decide), if_neg (by decide), if_pos trivial, hr, if_pos ⟨by simp, by omega⟩]
    simp
theorem decode_encs : ∀ (xs : List Val), allValid xs = true → (∀ x ∈ xs, x.ok) → decode (encs xs) = some xs
  | [], _, _ => rfl
  | x :: xs, h, ho => by
    have h' : validV x = true ∧ allValid xs = true := by simpa [allValid] using h
    have ih := decode_encs xs h'.2 (fun y hy => ho y (by simp [hy]))
    have e1 : encs (x :: xs) = Add.enc x.k x.n x.t.data.toList ++ encs xs := rfl
    have hs := step_enc h'.1 (ho x (by simp)).2.1 (encs xs)
    rw [e1]
    cases hc : Add.enc x.k x.n x.t.data.toList ++ encs xs with
    | nil => rw [hc] at hs; cases hs
    | cons c l =>
      rw [hc] at hs
      rw [decode_some hs, ← hc, List.drop_left, ih]
      rfl
theorem in0 : In64 0 := ⟨by decide, by decide⟩
theorem in1 : In64 1 := ⟨by decide, by decide⟩
theorem in2 : In64 2 := ⟨by decide, by decide⟩
theorem sz0 : (⟨#[]⟩ : ByteArray).size ≤ 140737488351232 := by decide
/-- what is decoded is valid, and encodes to the same bytes -/
theorem enc_step {l : List UInt8} {v : Val} {n : Nat} (h : step l = some (v, n)) : validV v = true ∧ v.ok ∧ Add.enc v.k v.n v.t.data.toList = l.take n ∧ v.t.size + 1 ≤ n := by
  cases l with
  | nil => cases h
  | cons c r =>
    simp only [step] at h
    split at h
    · rename_i hc
      simp at h; obtain ⟨rfl, rfl⟩ := h
      exact ⟨rfl, ⟨⟨by decide, by decide⟩, ⟨by decide, by decide⟩, by decide⟩, by simp [Add.enc, hc], by decide⟩
    · split at h
      · rename_i hc
        split at h
        · rename_i h8
          simp at h; obtain ⟨rfl, rfl⟩ := h
          have hl : (r.take 8).length = 8 := by rw [List.length_take]; omega
          exact ⟨rfl, ⟨in1, Nu.unnum_in _ hl, sz0⟩, by simp [Add.enc, hc, Nu.num_unnum _ hl], by simp; decide⟩
        · cases h
      · split at h
        · rename_i hc
          split at h
          · rename_i h2
            simp at h; obtain ⟨rfl, rfl⟩ := h
            have hp := run_take r
            obtain ⟨e1, _⟩ := Or.print_esc hp
            have hlt := (List.getElem?_eq_some_iff.1 h2.1).1
            have hsz : (⟨(r.take (run r)).toArray⟩ : ByteArray).size = run r := by
              show (r.take (run r)).toArray.size = _
              simp only [List.size_toArray, List.length_take]; exact Nat.min_eq_left (run_le r)
            refine ⟨?_, ⟨in2, in0, by rw [hsz]; omega⟩, ?_, by rw [hsz]; omega⟩
            · have hsz' := h2.2
              simp only [validV]
              rw [if_neg (by decide), if_neg (by decide), if_pos trivial, hsz]
              simp [hp, hsz']
            · simp only [Add.enc, e1]
              rw [if_neg (by decide), if_pos trivial, hc]
              rw [show run r + 2 = run r + 1 + 1 from rfl, List.take_succ_cons, List.take_succ_eq_append_getElem hlt]
              have := (List.getElem?_eq_some_iff.1 h2.1).2
              rw [this]
          · cases h
        · cases h
theorem decode_spec : ∀ (f : Nat) (l : List UInt8) (xs : List Val), l.length ≤ f → decode l = some xs → encs xs = l ∧ allValid xs = true ∧ (∀ x ∈ xs, x.ok) ∧ tot xs ≤ l.length
  | _, [], xs, _, h => by
    rw [decode_nil] at h
    injection h with h
    subst h
    exact ⟨rfl, rfl, by simp, Nat.le_refl _⟩
  | 0, c :: l, _, hl, _ => by simp at hl
  | f + 1, c :: l, xs, hl, h => by
    cases hs : step (c :: l) with
    | none => rw [decode_none hs] at h; cases h
    | some p =>
      obtain ⟨v, n⟩ := p
      rw [decode_some hs] at h
      obtain ⟨h1, h2⟩ := step_pos hs
      obtain ⟨hv, ho, he, ht⟩ := enc_step hs
      cases hd : decode ((c :: l).drop n) with
      | none => rw [hd] at h; cases h
      | some ys =>
        rw [hd] at h
        injection h with h
        subst h
        have hlen : ((c :: l).drop n).length = (c :: l).length - n := List.length_drop
        obtain ⟨i1, i2, i3, i4⟩ := decode_spec f _ ys (by rw [hlen]; simp at hl ⊢; omega) hd
        refine ⟨?_, by simp only [allValid, List.all_cons, hv, Bool.true_and]; exact i2, by simpa using ⟨ho, i3⟩, ?_⟩
        · have e1 : encs (v :: ys) = Add.enc v.k v.n v.t.data.toList ++ encs ys := rfl
          rw [e1, he, i1, List.take_append_drop]
        · simp [tot] at *; omega
end Go.Proofs.Ytloeiobbcgdopaa.Dc
