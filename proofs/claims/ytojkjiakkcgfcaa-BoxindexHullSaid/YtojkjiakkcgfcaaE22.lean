/- Structs built, reckoned in one pass. Plain theorems, for any program. -/
import Derived.Test.YtojkjiakkcgfcaaE21
namespace Go.Proofs.Ytojkjiakkcgfcaa.E
open Go.RowKit
set_option linter.unusedVariables false
section
variable {α : Type}
def buildA : List (Nat × Nat) → Nat → List α → List (Nat × List α) → Option (List α)
  | [], _, z, [] => match z with | [] => some [] | _ => none
  | [], _, _, _ :: _ => none
  | (_, sz) :: pl, i, z, [] => match buildA pl (i + 1) (z.drop sz) [] with | some r => some (z.take sz ++ r) | none => none
  | (_, sz) :: pl, i, z, (j, v) :: ps => bif Nat.beq j i then (bif Nat.beq v.length sz then (match buildA pl (i + 1) (z.drop sz) ps with | some r => some (v ++ r) | none => none) else none)
    else (match buildA pl (i + 1) (z.drop sz) ((j, v) :: ps) with | some r => some (z.take sz ++ r) | none => none)
def contB : List (Nat × Nat) → Nat → Nat → Bool
  | [], o, n => Nat.beq o n
  | (off, sz) :: pl, o, n => Nat.beq off o && contB pl (o + sz) n
theorem splice_mid {pre z v : List α} (h : v.length ≤ z.length) : splice (pre ++ z) pre.length v = pre ++ v ++ z.drop v.length := by
  simp [splice, List.take_append, List.drop_append]
theorem fill_buildA {pl0 : List (Nat × Nat)} : ∀ (pl : List (Nat × Nat)) (i : Nat) (pre z : List α) (ps : List (Nat × List α)) (r : List α), pl0.drop i = pl → contB pl pre.length (pre.length + z.length) = true → buildA pl i z ps = some r → fillA pl0 (pre ++ z) ps = some (pre ++ r)
  | [], i, pre, z, [], r, h0, hc, h => by
    cases z with
    | nil => cases h; rfl
    | cons => cases h
  | [], i, pre, z, _ :: _, r, h0, hc, h => by cases h
  | (off, sz) :: pl, i, pre, z, ps, r, h0, hc, h => by
    simp only [contB, Bool.and_eq_true] at hc
    have ho := Nat.eq_of_beq_eq_true hc.1
    have hz : sz ≤ z.length := by
      have key : ∀ (pl : List (Nat × Nat)) (o n : Nat), contB pl o n = true → o ≤ n := by
        intro pl
        induction pl with
        | nil => intro o n h; exact Nat.le_of_eq (Nat.eq_of_beq_eq_true h)
        | cons p pl ih => intro o n h; simp only [contB, Bool.and_eq_true] at h; have := ih _ _ h.2; omega
      have := key _ _ _ hc.2; omega
    have hpl : pl0[i]? = some (off, sz) := by
      have : (pl0.drop i)[0]? = some (off, sz) := by rw [h0]; rfl
      simpa using this
    have hd : pl0.drop (i + 1) = pl := by
      have : (pl0.drop i).drop 1 = pl := by rw [h0]; rfl
      rw [List.drop_drop] at this; exact this
    have keep : ∀ ps r', buildA pl (i + 1) (z.drop sz) ps = some r' → fillA pl0 (pre ++ z) ps = some (pre ++ (z.take sz ++ r')) := fun ps r' h => by
      have := fill_buildA pl (i + 1) (pre ++ z.take sz) (z.drop sz) ps r' hd (by rw [List.length_append, List.length_take, List.length_drop, Nat.min_eq_left hz, ← Nat.add_sub_assoc hz, Nat.add_right_comm, Nat.add_sub_cancel]; exact hc.2) h
      rw [List.append_assoc, List.take_append_drop] at this
      rw [this, List.append_assoc]
    cases ps with
    | nil =>
      simp only [buildA] at h
      cases h1 : buildA pl (i + 1) (z.drop sz) [] with
      | none => rw [h1] at h; cases h
      | some r' => rw [h1] at h; cases h; exact keep _ _ h1
    | cons p ps =>
      obtain ⟨j, v⟩ := p
      simp only [buildA] at h
      cases hj : Nat.beq j i with
      | false =>
        rw [hj] at h
        simp only [cond_false] at h
        cases h1 : buildA pl (i + 1) (z.drop sz) ((j, v) :: ps) with
        | none => rw [h1] at h; cases h
        | some r' => rw [h1] at h; cases h; exact keep _ _ h1
      | true =>
        rw [hj] at h
        have hj := Nat.eq_of_beq_eq_true hj
        subst hj
        simp only [cond_true] at h
        cases hv : Nat.beq v.length sz with
        | false => rw [hv] at h; cases h
        | true =>
          rw [hv] at h
          have hv := Nat.eq_of_beq_eq_true hv
          simp only [cond_true] at h
          cases h1 : buildA pl (j + 1) (z.drop sz) ps with
          | none => rw [h1] at h; cases h
          | some r' =>
            rw [h1] at h; cases h
            simp only [fillA, hpl]
            rw [if_pos ⟨hv, by rw [ho, List.length_append]; omega⟩, ho, splice_mid (by omega), hv]
            have := fill_buildA pl (j + 1) (pre ++ v) (z.drop sz) ps r' hd (by rw [List.length_append, hv, List.length_drop, ← Nat.add_sub_assoc hz, Nat.add_right_comm, Nat.add_sub_cancel]; exact hc.2) h1
            rw [this, List.append_assoc]
end
section
variable {P : Program} {o : Oper} {s : S}
theorem q_build2 {t : TypeId} {parts : Array (Nat × Operand)} {z : Value} {zs r : List A} (pl : List (Nat × Nat)) (ps : List (Nat × List A)) (ho : o.op = .build t parts) (hz : zeroIs P t z) (h1 : z.cells.toList.all Value.oneCell' = true) (hp : bplB P t pl = true)
    (hps : partsX s parts.toList = some ps) (hzs : z.cells.toList.map litA = zs) (hc : contB pl 0 zs.length = true) (hr : buildA pl 0 zs ps = some r) : QV P o s (.c (.g r)) :=
  q_build pl ps r ho hz h1 hp hps (by
    subst hzs
    have := fill_buildA (pl0 := pl) pl 0 [] _ ps r rfl (by simpa using hc) hr
    simpa using this)
end
end Go.Proofs.Ytojkjiakkcgfcaa.E
