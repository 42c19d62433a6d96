import Derived.Test.YtgnnjebfoffphaaGreatDoorM9
import Derived.Laws.BytesString
import Derived.Lib.AppendStr
set_option linter.unusedVariables false
namespace Go.Proofs.YtgnnjebfoffphaaGreatDoor.E
open Go.RowKit
abbrev u8T (n : Int) : List T := [.v (.int .u8 n)]
def bStr (l : List Int) : ByteArray := l.foldl (fun r n => r.push (UInt8.ofNat n.toNat)) ByteArray.empty
theorem reps_u8 {μ : Mem} : ∀ {l : List Int} {cs : List Value}, Reps (RepT μ) (l.map u8T).flatten cs → cs = l.map (Value.int .u8)
  | [], cs, h => by
    have := h.1
    simp at this
    cases cs with
    | nil => rfl
    | cons a r => simp at this
  | n :: l, cs, h => by
    match cs, h with
    | [], h => have := h.1; simp at this
    | c :: cs, h =>
      have h0 := h.2 0 _ _ rfl rfl
      cases h0
      have : cs = l.map (Value.int .u8) := reps_u8 ⟨by have := h.1; simpa using this, fun i x v hx hv => h.2 (i + 1) x v (by simpa using hx) (by simpa using hv)⟩
      rw [this]; rfl
theorem rw_nil {μ : Mem} {z : Nz} {sz : Nat} {v : Value} (h : RepT μ (.sl z sz []) v) : ∃ A c, v = .slice A 0 c := by
  cases h with
  | nil h => exact ⟨_, _, rfl⟩
  | emp h => exact ⟨_, _, rfl⟩
  | sl u ne => exact absurd rfl ne
theorem q_convBS {P : Program} {o : Oper} {s : S} {t u e : TypeId} {x : Operand} {z : Nz} {l : List Int} (ho : o.op = .convert t u x) (ty : P.underlying t = some (.slice e)) (te : P.underlying e = some (.int .u8)) (td : P.underlying u = some .string) (hx : s.eval x = .c (.a (.t (.sl z 1 (l.map u8T))))) : QV P o s (sX (bStr l)) :=
  .of_same (fun _ => nolp) fun c w f hm hrep => by
    have ha := hrep x (by rw [ho]; simp [Op.operands])
    rw [hx] at ha
    have hr : RepT c.μ (.sl z 1 (l.map u8T)) (f.eval x) := by cases ha with | t h => exact h
    refine ⟨.string (bStr l), ?_, tv_rep rfl⟩
    simp only [execOp, ho]
    by_cases hne : l = []
    · subst hne
      have h0 := rw_nil hr
      obtain ⟨A, cp, hv⟩ := h0
      rw [hv, Sem.run_bind, run_convert_bytes_string w t u e A 0 cp ty te td]
      cases A with
      | none => simp [Conv.bytesToString, Sem.run_pure, bStr]
      | some a =>
        rw [run_bytesToString w a 0 cp [] (by have := run_loadCells_list (P := P) w a [] (fun j u hu => by simp at hu); simpa using this)]
        rfl
    · obtain ⟨b, off, cp, cs, hv, h1, h2, h3, h4⟩ := sl_flat hr (by simpa using hne) (by decide)
      have h5 := reps_u8 h3
      subst h5
      rw [hv, Sem.run_bind, run_convert_bytes_string w t u e _ _ cp ty te td]
      have h6 := run_loadCells_list (P := P) w ⟨b, off, none⟩ (l.map (Value.int .u8)) (fun j v hj => by rw [Addr.add_mid]; exact hm.mem _ _ _ (h4 j v hj))
      rw [qA] at h6 ⊢
      rw [run_bytesToString w _ _ cp l h6]
      rfl
abbrev bT (s : ByteArray) : List (List T) := s.data.toList.map fun b => [.v (.int .u8 b.toNat)]
end Go.Proofs.YtgnnjebfoffphaaGreatDoor.E
