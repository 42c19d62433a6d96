/- A system's objects. -/
import Derived.Test.YtkpacejikoengaaP1
import Derived.Test.YtkpacejikoengaaP3
import Derived.IntWalk
namespace Go.Proofs.Ytkpacejikoengaa.W
open Go.RowKit E M
set_option linter.unusedVariables false
theorem w64 {n : Int} (h : -9223372036854775808 ≤ n) (h' : n ≤ 9223372036854775807) : IntKind.i64.wrap n = n := IntWalk.i64_in n ⟨h, h'⟩
theorem idx_map {α : Type} {f : α → List T} {l : List α} {k : Nat} (h : k < l.length) : (l.map f)[((k : Nat) : Int).toNat]? = some (f l[k]) := by simp [h]
theorem idx_mapI {α : Type} {f : α → List T} {l : List α} {k : Int} (h : k.toNat < l.length) : (l.map f)[k.toNat]? = some (f l[k.toNat]) := by simp [h]
abbrev bdT (b : Bd) : List T := [.v (.int .i64 b.i), .v (.int .i64 b.j), .v (.int .i64 b.c)]
abbrev wkT (w : Wk) : List T := [.v (.bool w.known), .v (.int .i64 w.w), .v (.int .i64 w.last)]
abbrev iC (n : Int) : C := .a (.t (.v (.int .i64 n)))
abbrev i64T (n : Int) : List T := [.v (.int .i64 n)]
abbrev i64A (n : Int) : A := .t (.v (.int .i64 n))
abbrev bdL (z : Nz) (l : List Bd) : C := .a (.t (.sl z 3 (l.map bdT)))
abbrev inL (z : Nz) (l : List Nat) : C := .a (.t (.sl z 1 (l.map fun k => i64T (k : Nat))))
def LeastOk (all : List Bd) (i j : Int) : Option Nat → Prop
  | none => ∀ b ∈ all, ¬ (b.i = i ∧ b.j = j)
  | some k => k < all.length ∧ (bd all k).i = i ∧ (bd all k).j = j ∧ ∀ b ∈ all, b.i = i → b.j = j → (bd all k).c ≤ b.c
structure MatAt (H : Heap) (k n : Nat) (all : List Bd) (z : Nz) (k3 k1 : Nat) (es : List ME) (ck : Nat) (r : Int → Int → Option Nat) : Prop where
  box : H k = some (.box [.t (.v (.int .i64 (n : Nat))), .ts k3 z 3 (all.map bdT), .mp k1])
  map : H k1 = some (.map Fx.kk80 es ck)
  ok : MOk Fx.kk80 es ck
  get : ∀ i j, mget (Fx.pr i j) es = (r i j).map fun k => iC (k : Nat)
  least : ∀ i j, LeastOk all i j (r i j)
  bnd : ∀ b ∈ all, OkB n b
  n64 : n ≤ 64
  esl : es.length ≤ all.length
/-- to read -/
def MatR (H : Heap) (k n : Nat) (all : List Bd) : Prop := ∃ z k3 k1 es ck r, MatAt H k n all z k3 k1 es ck r
/-- to read and write -/
def Mat (H : Heap) (k n : Nat) (all : List Bd) : Prop := ∃ z k3 k1 es ck r, MatAt H k n all z k3 k1 es ck r ∧ H k3 = some (.tip 78 3 all.length)
theorem Mat.r {H : Heap} {k n : Nat} {all : List Bd} (h : Mat H k n all) : MatR H k n all := by
  obtain ⟨z, k3, k1, es, ck, r, h, _⟩ := h
  exact ⟨z, k3, k1, es, ck, r, h⟩
theorem Gh.add {n : Nat} {t : Nat → X} {L : Nat → Option AO} {H : Heap} (x : AO) (hx : x.empty) : Gh ⟨n, t, L, H⟩ fun s' => ∃ k, H k = none ∧ s' = ⟨n, t, L, upd H k (some x)⟩ := fun c a w g => by
  obtain ⟨k, h1, h2, h3⟩ := g.add0 hx
  exact ⟨_, c, ⟨k, h1, rfl⟩, h2, h3⟩
section
variable {H H' : Heap} {k n : Nat} {all : List Bd} {z : Nz} {k3 k1 : Nat} {es : List ME} {ck : Nat} {r : Int → Int → Option Nat}
theorem MatAt.ne (h : MatAt H k n all z k3 k1 es ck r) (ht : H k3 = some (.tip 78 3 all.length)) : k ≠ k3 ∧ k ≠ k1 ∧ k3 ≠ k1 := by
  refine ⟨fun e => ?_, fun e => ?_, fun e => ?_⟩
  · have := h.box; rw [e, ht] at this; cases this
  · have := h.box; rw [e, h.map] at this; cases this
  · rw [e, h.map] at ht; cases ht
theorem MatAt.mono (h : MatAt H k n all z k3 k1 es ck r) (hs : ∀ k o, H k = some o → ¬ o.empty → (∀ e sz cs, o ≠ .row e sz cs) → H' k = some o) : MatAt H' k n all z k3 k1 es ck r :=
  ⟨hs _ _ h.box (fun e => e) (fun _ _ _ e => by cases e), hs _ _ h.map (fun e => e) (fun _ _ _ e => by cases e), h.ok, h.get, h.least, h.bnd, h.n64, h.esl⟩
theorem MatR.mono (h : MatR H k n all) (hs : ∀ k o, H k = some o → ¬ o.empty → (∀ e sz cs, o ≠ .row e sz cs) → H' k = some o) : MatR H' k n all := by
  obtain ⟨z, k3, k1, es, ck, r, h⟩ := h
  exact ⟨z, k3, k1, es, ck, r, h.mono hs⟩
theorem MatR.bnd (h : MatR H k n all) : ∀ b ∈ all, OkB n b := by obtain ⟨z, k3, k1, es, ck, r, h⟩ := h; exact h.bnd
theorem MatR.n64 (h : MatR H k n all) : n ≤ 64 := by obtain ⟨z, k3, k1, es, ck, r, h⟩ := h; exact h.n64
theorem bd_snoc {all : List Bd} {b : Bd} {k : Nat} : bd (all ++ [b]) k = if k < all.length then bd all k else if k = all.length then b else ⟨0, 0, 0⟩ := getD_snoc _ _ _ _
theorem LeastOk.skip {i j : Int} {b : Bd} {o : Option Nat} (h : LeastOk all i j o) (hb : ¬ (b.i = i ∧ b.j = j)) : LeastOk (all ++ [b]) i j o := by
  cases o with
  | none =>
    intro b' hb'
    rcases List.mem_append.1 hb' with h1 | h1
    · exact h b' h1
    · simp at h1; subst h1; exact hb
  | some k =>
    obtain ⟨h1, h2, h3, h4⟩ := h
    have e : bd (all ++ [b]) k = bd all k := by rw [bd_snoc, if_pos h1]
    refine ⟨by simp; omega, by rw [e]; exact h2, by rw [e]; exact h3, fun b' hb' h5 h6 => ?_⟩
    rw [e]
    rcases List.mem_append.1 hb' with h7 | h7
    · exact h4 b' h7 h5 h6
    · simp at h7; subst h7; exact absurd ⟨h5, h6⟩ hb
theorem LeastOk.keep {b : Bd} {k : Nat} (h : LeastOk all b.i b.j (some k)) (hc : (bd all k).c ≤ b.c) : LeastOk (all ++ [b]) b.i b.j (some k) := by
  obtain ⟨h1, h2, h3, h4⟩ := h
  have e : bd (all ++ [b]) k = bd all k := by rw [bd_snoc, if_pos h1]
  refine ⟨by simp; omega, by rw [e]; exact h2, by rw [e]; exact h3, fun b' hb' h5 h6 => ?_⟩
  rw [e]
  rcases List.mem_append.1 hb' with h7 | h7
  · exact h4 b' h7 h5 h6
  · simp at h7; subst h7; exact hc
theorem LeastOk.turn {b : Bd} {o : Option Nat} (h : LeastOk all b.i b.j o) (hc : ∀ k, o = some k → b.c < (bd all k).c) : LeastOk (all ++ [b]) b.i b.j (some all.length) := by
  have e : bd (all ++ [b]) all.length = b := by rw [bd_snoc, if_neg (by omega), if_pos rfl]
  refine ⟨by simp, by rw [e], by rw [e], fun b' hb' h5 h6 => ?_⟩
  rw [e]
  rcases List.mem_append.1 hb' with h7 | h7
  · cases o with
    | none => exact absurd ⟨h5, h6⟩ (h b' h7)
    | some k =>
      have := hc k rfl
      have := h.2.2.2 b' h7 h5 h6
      omega
  · simp at h7; subst h7; exact Int.le_refl _
end
end Go.Proofs.Ytkpacejikoengaa.W
