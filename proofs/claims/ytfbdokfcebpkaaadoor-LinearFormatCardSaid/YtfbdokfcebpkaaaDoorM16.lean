/- Parts of the proof, one after the other: W28, W29, W30, W31, W32, W33, W34, W35, W36, W37, W38, W39. No condition. -/
import Derived.Test.YtfbdokfcebpkaaaDoorM15
namespace Go.Proofs.YtfbdokfcebpkaaaDoor.W
open Go.RowKit E M
set_option linter.unusedVariables false
set_option linter.unusedSimpArgs false
set_option linter.unusedSectionVars false

def timesI (a n : Int) : Int := if a.natAbs * n.natAbs ≤ 2 ^ 60 then a * n else 2 ^ 60
end Go.Proofs.YtfbdokfcebpkaaaDoor.W
namespace Go.Proofs.YtfbdokfcebpkaaaDoor.W
open Go.RowKit E M
set_option linter.unusedVariables false
set_option linter.unusedSimpArgs false
set_option linter.unusedSectionVars false
def mulR (p : Pt) (n : Int) : Pt := ⟨timesI p.coef n, p.kind, p.var, p.dv, p.of⟩
end Go.Proofs.YtfbdokfcebpkaaaDoor.W
namespace Go.Proofs.YtfbdokfcebpkaaaDoor.W
open Go.RowKit E M
set_option linter.unusedVariables false
set_option linter.unusedSimpArgs false
set_option linter.unusedSectionVars false
/-- equal but for the wrap -/
def md (a b : Int) : Prop := ∃ k : Int, a = b + k * 18446744073709551616
theorem md.symm {a b : Int} (h : md a b) : md b a := by obtain ⟨k, h⟩ := h; exact ⟨-k, by omega⟩
theorem md.trans {a b c : Int} (h : md a b) (h' : md b c) : md a c := by obtain ⟨k, h⟩ := h; obtain ⟨j, h'⟩ := h'; exact ⟨k + j, by omega⟩
theorem md.add {a b c d : Int} (h : md a b) (h' : md c d) : md (a + c) (b + d) := by obtain ⟨k, h⟩ := h; obtain ⟨j, h'⟩ := h'; exact ⟨k + j, by omega⟩
theorem md.mul {a b : Int} (h : md a b) (n : Int) : md (a * n) (b * n) := by obtain ⟨k, h⟩ := h; exact ⟨k * n, by subst h; grind⟩
end Go.Proofs.YtfbdokfcebpkaaaDoor.W
namespace Go.Proofs.YtfbdokfcebpkaaaDoor.W
open Go.RowKit E M
set_option linter.unusedVariables false
set_option linter.unusedSimpArgs false
set_option linter.unusedSectionVars false

end Go.Proofs.YtfbdokfcebpkaaaDoor.W
namespace Go.Proofs.YtfbdokfcebpkaaaDoor.W
open Go.RowKit E M
set_option linter.unusedVariables false
set_option linter.unusedSimpArgs false
set_option linter.unusedSectionVars false
theorem lex_zero {a b : Int} : lex a b = 0 ↔ a = 0 ∧ b = 0 := by unfold lex; split <;> omega
/-- the same part, but for the coefficient -/
def eqv (p q : Pt) : Prop := p.kind = q.kind ∧ p.var = q.var ∧ p.dv = q.dv ∧ p.of = q.of
theorem one_list {l : List Tm} (h : l.length ≤ 1) : l = [] ∨ ∃ o, l = [o] := by
  match l, h with
  | [], _ => exact .inl rfl
  | [o], _ => exact .inr ⟨o, rfl⟩
theorem cmpP_zero' {p q : Pt} (hp : vldP p = true) (hq : vldP q = true) (ih : ∀ o ∈ p.of, ∀ b, vldT o = true → vldT b = true → cmpT o b = 0 → o = b) (h : cmpP p q = 0) : eqv p q := by
  rw [cmpP_lex, lex_zero, lex_zero, lex_zero, ints_zero, ints_zero, ints_zero] at h
  obtain ⟨h1, h2, h3, h4⟩ := h
  refine ⟨h1, h2, h3, ?_⟩
  have o1 := vldP_one hp
  have o2 := vldP_one hq
  rcases one_list o1.len with e1 | ⟨o, e1⟩ <;> rcases one_list o2.len with e2 | ⟨o', e2⟩
  · rw [e1, e2]
  · rw [e1, e2, cmpO] at h4; cases h4
  · rw [e1, e2, cmpO] at h4; cases h4
  · rw [e1, e2, cmpO] at h4
    rw [e1, e2, ih o (by rw [e1]; simp) o' (o1.sub o (by rw [e1]; simp)) (o2.sub o' (by rw [e2]; simp)) h4]
theorem cmpL_zero {l : List Pt} (hi : ∀ p ∈ l, vldP p = true ∧ ∀ o ∈ p.of, ∀ b, vldT o = true → vldT b = true → cmpT o b = 0 → o = b) : ∀ {m : List Pt} {e : Int}, (∀ q ∈ m, vldP q = true) → cmpL l m e = 0 → l = m ∧ e = 0 := by
  induction l with
  | nil =>
    intro m e hm h
    cases m with
    | nil => rw [cmpL] at h; exact ⟨rfl, h⟩
    | cons q s => rw [cmpL] at h; cases h
  | cons p r ih =>
    intro m e hm h
    cases m with
    | nil => rw [cmpL] at h; cases h
    | cons q s =>
      rw [cmpL_lex, lex_zero, lex_zero, ints_zero] at h
      obtain ⟨h1, h2, h3⟩ := h
      obtain ⟨k1, k2, k3, k4⟩ := cmpP_zero' (hi p (by simp)).1 (hm q (by simp)) (hi p (by simp)).2 h1
      obtain ⟨e1, e2⟩ := ih (fun x hx => hi x (by simp [hx])) (fun x hx => hm x (by simp [hx])) h3
      refine ⟨?_, e2⟩
      rw [e1]
      have : p = q := by cases p; cases q; simp_all
      rw [this]
theorem cmpT_zero (a : Tm) : ∀ b, vldT a = true → vldT b = true → cmpT a b = 0 → a = b := by
  induction a using Tm.ind with
  | h a ih =>
    intro b ha hb h
    rw [cmpT_eq] at h
    obtain ⟨h1, h2⟩ := cmpL_zero (fun p hp => ⟨vld_parts ha p hp, fun o ho b hv hv' h => ih p hp o ho b hv hv' h⟩) (vld_parts hb) h
    rw [ints_zero] at h2
    cases a; cases b; simp_all
abbrev av (l : List Pt) : Prop := ∀ p ∈ l, vldP p = true
theorem av.tl {p : Pt} {l : List Pt} (h : av (p :: l)) : av l := fun q hq => h q (by simp [hq])
theorem av.hd {p : Pt} {l : List Pt} (h : av (p :: l)) : vldP p = true := h p (by simp)
end Go.Proofs.YtfbdokfcebpkaaaDoor.W
namespace Go.Proofs.YtfbdokfcebpkaaaDoor.W
open Go.RowKit E M
set_option linter.unusedVariables false
set_option linter.unusedSimpArgs false
set_option linter.unusedSectionVars false
end Go.Proofs.YtfbdokfcebpkaaaDoor.W
namespace Go.Proofs.YtfbdokfcebpkaaaDoor.W
open Go.RowKit E M
set_option linter.unusedVariables false
set_option linter.unusedSimpArgs false
set_option linter.unusedSectionVars false
end Go.Proofs.YtfbdokfcebpkaaaDoor.W
namespace Go.Proofs.YtfbdokfcebpkaaaDoor.W
open Go.RowKit E M
set_option linter.unusedVariables false
set_option linter.unusedSimpArgs false
set_option linter.unusedSectionVars false
/-- the elements in order, each of them once -/
def dd (l : List Int) : List Int := Lib.compact (l.mergeSort fun x y => decide (x ≤ y))
/-! the columns of a term -/
mutual
def colT : Tm → List Int
  | .mk _ ps => colPs ps
def colPs : List Pt → List Int
  | [] => []
  | p :: r => colP p ++ colPs r
def colP : Pt → List Int
  | .mk _ k v _ of => if k = 2 then colO of else [v]
def colO : List Tm → List Int
  | [] => []
  | t :: _ => colT t
end
end Go.Proofs.YtfbdokfcebpkaaaDoor.W
namespace Go.Proofs.YtfbdokfcebpkaaaDoor.W
open Go.RowKit E M
set_option linter.unusedVariables false
set_option linter.unusedSimpArgs false
set_option linter.unusedSectionVars false
end Go.Proofs.YtfbdokfcebpkaaaDoor.W
namespace Go.Proofs.YtfbdokfcebpkaaaDoor.W
open Go.RowKit E M
set_option linter.unusedVariables false
set_option linter.unusedSimpArgs false
set_option linter.unusedSectionVars false
end Go.Proofs.YtfbdokfcebpkaaaDoor.W
namespace Go.Proofs.YtfbdokfcebpkaaaDoor.W
open Go.RowKit E M
set_option linter.unusedVariables false
set_option linter.unusedSimpArgs false
set_option linter.unusedSectionVars false
mutual
def Ex.siz : Ex → Nat
  | .mk _ _ _ _ _ _ _ args => 1 + sizEs args
def sizEs : List Ex → Nat
  | [] => 0
  | a :: r => a.siz + sizEs r
end
mutual
def Ex.mds : Ex → Nat
  | .mk op _ _ _ _ _ _ args => (if op = 8 then 1 else 0) + mdsEs args
def mdsEs : List Ex → Nat
  | [] => 0
  | a :: r => a.mds + mdsEs r
end
mutual
/-- what data out of memory is known to be: numbers in range, lists and texts that fit -/
def rgE' : Ex → Prop
  | .mk _ _ _ ix _ vn vs args => (R64 ix ∧ R64 vn ∧ vs.size ≤ 1152921504606846976 ∧ args.length ≤ 1000000000000000000) ∧ rgEs args
def rgEs : List Ex → Prop
  | [] => True
  | a :: r => rgE' a ∧ rgEs r
end
end Go.Proofs.YtfbdokfcebpkaaaDoor.W
namespace Go.Proofs.YtfbdokfcebpkaaaDoor.W
open Go.RowKit E M
set_option linter.unusedVariables false
set_option linter.unusedSimpArgs false
set_option linter.unusedSectionVars false
/-- the expressions that have a term -/
inductive OkE (e : Ex) : Prop
  | lit (h1 : e.op = 1) (h2 : e.vk = 1) (h3 : ofE e = (⟨e.vn, []⟩, 0)) (h4 : smallB ⟨e.vn, []⟩ = true)
  | col (h1 : e.op = 2) (h2 : 0 ≤ e.ix) (h3 : ofE e = (⟨0, [⟨1, 0, e.ix, 0, []⟩]⟩, 0)) (h4 : smallB ⟨0, [⟨1, 0, e.ix, 0, []⟩]⟩ = true)
  | lenT (a : Ex) (h1 : e.op = 9) (h2 : e.args = [a]) (h3 : a.op = 1) (h4 : ofE e = (⟨(a.vs.size : Int), []⟩, 0)) (h5 : smallB ⟨(a.vs.size : Int), []⟩ = true)
  | lenC (a : Ex) (h1 : e.op = 9) (h2 : e.args = [a]) (h3 : a.op = 2) (h0 : 0 ≤ a.ix) (h4 : ofE e = (⟨0, [⟨1, 1, a.ix, 0, []⟩]⟩, 0)) (h5 : smallB ⟨0, [⟨1, 1, a.ix, 0, []⟩]⟩ = true)
  | neg (a : Ex) (h1 : e.op = 3) (h2 : e.args = [a]) (h3 : (ofE a).2 = 0) (h4 : ofE e = scale (ofE a).1 (-1))
  | bin (a b : Ex) (h1 : 4 ≤ e.op ∧ e.op ≤ 8) (h2 : e.args = [a, b]) (h3 : (ofE a).2 = 0) (h4 : (ofE b).2 = 0) (h5 : ofE e = comb e.op (ofE a).1 (ofE b).1)
/-- the operations that have a term -/
inductive OkC (op : Int) (a b : Tm) : Prop
  | add (h1 : op = 4) (h2 : comb op a b = W.add a b)
  | sub (h1 : op = 5) (h3 : (scale b (-1)).2 = 0) (h2 : comb op a b = W.add a (scale b (-1)).1)
  | mulL (h1 : op = 6) (h3 : a.ps = []) (h2 : comb op a b = scale b a.c)
  | mulR (h1 : op = 6) (h3 : b.ps = []) (h2 : comb op a b = scale a b.c)
  | div (h1 : op = 7) (h3 : b.ps = []) (h4 : 1 ≤ b.c ∧ b.c ≤ 1000) (h5 : (W.div a b.c).2 = 0) (h2 : comb op a b = W.div a b.c)
  | mod (h1 : op = 8) (h3 : b.ps = []) (h4 : 1 ≤ b.c ∧ b.c ≤ 1000) (h5 : (W.div a b.c).2 = 0) (h6 : (scale (W.div a b.c).1 (-b.c)).2 = 0) (h2 : comb op a b = W.add a (scale (W.div a b.c).1 (-b.c)).1)
end Go.Proofs.YtfbdokfcebpkaaaDoor.W
