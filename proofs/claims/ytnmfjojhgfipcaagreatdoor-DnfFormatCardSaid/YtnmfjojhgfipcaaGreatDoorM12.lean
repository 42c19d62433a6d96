/- Parts of the proof, one after the other: E45, E46, E47, E48, E49, E50, E51, E52, E53, E54, E55, E56, E57, E58, E59, E60. No condition. -/
import Derived.Test.YtnmfjojhgfipcaaGreatDoorM11
import Derived.Lib.LaidTab
import Derived.Laws.StructEq
import Derived.Lib.ConvBytes
/- Contracts that lean on package variables that are only read. Plain theorems, for any program. -/
namespace Go.Proofs.YtnmfjojhgfipcaaGreatDoor.E
open Go.RowKit
set_option linter.unusedVariables false
theorem tabIs {P : Program} {w : World} (h : TabW w) {name : String} {g : Nat} {k : IntKind} {zs : List Int} (hg : P.globalNamed name = some g) (ht : TAB g = some (· = (zs.map fun z => Value.int k z).toArray)) : Lib.TabIs P w name k zs := by
  obtain ⟨_, ty, fl, e, rfl⟩ := h g _ ht
  unfold Lib.TabIs World.var?
  rw [hg]
  simp only [Option.bind_some, e]
theorem q_remC {P : Program} {o : Oper} {s : S} {t u : TypeId} {x y : Operand} {k : IntKind} {a b c : Int} (ho : o.op = .binOp .rem t x y u) (hx : s.eval x = iX k a) (hy : s.eval y = iX k b) (h0 : b ≠ 0) (hc : a.tmod b = c) : QV P o s (iX k c) := hc ▸ q_rem ho hx hy h0
/-- a call that leaves the world as it was, but for new blocks -/
theorem Pure.of_grow {P : Program} {f : FuncId} (us : List Value) {v : Value} {x : X} (h : ∀ w, TabW w → Calls P f us.toArray w fun e w' => e = .returned v ∧ ∃ k os, w' = Go.Sort.grow (w.drewN k) os) (hx : ∀ c, RepX c x v) : Pure P f (us.map vC) x := by
  intro H c w vs hc hr
  have h1 := reps_vals hr
  have h2 : vs = us.toArray := by rw [← h1]
  rw [h2]
  refine (h w hc.tabw).mono ?_
  rintro e w' ⟨rfl, k, os, rfl⟩
  obtain ⟨h3, h4⟩ := hc.far (w' := Go.Sort.grow (w.drewN k) os) rfl rfl rfl (by show w.heap.size ≤ (w.heap ++ os).size; simp) fun b hb => by
    show (w.heap ++ os)[b]? = _
    rw [Array.getElem?_append, if_pos hb]
  exact ⟨v, x, H, c, rfl, ⟨rfl, rfl⟩, hx c, h3, h4⟩
end Go.Proofs.YtnmfjojhgfipcaaGreatDoor.E
/- From a listed table to what the walks ask of the world. Plain theorems, for any program. -/
namespace Go.Proofs.YtnmfjojhgfipcaaGreatDoor.E
open Go.RowKit
end Go.Proofs.YtnmfjojhgfipcaaGreatDoor.E
/- Forgetting inside aggregates; counting loops. Plain theorems, for any program. -/
namespace Go.Proofs.YtnmfjojhgfipcaaGreatDoor.E
open Go.RowKit
set_option linter.unusedVariables false
theorem XW.reA {a : A} : XW (.c (.a a)) (.c (.a a)) := ⟨rfl, fun _ _ h => h⟩
theorem XW.trans {x y z : X} (h : XW x y) (k : XW y z) : XW x z := ⟨k.1, fun c v r => k.2 c v (h.2 c v r)⟩
inductive XWs : List A → List A → Prop
  | nil : XWs [] []
  | cons {a b : A} {l m : List A} (h : XW (.c (.a a)) (.c (.a b))) (t : XWs l m) : XWs (a :: l) (b :: m)
theorem XWs.len {l m : List A} (h : XWs l m) : l.length = m.length := by
  induction h with
  | nil => rfl
  | cons _ _ ih => simp [ih]
theorem XWs.at {l m : List A} (h : XWs l m) {i : Nat} {b : A} (hb : m[i]? = some b) : ∃ a, l[i]? = some a ∧ XW (.c (.a a)) (.c (.a b)) := by
  induction h generalizing i with
  | nil => simp at hb
  | @cons a b' l m hx t ih =>
    cases i with
    | zero => simp at hb; subst hb; exact ⟨a, rfl, hx⟩
    | succ i => simp at hb; simpa using ih hb
theorem XW.g {l m : List A} (h : XWs l m) : XW (.c (.g l)) (.c (.g m)) := ⟨rfl, fun c v hv => by
  obtain ⟨us, rfl, h1, h2⟩ := hv
  refine ⟨us, rfl, by rw [← h.len]; exact h1, fun i b u hb hu => ?_⟩
  obtain ⟨a, ha, hx⟩ := h.at hb
  exact hx.2 c u (h2 i a u ha hu)⟩
theorem XW.es {z : Nz} {sz : Nat} {es es' : List (List T)} (h : es = es') : XW (.c (.a (.t (.sl z sz es)))) (.c (.a (.t (.sl .un sz es')))) := h ▸ XW.un
/-! ### what holds up to a place -/
section
variable {n i : Nat} {Q : (j : Nat) → j < n → Prop}
theorem up0 : ∀ j (h : j < n), j < 0 → Q j h := fun j _ h => absurd h (Nat.not_lt_zero j)
theorem upS (hi : i < n) (h : ∀ j (h : j < n), j < i → Q j h) (hq : Q i hi) : ∀ j (h : j < n), j < i + 1 → Q j h := fun j hj hl => by
  by_cases e : j = i
  · subst e; exact hq
  · exact h j hj (by omega)
theorem upE (h : ∀ j (h : j < n), j < i → Q j h) (hi : n ≤ i) : ∀ j (h : j < n), Q j h := fun j hj => h j hj (by omega)
theorem upN (hi : i < n) (hn : ¬ Q i hi) : ¬ ∀ j (h : j < n), Q j h := fun h => hn (h i hi)
end
theorem dT {p : Prop} [Decidable p] (h : p) : true = decide p := (decide_eq_true h).symm
theorem dF {p : Prop} [Decidable p] (h : ¬ p) : false = decide p := (decide_eq_false h).symm
theorem dI {p q : Prop} [Decidable p] [Decidable q] (h : p ↔ q) : decide p = decide q := decide_eq_decide.2 h
end Go.Proofs.YtnmfjojhgfipcaaGreatDoor.E
/- Quotients rounded down. Plain theorems. -/
namespace Go.Proofs.YtnmfjojhgfipcaaGreatDoor.E
theorem tdiv_np {a b : Int} (ha : a ≤ 0) (hb : 0 ≤ b) : a.tdiv b ≤ 0 := by
  have := Int.tdiv_nonneg (a := -a) (b := b) (by omega) hb
  rw [Int.neg_tdiv] at this; omega
theorem tdiv_mul {a b : Int} (hb : 1 ≤ b) : (a.tdiv b * b).natAbs ≤ a.natAbs ∧ (a.tmod b < 0 ↔ a.tdiv b * b > a) ∧ (a < 0 → a.tdiv b * b ≤ 0) := by
  have h0 : a < 0 → a.tdiv b * b ≤ 0 := fun h => by
    have := Int.mul_le_mul_of_nonneg_right (tdiv_np (a := a) (b := b) (by omega) (by omega)) (show 0 ≤ b by omega)
    omega
  have h1 := Int.tdiv_mul_add_tmod a b
  have h2 : (a.tdiv b * b).natAbs = a.natAbs / b.natAbs * b.natAbs := by rw [Int.natAbs_mul, Int.natAbs_tdiv]; rfl
  have h3 := Nat.div_mul_le_self a.natAbs b.natAbs
  refine ⟨by omega, by omega, h0⟩
theorem tdiv_R {a b : Int} (hb : 1 ≤ b) (ha : -9223372036854775808 ≤ a ∧ a ≤ 9223372036854775807) : -9223372036854775808 ≤ a.tdiv b ∧ a.tdiv b ≤ 9223372036854775807 ∧ (a.tdiv b * b > a → -9223372036854775808 < a.tdiv b) := by
  have h1 : (a.tdiv b).natAbs = a.natAbs / b.natAbs := Int.natAbs_tdiv _ _
  have h2 := Nat.div_le_self a.natAbs b.natAbs
  have h3 := (tdiv_mul (a := a) hb).1
  refine ⟨by omega, ?_, fun h => ?_⟩
  · by_cases h : a < 0
    · have := tdiv_np (a := a) (b := b) (by omega) (by omega); omega
    · omega
  · by_cases h4 : a < 0
    · by_cases h5 : b < 2
      · have : b = 1 := by omega
        subst this; simp at h
      · have : a.natAbs / b.natAbs < a.natAbs := Nat.div_lt_self (by omega) (by omega)
        omega
    · have := Int.tdiv_nonneg (a := a) (b := b) (by omega) (show 0 ≤ b by omega); omega
theorem tdiv_floor {a b : Int} (hb : 1 ≤ b) : (a.tdiv b * b > a → a.tdiv b - 1 = a / b) ∧ (¬ a.tdiv b * b > a → a.tdiv b = a / b) := by
  have h1 := Int.tdiv_mul_add_tmod a b
  have h2 := Int.ediv_mul_add_emod a b
  have h3 := Int.emod_nonneg a (show b ≠ 0 by omega)
  have h4 := Int.emod_lt_of_pos a (show 0 < b by omega)
  have h5 := Int.tmod_lt_of_pos a (show 0 < b by omega)
  have h6 : -b < a.tmod b := by
    have := Int.lt_tmod_of_pos a (show 0 < b by omega)
    omega
  refine ⟨fun h => ?_, fun h => ?_⟩
  · refine (Int.ediv_eq_iff_of_pos (show 0 < b by omega)).2 ⟨?_, ?_⟩ |>.symm <;> grind
  · refine (Int.ediv_eq_iff_of_pos (show 0 < b by omega)).2 ⟨?_, ?_⟩ |>.symm <;> grind
end Go.Proofs.YtnmfjojhgfipcaaGreatDoor.E
/- Two flat values are compared. Plain theorems, for any program. -/
namespace Go.Proofs.YtnmfjojhgfipcaaGreatDoor.E
open Go.RowKit
set_option linter.unusedVariables false
section
variable {P : Program} {o : Oper} {s : S} {x y : Operand} {t u : TypeId} {l m : List A} {q : Bool}
end
end Go.Proofs.YtnmfjojhgfipcaaGreatDoor.E
/- Rounds of a loop written out one after the other. -/
namespace Go.Proofs.YtnmfjojhgfipcaaGreatDoor.E
open Go.RowKit
set_option linter.unusedVariables false
section
variable {P : Program} {Q : Exit → S → Prop} {s : S}
/-- a loop, at the start of a round -/
def LoopW (P : Program) (body : Code) (Q : Exit → S → Prop) (s : S) : Prop :=
  ∀ c a w, Sat c s a w → ∀ b k cs, ∃ e a' w', (∃ s' c', Q e s' ∧ Sat c' s' a' w' ∧ Ext c s.own w c' s'.own w') ∧ Arrives P (lone (b.at a (.code body :: .inLoop body :: k)) cs w) b k cs e a' w'
theorem eth_n {K : S → Prop} (h : K s) : Eth K Q .normal s := h
theorem eb_n {id : Nat} (h : Q .normal s) : EBlock id Q .normal s := h
theorem LoopW.again {body : Code} (h : AW P body (Eth (LoopW P body Q) Q) s) : LoopW P body Q s := by
  intro c a w g b k cs
  obtain ⟨e, a₁, w₁, ⟨s1, c1, q, g1, x1⟩, harr⟩ := h c a w g b (.inLoop body :: k) cs
  cases e with
  | normal =>
    obtain ⟨e₂, a₂, w₂, ⟨s3, c3, q3, g3, x3⟩, harr₂⟩ := q c1 a₁ w₁ g1 b k cs
    exact ⟨e₂, a₂, w₂, ⟨s3, c3, q3, g3, x1.trans x3⟩, .of_steps (Steps.trans harr (.one step_inLoop)) harr₂⟩
  | exit id => exact ⟨_, a₁, w₁, ⟨s1, c1, q, g1, x1⟩, .pass (x := .inLoop body) rfl (fun _ _ => .inl (by simp)) harr⟩
  | goto l => exact ⟨_, a₁, w₁, ⟨s1, c1, q, g1, x1⟩, .pass (x := .inLoop body) rfl (fun _ _ => .inl (by simp)) harr⟩
  | ret => exact ⟨_, a₁, w₁, ⟨s1, c1, q, g1, x1⟩, .pass (x := .inLoop body) rfl (fun _ _ => .inl (by simp)) harr⟩
  | panic ch => exact ⟨_, a₁, w₁, ⟨s1, c1, q, g1, x1⟩, .pass (x := .inLoop body) rfl (fun _ _ => .inl (by simp)) harr⟩
  | outgrown => exact ⟨_, a₁, w₁, ⟨s1, c1, q, g1, x1⟩, .pass (x := .inLoop body) rfl (fun _ _ => .inl (by simp)) harr⟩
theorem AW.unroll {body : Code} (h : AW P body (Eth (LoopW P body Q) Q) s) : AW P (.loop body) Q s := by
  intro c a w g b k cs
  obtain ⟨e, a', w', hq, harr⟩ := LoopW.again h c a w g b k cs
  exact ⟨e, a', w', hq, .of_steps (.one step_loop) harr⟩
theorem LoopW.wk {body : Code} {s' : S} (hw : Wk s s') (h : LoopW P body Q s') : LoopW P body Q s := fun c a w g b k cs => by
  obtain ⟨c', g', x'⟩ := hw c a w g
  obtain ⟨e, a1, w1, ⟨s1, c1, q, g1, x1⟩, harr⟩ := h c' a w g' b k cs
  exact ⟨e, a1, w1, ⟨s1, c1, q, g1, x'.trans x1⟩, harr⟩
end
/-- a weaker word on an argument -/
theorem Spec.arg {P : Program} {f : FuncId} {l r : List C} {x y : C} {H : Heap} {Q : X → Heap → Prop} (h : XW (.c x) (.c y)) (k : Spec P f (l ++ y :: r) H Q) : Spec P f (l ++ x :: r) H Q := by
  intro c w vs hc hr
  refine k c w vs hc ⟨by rw [← hr.1]; simp, fun i z v hz hv => ?_⟩
  by_cases hi : i = l.length
  · subst hi
    simp at hz; subst hz
    exact h.2 c v (hr.2 l.length x v (by simp) hv)
  · refine hr.2 i z v ?_ hv
    by_cases hl : i < l.length
    · rw [List.getElem?_append_left hl] at hz ⊢; exact hz
    · have h1 : l.length ≤ i := by omega
      rw [List.getElem?_append_right h1] at hz ⊢
      obtain ⟨m, hm⟩ : ∃ m, i - l.length = m + 1 := ⟨i - l.length - 1, by omega⟩
      rw [hm] at hz ⊢; simpa using hz
theorem Pure.arg {P : Program} {f : FuncId} (l : List C) {r : List C} {x y : C} {z : X} (h : XW (.c x) (.c y)) (k : Pure P f (l ++ y :: r) z) : Pure P f (l ++ x :: r) z := fun H => Spec.arg h (k H)
theorem Spec.res {P : Program} {f : FuncId} {l : List C} {H : Heap} {Q Q' : X → Heap → Prop} (k : Spec P f l H Q) (h : ∀ x H', Q x H' → ∃ y, XW x y ∧ Q' y H') : Spec P f l H Q' := fun c w vs hc hr =>
  (k c w vs hc hr).mono fun _ _ ⟨v, x, H', c', e, q, hx, r⟩ => by
    obtain ⟨y, hy, hq⟩ := h x H' q
    exact ⟨v, y, H', c', e, hq, hy.2 c' v hx, r⟩
theorem Pure.res {P : Program} {f : FuncId} {l : List C} {x y : X} (k : Pure P f l x) (h : XW x y) : Pure P f l y := fun H => (k H).res fun _ _ ⟨e, hH⟩ => ⟨y, by rw [e]; exact h, rfl, hH⟩
end Go.Proofs.YtnmfjojhgfipcaaGreatDoor.E
/- A string turned to a slice of bytes. Plain theorems, for any program. -/
namespace Go.Proofs.YtnmfjojhgfipcaaGreatDoor.E
open Go.RowKit
set_option linter.unusedVariables false
end Go.Proofs.YtnmfjojhgfipcaaGreatDoor.E
/- A call of a function value under a guard that holds. Plain theorems, for any program. -/
namespace Go.Proofs.YtnmfjojhgfipcaaGreatDoor.E
open Go.RowKit
set_option linter.unusedVariables false
section
variable {P : Program} {all : Array Oper} {o : Oper} {n d : Nat} {t : Nat → X} {L : Nat → Option AO} {H : Heap} {K : S → Prop} {rest : List Oper}
end
end Go.Proofs.YtnmfjojhgfipcaaGreatDoor.E
/- append onto an empty slice with room. Plain theorems, for any program. -/
namespace Go.Proofs.YtnmfjojhgfipcaaGreatDoor.E
open Go.RowKit
set_option linter.unusedVariables false
section
variable {P : Program} {all : Array Oper} {o : Oper} {K : S → Prop} {rest : List Oper}
end
end Go.Proofs.YtnmfjojhgfipcaaGreatDoor.E
/- A call that hands back a new block: out of a contract in the kit's words. Plain theorems, for any program. -/
namespace Go.Proofs.YtnmfjojhgfipcaaGreatDoor.E
open Go.RowKit
set_option linter.unusedVariables false
theorem Spec.fresh {P : Program} {f : FuncId} (us : List Value) {y : AO} {x : Nat → X} (hl : ∀ k, (x k).loc = none)
    (h : ∀ w, Calls P f us.toArray w fun e w' => ∃ v b n, e = .returned v ∧ w'.os = w.os ∧ w'.tape = w.tape ∧ w'.output = w.output ∧ w.heap.size ≤ w'.heap.size ∧ (∀ b', b' < w.heap.size → w'.heap[b']? = w.heap[b']?) ∧ w.heap.size ≤ b ∧ (∀ c : Ctx, (∀ o, c.μ b o = none) → ORep c w' y b n) ∧ (∀ (c : Ctx) k, c.β k = some (b, n) → RepX c (x k) v)) (H : Heap) :
    Spec P f (us.map vC) H fun z H' => ∃ k, H k = none ∧ z = x k ∧ H' = upd H k (some y) := by
  intro c0 w vs hc0 hr
  have h1 := reps_vals hr
  have h2 : vs = us.toArray := by rw [← h1]
  rw [h2]
  refine (h w).mono ?_
  rintro e w' ⟨v, b, n, rfl, hos, htp, hou, hsz, hbl, hb, hO, hX⟩
  obtain ⟨c, hcd⟩ : ∃ c : Ctx, c = { c0 with base := w.heap.size } := ⟨_, rfl⟩
  have hc : Conc c (ownH H) w := by subst hcd; exact hc0.rebase
  have g : Sat c (start [] 0 H) { tmps := #[], defers := [] } w := by
    refine ⟨by rw [own_start]; exact hc, rfl, fun i => ?_, .nil (by subst hcd; exact Nat.le_refl _), fun i d hx => ?_⟩
    · simp only [start]; trivial
    · simp only [start] at hx; cases hx
  obtain ⟨k, q1, q2, q3, q4⟩ := g.newE (x := y) (b := b) (n := n) (.grew g.memOk hos htp hou hsz hbl) hb (hO c fun o => by
    cases hz : c.μ b o with
    | none => rfl
    | some u => have := World.block_lt_of_cell? w _ (hc.mem b o u hz); simp at this; omega)
  rw [own_start] at q4
  have hown : ((start [] 0 H).setOwn (.e k) y).own = ownH (upd H k (some y)) := by
    funext i; cases i <;> rfl
  have q5 := q3.conc
  rw [hown] at q5 q4
  exact ⟨v, x k, upd H k (some y), { { c with β := upd c.β k (some (b, n)) } with base := c0.base }, rfl, ⟨k, q1, rfl, rfl⟩, (hX { c with β := upd c.β k (some (b, n)) } k (upd_same _ _ _)).rebase, q5.rebase, by subst hcd; exact q4.rebase⟩
end Go.Proofs.YtnmfjojhgfipcaaGreatDoor.E
/- A call of a function value that changes nothing. Plain theorems, for any program. -/
namespace Go.Proofs.YtnmfjojhgfipcaaGreatDoor.E
open Go.RowKit
set_option linter.unusedVariables false
section
variable {P : Program} {o : Oper} {s : S}
end
end Go.Proofs.YtnmfjojhgfipcaaGreatDoor.E
/- The cells of a variable: what is known of them may be forgotten. Plain theorems, for any program. -/
namespace Go.Proofs.YtnmfjojhgfipcaaGreatDoor.E
open Go.RowKit
set_option linter.unusedVariables false
section
variable {P : Program} {cd : Code} {Q : Exit → S → Prop} {n : Nat} {t : Nat → X} {L : Nat → Option AO} {H : Heap}
end
end Go.Proofs.YtnmfjojhgfipcaaGreatDoor.E
/- An object with a name becomes a variable of the call's own again. Function constants. Plain theorems, for any program. -/
namespace Go.Proofs.YtnmfjojhgfipcaaGreatDoor.E
open Go.RowKit
set_option linter.unusedVariables false
section
variable {P : Program} {cd : Code} {Q : Exit → S → Prop} {n : Nat} {t : Nat → X} {L : Nat → Option AO} {H : Heap}
theorem RepX.lamU {c : Ctx} {d : Nat} {p : Nat × Nat} {x : X} {v : Value} (hx : x.loc ≠ some d) (h : RepX c x v) : RepX ⟨c.μ, c.β, upd c.lam d p, c.base⟩ x v := by
  cases x with
  | lp d' off | lmp d' =>
    have hd : d' ≠ d := fun e => hx (by subst e; rfl)
    simp only [RepX, upd_ne _ _ hd] at h ⊢
    exact h
  | lts d' z sz es =>
    have hd : d' ≠ d := fun e => hx (by subst e; rfl)
    simp only [RepX, upd_ne _ _ hd] at h ⊢
    exact h
  | c x => exact h
  | tup l => exact h
  | pc l => exact h
  | any => exact h
theorem Gh.imp (i d k off : Nat) {cs : List A} (hk : H k = some (.box cs)) (hd : L d = none) (hi : t i = .c (.a (.bp k off))) : Gh ⟨n, t, L, H⟩ fun s' => s' = ⟨n, upd t i (.lp d off), upd L d (some (.box cs)), upd H k none⟩ := by
  intro c a w g
  obtain ⟨N, hN⟩ := g.conc.fin
  obtain ⟨b, m, hp, hor⟩ := g.conc.obj (.e k) (.box cs) hk (by simp [AO.empty])
  have hp : c.β k = some (b, m) := hp
  let old : Id → Id := fun j => if j = .l d then .e k else j
  have own' : ∀ j y, S.own ⟨n, upd t i (.lp d off), upd L d (some (.box cs)), upd H k none⟩ j = some y → S.own ⟨n, t, L, H⟩ (old j) = some y ∧ Ctx.pos ⟨c.μ, c.β, upd c.lam d (b, m), c.base⟩ j = c.pos (old j) := fun j y h => by
    simp only [old]
    cases j with
    | l d' =>
      have h : upd L d (some (.box cs)) d' = some y := h
      by_cases hd' : d' = d
      · subst hd'
        rw [upd_same] at h
        rw [if_pos rfl]
        refine ⟨hk.trans h, ?_⟩
        show some (upd c.lam d' (b, m) d') = c.β k
        rw [upd_same, hp]
      · rw [upd_ne _ _ hd'] at h
        rw [if_neg (by simpa using hd')]
        refine ⟨h, ?_⟩
        show some (upd c.lam d (b, m) d') = some (c.lam d')
        rw [upd_ne _ _ hd']
    | e j =>
      have h : upd H k none j = some y := h
      have hj : j ≠ k := fun e => by subst e; rw [upd_same] at h; cases h
      rw [upd_ne _ _ hj] at h
      simp; exact ⟨h, rfl⟩
  have oldinj : ∀ i' j y z, S.own ⟨n, upd t i (.lp d off), upd L d (some (.box cs)), upd H k none⟩ i' = some y → S.own ⟨n, upd t i (.lp d off), upd L d (some (.box cs)), upd H k none⟩ j = some z → old i' = old j → i' = j := fun i' j y z hi' hj h => by
    have nk : ∀ q u, S.own ⟨n, upd t i (.lp d off), upd L d (some (.box cs)), upd H k none⟩ q = some u → q ≠ .e k := fun q u h e => by
      subst e
      have h : upd H k none k = some u := h
      rw [upd_same] at h; cases h
    simp only [old] at h
    split at h <;> split at h
    · rename_i h1 h2; rw [h1, h2]
    · exact absurd h.symm (nk j z hj)
    · exact absurd h (nk i' y hi')
    · exact h
  refine ⟨_, ⟨c.μ, c.β, upd c.lam d (b, m), c.base⟩, rfl, ⟨⟨g.conc.mem, fun j y hj hy => ?_, fun i' j y z b1 n1 n2 hi' hj hy hz h1 h2 => ?_, ⟨N, fun q hq => ⟨(hN q hq).1, ?_⟩⟩, g.conc.tabw, fun tg cs th j y n1 hj hy hq => by
    obtain ⟨h1, h2⟩ := own' j y hj
    rw [h2] at hq
    exact g.conc.tabo tg cs th _ y n1 h1 hy hq⟩, g.size, fun j => ?_, g.defers, fun j e h => ?_⟩, ⟨rfl, rfl, rfl, Nat.le_refl _, fun _ _ _ => rfl, fun _ _ _ h => h, fun _ _ _ h => .inl h, fun _ _ h => h, fun j y b1 n1 hj hy h1 => ?_, rfl, fun q y hq => by
    have hq : upd H k none q = some y := hq
    have hj : q ≠ k := fun e => by subst e; rw [upd_same] at hq; cases hq
    rw [upd_ne _ _ hj] at hq
    exact .inl (by show H q ≠ none; rw [hq]; simp)⟩⟩
  · obtain ⟨h1, h2⟩ := own' j y hj
    obtain ⟨b1, n1, h3, h4⟩ := g.conc.obj _ y h1 hy
    exact ⟨b1, n1, by rw [h2]; exact h3, h4.keep rfl (fun _ _ _ h => h) (fun _ _ h => h) (fun _ _ h => h)⟩
  · obtain ⟨h3, h4⟩ := own' i' y hi'
    obtain ⟨h5, h6⟩ := own' j z hj
    rw [h4] at h1; rw [h6] at h2
    exact oldinj i' j y z hi' hj (g.conc.inj _ _ y z b1 n1 n2 h3 h5 hy hz h1 h2)
  · show upd H k none q = none
    by_cases e : q = k
    · subst e; rw [upd_same]
    · rw [upd_ne _ _ e]; exact (hN q hq).2
  · show RepX _ (upd t i (.lp d off) j) _
    by_cases e : j = i
    · subst e
      rw [upd_same]
      have h := g.tmps j
      simp only [hi] at h
      have h : RepA c.μ c.β (.bp k off) (a.tmps.getD j undef) := h
      generalize a.tmps.getD j undef = v at h
      cases h with
      | bp h1 =>
        rw [hp] at h1; injection h1 with h1; injection h1 with h1 h2; subst h1
        simp [RepX, upd_same]
    · rw [upd_ne _ _ e]
      exact RepX.lamU (fun h => g.wf j d h hd) (g.tmps j)
  · show upd L d (some (.box cs)) e ≠ none
    by_cases he : e = d
    · subst he; rw [upd_same]; simp
    · rw [upd_ne _ _ he]
      have h : (upd t i (.lp d off) j).loc = some e := h
      by_cases hj : j = i
      · subst hj; rw [upd_same] at h
        have h : some d = some e := h
        injection h with h; exact absurd h.symm he
      · rw [upd_ne _ _ hj] at h; exact g.wf j e h
  · obtain ⟨h3, h4⟩ := own' j y hj
    rw [h4] at h1
    exact .inr ⟨_, y, n1, h3, hy, h1⟩
theorem Wk.imp (i d k off : Nat) {cs : List A} (hk : H k = some (.box cs)) (hd : L d = none) (hi : t i = .c (.a (.bp k off))) : Wk ⟨n, t, L, H⟩ ⟨n, upd t i (.lp d off), upd L d (some (.box cs)), upd H k none⟩ := fun c a w g => by
  obtain ⟨s', c', rfl, h1, h2⟩ := Gh.imp i d k off hk hd hi c a w g
  exact ⟨c', h1, h2⟩
theorem AW.imp (i d k off : Nat) {cs : List A} (hk : H k = some (.box cs)) (hd : L d = none) (hi : t i = .c (.a (.bp k off))) (h : AW P cd Q ⟨n, upd t i (.lp d off), upd L d (some (.box cs)), upd H k none⟩) : AW P cd Q ⟨n, t, L, H⟩ :=
  AW.gh (Gh.imp i d k off hk hd hi) fun s' e => e ▸ h
end
end Go.Proofs.YtnmfjojhgfipcaaGreatDoor.E
/- Short names for steps that come often (squeeze.py puts them into merged texts). Plain theorems, for any program. -/
namespace Go.Proofs.YtnmfjojhgfipcaaGreatDoor.E
open Go.RowKit
set_option linter.unusedVariables false
section
variable {P : Program} {all : Array Oper} {o : Oper} {K : S → Prop} {rest : List Oper} {n d : Nat} {t : Nat → X} {L : Nat → Option AO} {H : Heap} {cd : Code} {Q : Exit → S → Prop} {s : S}
end
end Go.Proofs.YtnmfjojhgfipcaaGreatDoor.E
/- Trees inside slices: what is known of them may be forgotten. Plain theorems, for any program. -/
namespace Go.Proofs.YtnmfjojhgfipcaaGreatDoor.E
open Go.RowKit
set_option linter.unusedVariables false
def TW (x y : T) : Prop := ∀ μ v, RepT μ x v → RepT μ y v
inductive TWs : List T → List T → Prop
  | nil : TWs [] []
  | cons {a b : T} {l m : List T} (h : TW a b) (t : TWs l m) : TWs (a :: l) (b :: m)
theorem TWs.len {l m : List T} (h : TWs l m) : l.length = m.length := by
  induction h with
  | nil => rfl
  | cons _ _ ih => simp [ih]
theorem TWs.at {l m : List T} (h : TWs l m) {i : Nat} {b : T} (hb : m[i]? = some b) : ∃ a, l[i]? = some a ∧ TW a b := by
  induction h generalizing i with
  | nil => simp at hb
  | @cons a b' l m hx t ih =>
    cases i with
    | zero => simp at hb; subst hb; exact ⟨a, rfl, hx⟩
    | succ i => simp at hb; simpa using ih hb
inductive TWss : List (List T) → List (List T) → Prop
  | nil : TWss [] []
  | cons {a b : List T} {l m : List (List T)} (h : TWs a b) (t : TWss l m) : TWss (a :: l) (b :: m)
theorem TWss.app {a b c d : List (List T)} (h : TWss a b) (k : TWss c d) : TWss (a ++ c) (b ++ d) := by
  induction h with
  | nil => exact k
  | cons h _ ih => exact .cons h ih
theorem TWss.len {l m : List (List T)} (h : TWss l m) : l.length = m.length := by
  induction h with
  | nil => rfl
  | cons _ _ ih => simp [ih]
theorem TWss.at {l m : List (List T)} (h : TWss l m) {i : Nat} {b : List T} (hb : m[i]? = some b) : ∃ a, l[i]? = some a ∧ TWs a b := by
  induction h generalizing i with
  | nil => simp at hb
  | @cons a b' l m hx t ih =>
    cases i with
    | zero => simp at hb; subst hb; exact ⟨a, rfl, hx⟩
    | succ i => simp at hb; simpa using ih hb
theorem TW.nil {sz : Nat} : TW (.v (.slice none 0 0)) (.sl .un sz []) := fun μ v h => by
  cases h with
  | v h => exact .nil (by simp)
theorem TW.sl {z : Nz} {sz : Nat} {es es' : List (List T)} (h : TWss es es') : TW (.sl z sz es) (.sl .un sz es') := fun μ v r => by
  cases r with
  | nil h1 => cases h; exact .nil (by simp)
  | emp h1 => cases h; exact .emp (by simp)
  | sl u ne hn hc len mem rep =>
    refine .sl u (fun e => ne ?_) (hn.trans h.len) hc (fun i e' h1 => ?_) (fun i e' j x' h1 h2 => ?_) (fun i e' j x' h1 h2 => ?_)
    · subst e; cases h; rfl
    · obtain ⟨e, h2, h3⟩ := h.at h1
      rw [← h3.len]; exact len i e h2
    · obtain ⟨e, h3, h4⟩ := h.at h1
      obtain ⟨x, h5, _⟩ := h4.at h2
      exact mem i e j x h3 h5
    · obtain ⟨e, h3, h4⟩ := h.at h1
      obtain ⟨x, h5, h6⟩ := h4.at h2
      exact h6 _ _ (rep i e j x h3 h5)
end Go.Proofs.YtnmfjojhgfipcaaGreatDoor.E
/- A literal that is a row of one's own. Plain theorems, for any program. -/
namespace Go.Proofs.YtnmfjojhgfipcaaGreatDoor.E
open Go.RowKit
set_option linter.unusedVariables false
section
variable {P : Program} {all : Array Oper} {o : Oper} {s : S} {K : S → Prop} {rest : List Oper} {n d : Nat} {t : Nat → X} {L : Nat → Option AO} {H : Heap}
end
end Go.Proofs.YtnmfjojhgfipcaaGreatDoor.E
