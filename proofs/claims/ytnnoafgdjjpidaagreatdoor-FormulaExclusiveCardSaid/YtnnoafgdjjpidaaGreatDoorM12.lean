import Derived.Test.YtnnoafgdjjpidaaGreatDoorM11
import Derived.Lib.LaidTab
import Derived.Laws.StructEq
import Derived.Lib.ConvBytes
set_option linter.unusedVariables false
namespace Go.Proofs.YtnnoafgdjjpidaaGreatDoor.E
open Go.RowKit
theorem XW.reA {a : A} : XW (.c (.a a)) (.c (.a a)) := ⟨rfl, fun _ _ h => h⟩
theorem XW.trans {x y z : X} (h : XW x y) (k : XW y z) : XW x z := ⟨k.1, fun c v r => k.2 c v (h.2 c v r)⟩
inductive XWs : List A → List A → Prop
  | nil : XWs [] []
  | cons {a b : A} {l m : List A} (h : XW (.c (.a a)) (.c (.a b))) (t : XWs l m) : XWs (a :: l) (b :: m)
theorem XWs.re : ∀ {l : List A}, XWs l l
  | [] => .nil
  | _ :: _ => .cons XW.reA XWs.re
theorem XWs.len {l m : List A} (h : XWs l m) : l.length = m.length := by
  induction h with
  | nil => rfl
  | cons _ _ ih => simp [ih]
theorem XWs.at {l m : List A} (h : XWs l m) {i : Nat} {b : A} (hb : m[i]? = some b) : ∃ a, l[i]? = some a ∧ XW (.c (.a a)) (.c (.a b)) := by
  induction h generalizing i with
  | nil => simp at hb
  | @cons a b' l m hx t ih =>
    cases i with
    | zero => simp at hb; subst hb; exact ⟨a, rfl, hx⟩
    | succ i => simp at hb; simpa using ih hb
theorem XW.g {l m : List A} (h : XWs l m) : XW (.c (.g l)) (.c (.g m)) := ⟨rfl, fun c v hv => by
  obtain ⟨us, rfl, h1, h2⟩ := hv
  refine ⟨us, rfl, by rw [← h.len]; exact h1, fun i b u hb hu => ?_⟩
  obtain ⟨a, ha, hx⟩ := h.at hb
  exact hx.2 c u (h2 i a u ha hu)⟩
theorem XW.es {z : Nz} {sz : Nat} {es es' : List (List T)} (h : es = es') : XW (.c (.a (.t (.sl z sz es)))) (.c (.a (.t (.sl .un sz es')))) := h ▸ XW.un
section
variable {n i : Nat} {Q : (j : Nat) → j < n → Prop}
theorem up0 : ∀ j (h : j < n), j < 0 → Q j h := fun j _ h => absurd h (Nat.not_lt_zero j)
theorem upS (hi : i < n) (h : ∀ j (h : j < n), j < i → Q j h) (hq : Q i hi) : ∀ j (h : j < n), j < i + 1 → Q j h := fun j hj hl => by
  by_cases e : j = i
  · subst e; exact hq
  · exact h j hj (by omega)
theorem upE (h : ∀ j (h : j < n), j < i → Q j h) (hi : n ≤ i) : ∀ j (h : j < n), Q j h := fun j hj => h j hj (by omega)
theorem upN (hi : i < n) (hn : ¬ Q i hi) : ¬ ∀ j (h : j < n), Q j h := fun h => hn (h i hi)
end
theorem dT {p : Prop} [Decidable p] (h : p) : true = decide p := (decide_eq_true h).symm
theorem dF {p : Prop} [Decidable p] (h : ¬ p) : false = decide p := (decide_eq_false h).symm
theorem dI {p q : Prop} [Decidable p] [Decidable q] (h : p ↔ q) : decide p = decide q := decide_eq_decide.2 h
theorem tdiv_np {a b : Int} (ha : a ≤ 0) (hb : 0 ≤ b) : a.tdiv b ≤ 0 := by
  have := Int.tdiv_nonneg (a := -a) (b := b) (by omega) hb
  rw [Int.neg_tdiv] at this; omega
theorem tdiv_mul {a b : Int} (hb : 1 ≤ b) : (a.tdiv b * b).natAbs ≤ a.natAbs ∧ (a.tmod b < 0 ↔ a.tdiv b * b > a) ∧ (a < 0 → a.tdiv b * b ≤ 0) := by
  have h0 : a < 0 → a.tdiv b * b ≤ 0 := fun h => by
    have := Int.mul_le_mul_of_nonneg_right (tdiv_np (a := a) (b := b) (by omega) (by omega)) (show 0 ≤ b by omega)
    omega
  have h1 := Int.tdiv_mul_add_tmod a b
  have h2 : (a.tdiv b * b).natAbs = a.natAbs / b.natAbs * b.natAbs := by rw [Int.natAbs_mul, Int.natAbs_tdiv]; rfl
  have h3 := Nat.div_mul_le_self a.natAbs b.natAbs
  refine ⟨by omega, by omega, h0⟩
theorem tdiv_R {a b : Int} (hb : 1 ≤ b) (ha : -9223372036854775808 ≤ a ∧ a ≤ 9223372036854775807) : -9223372036854775808 ≤ a.tdiv b ∧ a.tdiv b ≤ 9223372036854775807 ∧ (a.tdiv b * b > a → -9223372036854775808 < a.tdiv b) := by
  have h1 : (a.tdiv b).natAbs = a.natAbs / b.natAbs := Int.natAbs_tdiv _ _
  have h2 := Nat.div_le_self a.natAbs b.natAbs
  have h3 := (tdiv_mul (a := a) hb).1
  refine ⟨by omega, ?_, fun h => ?_⟩
  · by_cases h : a < 0
    · have := tdiv_np (a := a) (b := b) (by omega) (by omega); omega
    · omega
  · by_cases h4 : a < 0
    · by_cases h5 : b < 2
      · have : b = 1 := by omega
        subst this; simp at h
      · have : a.natAbs / b.natAbs < a.natAbs := Nat.div_lt_self (by omega) (by omega)
        omega
    · have := Int.tdiv_nonneg (a := a) (b := b) (by omega) (show 0 ≤ b by omega); omega
theorem tdiv_floor {a b : Int} (hb : 1 ≤ b) : (a.tdiv b * b > a → a.tdiv b - 1 = a / b) ∧ (¬ a.tdiv b * b > a → a.tdiv b = a / b) := by
  have h1 := Int.tdiv_mul_add_tmod a b
  have h2 := Int.ediv_mul_add_emod a b
  have h3 := Int.emod_nonneg a (show b ≠ 0 by omega)
  have h4 := Int.emod_lt_of_pos a (show 0 < b by omega)
  have h5 := Int.tmod_lt_of_pos a (show 0 < b by omega)
  have h6 : -b < a.tmod b := by
    have := Int.lt_tmod_of_pos a (show 0 < b by omega)
    omega
  refine ⟨fun h => ?_, fun h => ?_⟩
  · refine (Int.ediv_eq_iff_of_pos (show 0 < b by omega)).2 ⟨?_, ?_⟩ |>.symm <;> grind
  · refine (Int.ediv_eq_iff_of_pos (show 0 < b by omega)).2 ⟨?_, ?_⟩ |>.symm <;> grind
theorem flat_vals {c : Ctx} {l : List Value} {v : Value} (h : RepX c (.c (.g (l.map fun u => .t (.v u)))) v) : v = .agg l.toArray := by
  obtain ⟨us, rfl, h1, h2⟩ := h
  congr 1
  have h1 : l.length = us.size := by simpa using h1
  apply Array.ext
  · simpa using h1.symm
  · intro i hi hj
    have hl : i < l.length := by omega
    have := h2 i (.t (.v l[i])) us[i] (by simp [hl]) (by simp [hi])
    cases this with | t e => simpa using repT_v e
section
variable {P : Program} {o : Oper} {s : S} {x y : Operand} {t u : TypeId} {l m : List A} {q : Bool}
theorem q_eqlG (xs ys : List Value) (ho : o.op = .binOp .eql t x y u) (hx : s.eval x = .c (.g l)) (hy : s.eval y = .c (.g m)) (hl : l = xs.map fun u => .t (.v u)) (hm : m = ys.map fun u => .t (.v u)) (hg : P.eqGuardType P.depth t = false)
    (hE : ∀ w, (Op.equalIn 10000 t (.agg xs.toArray) (.agg ys.toArray)).run P w = .ok q w) : QV P o s (bX q) :=
  .of_same (fun _ => nolp) fun cx w act hmm hrep => by
    have ha := hrep x (by rw [ho]; simp [Op.operands])
    have hb := hrep y (by rw [ho]; simp [Op.operands])
    rw [hx, hl] at ha
    rw [hy, hm] at hb
    have ha := flat_vals ha
    have hb := flat_vals hb
    refine ⟨.bool q, ?_, tv_rep rfl⟩
    simp only [execOp, ho, ha, hb, Sem.run_bind, run_eqGuard_agg (P := P) w .eql t x y _ _ hg, Result.andThen_ok, run_eql_struct, hE]
    rfl
theorem q_neqG (xs ys : List Value) (ho : o.op = .binOp .neq t x y u) (hx : s.eval x = .c (.g l)) (hy : s.eval y = .c (.g m)) (hl : l = xs.map fun u => .t (.v u)) (hm : m = ys.map fun u => .t (.v u)) (hg : P.eqGuardType P.depth t = false)
    (hE : ∀ w, (Op.equalIn 10000 t (.agg xs.toArray) (.agg ys.toArray)).run P w = .ok q w) : QV P o s (bX (!q)) :=
  .of_same (fun _ => nolp) fun cx w act hmm hrep => by
    have ha := hrep x (by rw [ho]; simp [Op.operands])
    have hb := hrep y (by rw [ho]; simp [Op.operands])
    rw [hx, hl] at ha
    rw [hy, hm] at hb
    have ha := flat_vals ha
    have hb := flat_vals hb
    refine ⟨.bool (!q), ?_, tv_rep rfl⟩
    simp only [execOp, ho, ha, hb, Sem.run_bind, run_eqGuard_agg (P := P) w .neq t x y _ _ hg, Result.andThen_ok, run_neq_struct, hE]
    rfl
end
theorem eqI (a b : Int) : (a == b) = decide (a = b) := by by_cases h : a = b <;> simp [h]
theorem eqBt (a b : ByteArray) : (a.toList == b.toList) = decide (a = b) := by
  rw [ByteArray.toList_eq, ByteArray.toList_eq]
  by_cases h : a = b
  · subst h; simp
  · have : a.data.toList ≠ b.data.toList := fun e => h (ByteArray.ext (Array.ext' e))
    rw [decide_eq_false h]
    exact beq_eq_false_iff_ne.2 this
theorem eqBo (a b : Bool) : (a == b) = decide (a = b) := by cases a <;> cases b <;> rfl
section
variable {P : Program} {Q : Exit → S → Prop} {s : S}
def LoopW (P : Program) (body : Code) (Q : Exit → S → Prop) (s : S) : Prop :=
  ∀ c a w, Sat c s a w → ∀ b k cs, ∃ e a' w', (∃ s' c', Q e s' ∧ Sat c' s' a' w' ∧ Ext c s.own w c' s'.own w') ∧ Arrives P (lone (b.at a (.code body :: .inLoop body :: k)) cs w) b k cs e a' w'
end
theorem Spec.arg {P : Program} {f : FuncId} {l r : List C} {x y : C} {H : Heap} {Q : X → Heap → Prop} (h : XW (.c x) (.c y)) (k : Spec P f (l ++ y :: r) H Q) : Spec P f (l ++ x :: r) H Q := by
  intro c w vs hc hr
  refine k c w vs hc ⟨by rw [← hr.1]; simp, fun i z v hz hv => ?_⟩
  by_cases hi : i = l.length
  · subst hi
    simp at hz; subst hz
    exact h.2 c v (hr.2 l.length x v (by simp) hv)
  · refine hr.2 i z v ?_ hv
    by_cases hl : i < l.length
    · rw [List.getElem?_append_left hl] at hz ⊢; exact hz
    · have h1 : l.length ≤ i := by omega
      rw [List.getElem?_append_right h1] at hz ⊢
      obtain ⟨m, hm⟩ : ∃ m, i - l.length = m + 1 := ⟨i - l.length - 1, by omega⟩
      rw [hm] at hz ⊢; simpa using hz
theorem Pure.arg {P : Program} {f : FuncId} (l : List C) {r : List C} {x y : C} {z : X} (h : XW (.c x) (.c y)) (k : Pure P f (l ++ y :: r) z) : Pure P f (l ++ x :: r) z := fun H => Spec.arg h (k H)
theorem Spec.fresh {P : Program} {f : FuncId} (us : List Value) {y : AO} {x : Nat → X} (hl : ∀ k, (x k).loc = none)
    (h : ∀ w, Calls P f us.toArray w fun e w' => ∃ v b n, e = .returned v ∧ w'.os = w.os ∧ w'.tape = w.tape ∧ w'.output = w.output ∧ w.heap.size ≤ w'.heap.size ∧ (∀ b', b' < w.heap.size → w'.heap[b']? = w.heap[b']?) ∧ w.heap.size ≤ b ∧ (∀ c : Ctx, (∀ o, c.μ b o = none) → ORep c w' y b n) ∧ (∀ (c : Ctx) k, c.β k = some (b, n) → RepX c (x k) v)) (H : Heap) :
    Spec P f (us.map vC) H fun z H' => ∃ k, H k = none ∧ z = x k ∧ H' = upd H k (some y) := by
  intro c0 w vs hc0 hr
  have h1 := reps_vals hr
  have h2 : vs = us.toArray := by rw [← h1]
  rw [h2]
  refine (h w).mono ?_
  rintro e w' ⟨v, b, n, rfl, hos, htp, hou, hsz, hbl, hb, hO, hX⟩
  obtain ⟨c, hcd⟩ : ∃ c : Ctx, c = { c0 with base := w.heap.size } := ⟨_, rfl⟩
  have hc : Conc c (ownH H) w := by subst hcd; exact hc0.rebase
  have g : Sat c (start [] 0 H) { tmps := #[], defers := [] } w := by
    refine ⟨by rw [own_start]; exact hc, rfl, fun i => ?_, .nil (by subst hcd; exact Nat.le_refl _), fun i d hx => ?_⟩
    · simp only [start]; trivial
    · simp only [start] at hx; cases hx
  obtain ⟨k, q1, q2, q3, q4⟩ := g.newE (x := y) (b := b) (n := n) (.grew g.memOk hos htp hou hsz hbl) hb (hO c fun o => by
    cases hz : c.μ b o with
    | none => rfl
    | some u => have := World.block_lt_of_cell? w _ (hc.mem b o u hz); simp at this; omega)
  rw [own_start] at q4
  have hown : ((start [] 0 H).setOwn (.e k) y).own = ownH (upd H k (some y)) := by
    funext i; cases i <;> rfl
  have q5 := q3.conc
  rw [hown] at q5 q4
  exact ⟨v, x k, upd H k (some y), { { c with β := upd c.β k (some (b, n)) } with base := c0.base }, rfl, ⟨k, q1, rfl, rfl⟩, (hX { c with β := upd c.β k (some (b, n)) } k (upd_same _ _ _)).rebase, q5.rebase, by subst hcd; exact q4.rebase⟩
section
variable {P : Program} {o : Oper} {s : S}
theorem h_callV {z : Operand} {f : FuncId} {cs : List A} {ys : Array Operand} {ts : Array TypeId} {args : List C} {x : X} (ho : o.op = .call { callee := .value z, args := ys, argTypes := ts }) (hz : fnX (s.eval z) = some (f, cs)) (hf : fnB P f = true) (ha : argsX s ys.toList = some args) (h : Spec P f (args ++ cs.map C.a) s.H fun y H' => y = x ∧ H' = s.H) (hx : x.loc = none) (hd : inB o.dst s.n = true) :
    LR P o (.h :: lk o) (dstT o) s (s.put o.dst x) := by
  refine ⟨put_len _ _ _, fun ℓ hℓ => put_out hℓ, fun s1 hl hs c a w g => ?_⟩
  unfold dstT
  rw [over_put]
  have hH : s1.H = s.H := hs .h (by simp)
  have ha1 : argsX s1 ys.toList = some args := by
    rw [← ha]
    have : ∀ l : List Operand, (∀ y ∈ l, y ∈ ys.toList) → argsX s1 l = argsX s l := by
      intro l
      induction l with
      | nil => intro _; rfl
      | cons y l ih =>
        intro hl'
        have e1 : s1.eval y = s.eval y := evs hs (fun _ h => List.mem_cons_of_mem _ h) (by rw [ho]; simp [Op.operands, Call.operands]; exact .inr (by simpa using hl' y (by simp)))
        simp only [argsX, e1, ih (fun z hz => hl' z (by simp [hz]))]
    exact this _ fun _ h => h
  have hz1 : fnX (s1.eval z) = some (f, cs) := by
    rw [← hz]
    have e1 : s1.eval z = s.eval z := evs hs (fun _ h => List.mem_cons_of_mem _ h) (by rw [ho]; simp [Op.operands, Call.operands])
    rw [e1]
  refine wp_weak0 (callV_wp g ho hz1 hf ha1 (Q := fun y H' => y = x ∧ H' = s.H) (by rw [hH]; exact h) (fun y H' e => by rw [e.1]; exact hx) (hl ▸ hd)) ?_
  rintro a' w' ⟨y, H', c', ⟨rfl, rfl⟩, g', x'⟩
  rw [← hH] at g' x'
  exact ⟨c', g', x'⟩
theorem g_callV {n d : Nat} {t : Nat → X} {L : Nat → Option AO} {H : Heap} {z : Operand} {f : FuncId} {cs : List A} {ys : Array Operand} {ts : Array TypeId} {args : List C} {x : X} (ho : o.op = .call { callee := .value z, args := ys, argTypes := ts }) (hz : fnX (S.eval ⟨n, t, L, H⟩ z) = some (f, cs)) (hf : fnB P f = true) (ha : argsX ⟨n, t, L, H⟩ ys.toList = some args) (h : Spec P f (args ++ cs.map C.a) H fun y H' => y = x ∧ H' = H) (hx : x.loc = none) (hdst : o.dst = some d) (hd : Nat.blt d n = true) :
    LR P o (.h :: lk o) (dstT o) ⟨n, t, L, H⟩ ⟨n, upd t d x, L, H⟩ := lr_cast (h_callV ho hz hf ha h hx (inb' hdst hd)) (by rw [hdst]; rfl)
end
section
variable {P : Program} {cd : Code} {Q : Exit → S → Prop} {n : Nat} {t : Nat → X} {L : Nat → Option AO} {H : Heap}
theorem Wk.xwL (d : Nat) {cells cells' : List A} (hd : L d = some (.box cells)) (h : XWs cells cells') : Wk ⟨n, t, L, H⟩ ⟨n, t, upd L d (some (.box cells')), H⟩ := fun c a w g => by
  obtain ⟨h4, h5⟩ := g.reL (x' := .box cells') hd (by simp [AO.empty]) fun b m ⟨us, ty, q1, q2, q3⟩ => by
    refine ⟨us, ty, q1, ⟨by rw [← h.len]; exact q2.1, fun i x v hx hv => ?_⟩, q3⟩
    obtain ⟨y, hy, hw⟩ := h.at hx
    have := hw.2 c v (q2.2 i y v hy hv)
    exact this
  exact ⟨c, h4, h5⟩
theorem AW.xwL (d : Nat) {cells cells' : List A} (hd : L d = some (.box cells)) (h : XWs cells cells') (k : AW P cd Q ⟨n, t, upd L d (some (.box cells')), H⟩) : AW P cd Q ⟨n, t, L, H⟩ := .wk (.xwL d hd h) k
end
theorem XW.fn0 {f : FuncId} : XW (tv (.func (.func f) #[] #[])) (.c (.a (.fn f []))) := ⟨rfl, fun c v h => by
  have := rep_tv h; subst this
  exact RepA.fn (fun _ => default) rfl (fun i x h => by cases h)⟩
section
variable {P : Program} {cd : Code} {Q : Exit → S → Prop} {n : Nat} {t : Nat → X} {L : Nat → Option AO} {H : Heap}
theorem RepX.lamU {c : Ctx} {d : Nat} {p : Nat × Nat} {x : X} {v : Value} (hx : x.loc ≠ some d) (h : RepX c x v) : RepX ⟨c.μ, c.β, upd c.lam d p, c.base⟩ x v := by
  cases x with
  | lp d' off | lmp d' =>
    have hd : d' ≠ d := fun e => hx (by subst e; rfl)
    simp only [RepX, upd_ne _ _ hd] at h ⊢
    exact h
  | lts d' z sz es =>
    have hd : d' ≠ d := fun e => hx (by subst e; rfl)
    simp only [RepX, upd_ne _ _ hd] at h ⊢
    exact h
  | c x => exact h
  | tup l => exact h
  | pc l => exact h
  | any => exact h
theorem Gh.imp (i d k off : Nat) {cs : List A} (hk : H k = some (.box cs)) (hd : L d = none) (hi : t i = .c (.a (.bp k off))) : Gh ⟨n, t, L, H⟩ fun s' => s' = ⟨n, upd t i (.lp d off), upd L d (some (.box cs)), upd H k none⟩ := by
  intro c a w g
  obtain ⟨N, hN⟩ := g.conc.fin
  obtain ⟨b, m, hp, hor⟩ := g.conc.obj (.e k) (.box cs) hk (by simp [AO.empty])
  have hp : c.β k = some (b, m) := hp
  let old : Id → Id := fun j => if j = .l d then .e k else j
  have own' : ∀ j y, S.own ⟨n, upd t i (.lp d off), upd L d (some (.box cs)), upd H k none⟩ j = some y → S.own ⟨n, t, L, H⟩ (old j) = some y ∧ Ctx.pos ⟨c.μ, c.β, upd c.lam d (b, m), c.base⟩ j = c.pos (old j) := fun j y h => by
    simp only [old]
    cases j with
    | l d' =>
      have h : upd L d (some (.box cs)) d' = some y := h
      by_cases hd' : d' = d
      · subst hd'
        rw [upd_same] at h
        rw [if_pos rfl]
        refine ⟨hk.trans h, ?_⟩
        show some (upd c.lam d' (b, m) d') = c.β k
        rw [upd_same, hp]
      · rw [upd_ne _ _ hd'] at h
        rw [if_neg (by simpa using hd')]
        refine ⟨h, ?_⟩
        show some (upd c.lam d (b, m) d') = some (c.lam d')
        rw [upd_ne _ _ hd']
    | e j =>
      have h : upd H k none j = some y := h
      have hj : j ≠ k := fun e => by subst e; rw [upd_same] at h; cases h
      rw [upd_ne _ _ hj] at h
      simp; exact ⟨h, rfl⟩
  have oldinj : ∀ i' j y z, S.own ⟨n, upd t i (.lp d off), upd L d (some (.box cs)), upd H k none⟩ i' = some y → S.own ⟨n, upd t i (.lp d off), upd L d (some (.box cs)), upd H k none⟩ j = some z → old i' = old j → i' = j := fun i' j y z hi' hj h => by
    have nk : ∀ q u, S.own ⟨n, upd t i (.lp d off), upd L d (some (.box cs)), upd H k none⟩ q = some u → q ≠ .e k := fun q u h e => by
      subst e
      have h : upd H k none k = some u := h
      rw [upd_same] at h; cases h
    simp only [old] at h
    split at h <;> split at h
    · rename_i h1 h2; rw [h1, h2]
    · exact absurd h.symm (nk j z hj)
    · exact absurd h (nk i' y hi')
    · exact h
  refine ⟨_, ⟨c.μ, c.β, upd c.lam d (b, m), c.base⟩, rfl, ⟨⟨g.conc.mem, fun j y hj hy => ?_, fun i' j y z b1 n1 n2 hi' hj hy hz h1 h2 => ?_, ⟨N, fun q hq => ⟨(hN q hq).1, ?_⟩⟩, g.conc.tabw, fun tg cs th j y n1 hj hy hq => by
    obtain ⟨h1, h2⟩ := own' j y hj
    rw [h2] at hq
    exact g.conc.tabo tg cs th _ y n1 h1 hy hq⟩, g.size, fun j => ?_, g.defers, fun j e h => ?_⟩, ⟨rfl, rfl, rfl, Nat.le_refl _, fun _ _ _ => rfl, fun _ _ _ h => h, fun _ _ _ h => .inl h, fun _ _ h => h, fun j y b1 n1 hj hy h1 => ?_, rfl, fun q y hq => by
    have hq : upd H k none q = some y := hq
    have hj : q ≠ k := fun e => by subst e; rw [upd_same] at hq; cases hq
    rw [upd_ne _ _ hj] at hq
    exact .inl (by show H q ≠ none; rw [hq]; simp)⟩⟩
  · obtain ⟨h1, h2⟩ := own' j y hj
    obtain ⟨b1, n1, h3, h4⟩ := g.conc.obj _ y h1 hy
    exact ⟨b1, n1, by rw [h2]; exact h3, h4.keep rfl (fun _ _ _ h => h) (fun _ _ h => h) (fun _ _ h => h)⟩
  · obtain ⟨h3, h4⟩ := own' i' y hi'
    obtain ⟨h5, h6⟩ := own' j z hj
    rw [h4] at h1; rw [h6] at h2
    exact oldinj i' j y z hi' hj (g.conc.inj _ _ y z b1 n1 n2 h3 h5 hy hz h1 h2)
  · show upd H k none q = none
    by_cases e : q = k
    · subst e; rw [upd_same]
    · rw [upd_ne _ _ e]; exact (hN q hq).2
  · show RepX _ (upd t i (.lp d off) j) _
    by_cases e : j = i
    · subst e
      rw [upd_same]
      have h := g.tmps j
      simp only [hi] at h
      have h : RepA c.μ c.β (.bp k off) (a.tmps.getD j undef) := h
      generalize a.tmps.getD j undef = v at h
      cases h with
      | bp h1 =>
        rw [hp] at h1; injection h1 with h1; injection h1 with h1 h2; subst h1
        simp [RepX, upd_same]
    · rw [upd_ne _ _ e]
      exact RepX.lamU (fun h => g.wf j d h hd) (g.tmps j)
  · show upd L d (some (.box cs)) e ≠ none
    by_cases he : e = d
    · subst he; rw [upd_same]; simp
    · rw [upd_ne _ _ he]
      have h : (upd t i (.lp d off) j).loc = some e := h
      by_cases hj : j = i
      · subst hj; rw [upd_same] at h
        have h : some d = some e := h
        injection h with h; exact absurd h.symm he
      · rw [upd_ne _ _ hj] at h; exact g.wf j e h
  · obtain ⟨h3, h4⟩ := own' j y hj
    rw [h4] at h1
    exact .inr ⟨_, y, n1, h3, hy, h1⟩
theorem Wk.imp (i d k off : Nat) {cs : List A} (hk : H k = some (.box cs)) (hd : L d = none) (hi : t i = .c (.a (.bp k off))) : Wk ⟨n, t, L, H⟩ ⟨n, upd t i (.lp d off), upd L d (some (.box cs)), upd H k none⟩ := fun c a w g => by
  obtain ⟨s', c', rfl, h1, h2⟩ := Gh.imp i d k off hk hd hi c a w g
  exact ⟨c', h1, h2⟩
theorem AW.imp (i d k off : Nat) {cs : List A} (hk : H k = some (.box cs)) (hd : L d = none) (hi : t i = .c (.a (.bp k off))) (h : AW P cd Q ⟨n, upd t i (.lp d off), upd L d (some (.box cs)), upd H k none⟩) : AW P cd Q ⟨n, t, L, H⟩ :=
  AW.gh (Gh.imp i d k off hk hd hi) fun s' e => e ▸ h
end
def TW (x y : T) : Prop := ∀ μ v, RepT μ x v → RepT μ y v
theorem TW.re {x : T} : TW x x := fun _ _ h => h
inductive TWs : List T → List T → Prop
  | nil : TWs [] []
  | cons {a b : T} {l m : List T} (h : TW a b) (t : TWs l m) : TWs (a :: l) (b :: m)
theorem TWs.re : ∀ {l : List T}, TWs l l
  | [] => .nil
  | _ :: _ => .cons TW.re TWs.re
theorem TWs.len {l m : List T} (h : TWs l m) : l.length = m.length := by
  induction h with
  | nil => rfl
  | cons _ _ ih => simp [ih]
theorem TWs.at {l m : List T} (h : TWs l m) {i : Nat} {b : T} (hb : m[i]? = some b) : ∃ a, l[i]? = some a ∧ TW a b := by
  induction h generalizing i with
  | nil => simp at hb
  | @cons a b' l m hx t ih =>
    cases i with
    | zero => simp at hb; subst hb; exact ⟨a, rfl, hx⟩
    | succ i => simp at hb; simpa using ih hb
inductive TWss : List (List T) → List (List T) → Prop
  | nil : TWss [] []
  | cons {a b : List T} {l m : List (List T)} (h : TWs a b) (t : TWss l m) : TWss (a :: l) (b :: m)
theorem TWss.re : ∀ {l : List (List T)}, TWss l l
  | [] => .nil
  | _ :: _ => .cons TWs.re TWss.re
theorem TWss.app {a b c d : List (List T)} (h : TWss a b) (k : TWss c d) : TWss (a ++ c) (b ++ d) := by
  induction h with
  | nil => exact k
  | cons h _ ih => exact .cons h ih
theorem TWss.len {l m : List (List T)} (h : TWss l m) : l.length = m.length := by
  induction h with
  | nil => rfl
  | cons _ _ ih => simp [ih]
theorem TWss.at {l m : List (List T)} (h : TWss l m) {i : Nat} {b : List T} (hb : m[i]? = some b) : ∃ a, l[i]? = some a ∧ TWs a b := by
  induction h generalizing i with
  | nil => simp at hb
  | @cons a b' l m hx t ih =>
    cases i with
    | zero => simp at hb; subst hb; exact ⟨a, rfl, hx⟩
    | succ i => simp at hb; simpa using ih hb
theorem TW.nil {sz : Nat} : TW (.v (.slice none 0 0)) (.sl .un sz []) := fun μ v h => by
  cases h with
  | v h => exact .nil (by simp)
theorem TW.sl {z : Nz} {sz : Nat} {es es' : List (List T)} (h : TWss es es') : TW (.sl z sz es) (.sl .un sz es') := fun μ v r => by
  cases r with
  | nil h1 => cases h; exact .nil (by simp)
  | emp h1 => cases h; exact .emp (by simp)
  | sl u ne hn hc len mem rep =>
    refine .sl u (fun e => ne ?_) (hn.trans h.len) hc (fun i e' h1 => ?_) (fun i e' j x' h1 h2 => ?_) (fun i e' j x' h1 h2 => ?_)
    · subst e; cases h; rfl
    · obtain ⟨e, h2, h3⟩ := h.at h1
      rw [← h3.len]; exact len i e h2
    · obtain ⟨e, h3, h4⟩ := h.at h1
      obtain ⟨x, h5, _⟩ := h4.at h2
      exact mem i e j x h3 h5
    · obtain ⟨e, h3, h4⟩ := h.at h1
      obtain ⟨x, h5, h6⟩ := h4.at h2
      exact h6 _ _ (rep i e j x h3 h5)
section
variable {P : Program} {all : Array Oper} {o : Oper} {s : S} {K : S → Prop} {rest : List Oper} {n d : Nat} {t : Nat → X} {L : Nat → Option AO} {H : Heap}
theorem OpW.buildRow {tt e : TypeId} {m sz bytes : Nat} {parts : Array (Nat × Operand)} {es : List (List T)} (hg : o.guard = none) (ho : o.op = .buildSlice tt m parts) (ty : elB P tt e sz bytes = true) (hn : parts.size = m) (hm0 : m ≠ 0) (hsm : m * sz ≤ 16777216) (he : elemsX ⟨n, t, L, H⟩ sz 0 parts.toList = some es) (hdst : o.dst = some d) (hd : Nat.blt d n = true)
    (hk : ∀ k', H k' = none → K ⟨n, upd t d (.c (.a (.os k' 0 m sz))), L, upd H k' (some (.row e sz (es.flatten.map .t)))⟩) : OpW P all o K ⟨n, t, L, H⟩ := by
  intro c a w g
  unfold opRun
  rw [if_pos (by simp [Region.wanted, hg])]
  refine wp_to ?_
  obtain ⟨i, z, h1, h2, h3, h4, h5, h6, h7⟩ := elB_get ty
  have h7' : (parts.map fun (i, x) => (i, a.eval x)).toList = parts.toList.map fun p => (p.1, a.eval p.2) := by simp
  have hpos : 0 < m * sz := Nat.mul_pos (by omega) (by omega)
  have hlen : parts.toList.length = m := by simpa using hn
  obtain ⟨us, g1, g2, _, g4, g5, g6⟩ := elems_fill (s := ⟨n, t, L, H⟩) (c := c) (f := a.eval) (sz := sz) (ps := parts.toList) (k := 0) (cs := (Array.range (m * sz)).map (z.cells[· % z.cells.size]!)) he (fun p hp => g.eval p.2) (by simp [hn])
  have hrun := run_buildSlice (P := P) w tt e m (parts.map fun (i, x) => (i, a.eval x)) us i z h1 h2 h6 (by rw [h3]; omega) (by rw [h3]; omega) (by rw [h3, h7']; exact g1)
  have hus : us.toList.length = m * sz := by simp [g2]
  have hrun' : (execOp a.eval o).run P w = .ok (.value (.slice (some ⟨w.heap.size, 0, none⟩) m m)) (w.alloc (.cells us e)) := by simp only [execOp, ho, Sem.run_bind, hrun]; rfl
  have hfl : (es.flatten.map A.t).length = m * sz := by rw [List.length_map, flat_length es g5, g6, hlen]
  have mk := Mk.grew (c := c) (w := w) (w1 := w.alloc (.cells us e)) g.memOk rfl rfl rfl (by simp) (fun b hb => Below.heap_alloc w (.cells us e) b hb)
  have hml : m ≤ m * sz := Nat.le_mul_of_pos_right _ (by omega)
  obtain ⟨k', q1, _, q3, q4⟩ := g.newE (x := .row e sz (es.flatten.map .t)) (b := w.heap.size) (n := m) mk (Nat.le_refl _) ⟨us, heap_new w _, by simpa using hus, by unfold maxLen; omega, by
    rw [hfl, List.take_of_length_le (by omega)]
    simp only [Nat.zero_mul, List.drop_zero] at g4
    exact reps_t g4, fun q => by
    cases hz : c.μ w.heap.size q with
    | none => rfl
    | some u => have := World.block_lt_of_cell? w _ (g.conc.mem _ q u hz); simp at this⟩
  unfold Oper.wp
  rw [hrun']
  refine ⟨_, _, hk k' q1, ?_, q4⟩
  have := q3.put (some d) (x := .c (.a (.os k' 0 m sz))) (v := .slice (some ⟨w.heap.size, 0, none⟩) m m) (decide_eq_true (inb hd)) (.os (upd_same _ _ _) (by omega)) (fun _ h => by cases h)
  rw [hdst]; exact this
theorem SeqK.buildRow {tt e : TypeId} {m sz bytes : Nat} {parts : Array (Nat × Operand)} {es : List (List T)} (hg : o.guard = none) (ho : o.op = .buildSlice tt m parts) (ty : elB P tt e sz bytes = true) (hn : parts.size = m) (hm0 : m ≠ 0) (hsm : m * sz ≤ 16777216) (he : elemsX ⟨n, t, L, H⟩ sz 0 parts.toList = some es) (hdst : o.dst = some d) (hd : Nat.blt d n = true)
    (hk : ∀ k', H k' = none → SeqK P all K rest ⟨n, upd t d (.c (.a (.os k' 0 m sz))), L, upd H k' (some (.row e sz (es.flatten.map .t)))⟩) : SeqK P all K (o :: rest) ⟨n, t, L, H⟩ := OpW.buildRow hg ho ty hn hm0 hsm he hdst hd hk
end
end Go.Proofs.YtnnoafgdjjpidaaGreatDoor.E
