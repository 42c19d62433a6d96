import Derived.Test.YtgnnjebfoffphaaGreatDoorM11
import Derived.Lib.LaidTab
import Derived.Laws.StructEq
import Derived.Lib.ConvBytes
set_option linter.unusedVariables false
namespace Go.Proofs.YtgnnjebfoffphaaGreatDoor.E
open Go.RowKit
theorem q_remC {P : Program} {o : Oper} {s : S} {t u : TypeId} {x y : Operand} {k : IntKind} {a b c : Int} (ho : o.op = .binOp .rem t x y u) (hx : s.eval x = iX k a) (hy : s.eval y = iX k b) (h0 : b ≠ 0) (hc : a.tmod b = c) : QV P o s (iX k c) := hc ▸ q_rem ho hx hy h0
theorem XW.reA {a : A} : XW (.c (.a a)) (.c (.a a)) := ⟨rfl, fun _ _ h => h⟩
theorem XW.trans {x y z : X} (h : XW x y) (k : XW y z) : XW x z := ⟨k.1, fun c v r => k.2 c v (h.2 c v r)⟩
inductive XWs : List A → List A → Prop
  | nil : XWs [] []
  | cons {a b : A} {l m : List A} (h : XW (.c (.a a)) (.c (.a b))) (t : XWs l m) : XWs (a :: l) (b :: m)
theorem xr1 {l m : List A} {a : A} (h : XWs l m) : XWs (a :: l) (a :: m) := .cons XW.reA h
theorem xr2 {l m : List A} {a b : A} (h : XWs l m) : XWs (a :: b :: l) (a :: b :: m) := xr1 (xr1 h)
theorem xr4 {l m : List A} {a b c d : A} (h : XWs l m) : XWs (a :: b :: c :: d :: l) (a :: b :: c :: d :: m) := xr2 (xr2 h)
theorem xr8 {l m : List A} {a b c d e f g i : A} (h : XWs l m) : XWs (a :: b :: c :: d :: e :: f :: g :: i :: l) (a :: b :: c :: d :: e :: f :: g :: i :: m) := xr4 (xr4 h)
theorem xr16 {l m : List A} {a b c d e f g i a' b' c' d' e' f' g' i' : A} (h : XWs l m) : XWs (a :: b :: c :: d :: e :: f :: g :: i :: a' :: b' :: c' :: d' :: e' :: f' :: g' :: i' :: l) (a :: b :: c :: d :: e :: f :: g :: i :: a' :: b' :: c' :: d' :: e' :: f' :: g' :: i' :: m) := xr8 (xr8 h)
abbrev zL0 : List A := [.t (.v (.int .i64 0)), .t (.v (.slice none 0 0))]
abbrev zL1 : List A := [.t (.v (.string ⟨#[]⟩)), .t (.v (.slice none 0 0)), .t (.v (.slice none 0 0)), .t (.v (.slice none 0 0)), .t (.v (.slice none 0 0))]
abbrev zL2 : List A := [.t (.v (.int .i64 0)), .t (.v (.string ⟨#[]⟩)), .t (.v (.slice none 0 0)), .t (.v (.slice none 0 0)), .t (.v (.slice none 0 0)), .t (.v (.slice none 0 0)), .t (.v (.slice none 0 0)), .t (.v (.slice none 0 0)), .t (.v (.slice none 0 0)), .t (.v (.slice none 0 0)), .t (.v (.int .i64 0)), .t (.v (.string ⟨#[]⟩)), .t (.v (.string ⟨#[]⟩)), .t (.v (.int .i64 0)), .t (.v (.int .i64 0)), .t (.v (.int .i64 0)), .t (.v (.string ⟨#[]⟩)), .t (.v (.slice none 0 0)), .t (.v (.slice none 0 0)), .t (.v (.slice none 0 0)), .t (.v (.int .i64 0)), .t (.v (.string ⟨#[]⟩)), .t (.v (.int .i64 0)), .t (.v (.slice none 0 0)), .t (.v (.slice none 0 0)), .t (.v (.slice none 0 0))]
abbrev zL3 : List A := [.t (.v (.int .i64 0)), .t (.v (.string ⟨#[]⟩)), .t (.v (.slice none 0 0)), .t (.v (.slice none 0 0)), .t (.v (.slice none 0 0)), .t (.v (.slice none 0 0)), .t (.v (.slice none 0 0)), .t (.v (.slice none 0 0)), .t (.v (.slice none 0 0)), .t (.v (.slice none 0 0)), .t (.v (.int .i64 0)), .t (.v (.string ⟨#[]⟩)), .t (.v (.string ⟨#[]⟩)), .t (.v (.int .i64 0)), .t (.v (.int .i64 0)), .t (.v (.int .i64 0)), .t (.v (.string ⟨#[]⟩)), .t (.v (.slice none 0 0)), .t (.v (.slice none 0 0)), .t (.v (.slice none 0 0)), .t (.v (.int .i64 0)), .t (.v (.string ⟨#[]⟩))]
abbrev zL4 : List A := [.t (.v (.int .i64 0)), .t (.v (.string ⟨#[]⟩)), .t (.v (.string ⟨#[]⟩)), .t (.v (.int .i64 0)), .t (.v (.int .i64 0)), .t (.v (.int .i64 0)), .t (.v (.string ⟨#[]⟩)), .t (.v (.slice none 0 0))]
abbrev zL5 : List A := [.t (.v (.int .i64 0)), .t (.v (.int .i64 0)), .t (.v (.string ⟨#[]⟩))]
theorem XWs.re : ∀ {l : List A}, XWs l l
  | [] => .nil
  | _ :: _ => .cons XW.reA XWs.re
theorem XWs.len {l m : List A} (h : XWs l m) : l.length = m.length := by
  induction h with
  | nil => rfl
  | cons _ _ ih => simp [ih]
theorem XWs.at {l m : List A} (h : XWs l m) {i : Nat} {b : A} (hb : m[i]? = some b) : ∃ a, l[i]? = some a ∧ XW (.c (.a a)) (.c (.a b)) := by
  induction h generalizing i with
  | nil => simp at hb
  | @cons a b' l m hx t ih =>
    cases i with
    | zero => simp at hb; subst hb; exact ⟨a, rfl, hx⟩
    | succ i => simp at hb; simpa using ih hb
theorem XW.g {l m : List A} (h : XWs l m) : XW (.c (.g l)) (.c (.g m)) := ⟨rfl, fun c v hv => by
  obtain ⟨us, rfl, h1, h2⟩ := hv
  refine ⟨us, rfl, by rw [← h.len]; exact h1, fun i b u hb hu => ?_⟩
  obtain ⟨a, ha, hx⟩ := h.at hb
  exact hx.2 c u (h2 i a u ha hu)⟩
theorem XW.es {z : Nz} {sz : Nat} {es es' : List (List T)} (h : es = es') : XW (.c (.a (.t (.sl z sz es)))) (.c (.a (.t (.sl .un sz es')))) := h ▸ XW.un
section
variable {n i : Nat} {Q : (j : Nat) → j < n → Prop}
theorem up0 : ∀ j (h : j < n), j < 0 → Q j h := fun j _ h => absurd h (Nat.not_lt_zero j)
theorem upS (hi : i < n) (h : ∀ j (h : j < n), j < i → Q j h) (hq : Q i hi) : ∀ j (h : j < n), j < i + 1 → Q j h := fun j hj hl => by
  by_cases e : j = i
  · subst e; exact hq
  · exact h j hj (by omega)
theorem upE (h : ∀ j (h : j < n), j < i → Q j h) (hi : n ≤ i) : ∀ j (h : j < n), Q j h := fun j hj => h j hj (by omega)
end
theorem dT {p : Prop} [Decidable p] (h : p) : true = decide p := (jH h).symm
theorem dF {p : Prop} [Decidable p] (h : ¬ p) : false = decide p := (jI h).symm
theorem dI {p q : Prop} [Decidable p] [Decidable q] (h : p ↔ q) : decide p = decide q := decide_eq_decide.2 h
theorem flat_vals {c : Ctx} {l : List Value} {v : Value} (h : RepX c (.c (.g (l.map fun u => .t (.v u)))) v) : v = .agg l.toArray := by
  obtain ⟨us, rfl, h1, h2⟩ := h
  congr 1
  have h1 : l.length = us.size := by simpa using h1
  apply Array.ext
  · simpa using h1.symm
  · intro i hi hj
    have hl : i < l.length := by omega
    have := h2 i (.t (.v l[i])) us[i] (by simp [hl]) (by simp [hi])
    cases this with | t e => simpa using repT_v e
section
variable {P : Program} {o : Oper} {s : S} {x y : Operand} {t u : TypeId} {l m : List A} {q : Bool}
theorem q_eqlG (xs ys : List Value) (ho : o.op = .binOp .eql t x y u) (hx : s.eval x = .c (.g l)) (hy : s.eval y = .c (.g m)) (hl : l = xs.map fun u => .t (.v u)) (hm : m = ys.map fun u => .t (.v u)) (hg : P.eqGuardType P.depth t = false)
    (hE : ∀ w, (Op.equalIn 10000 t (.agg xs.toArray) (.agg ys.toArray)).run P w = .ok q w) : QV P o s (bX q) :=
  .of_same (fun _ => nolp) fun cx w act hmm hrep => by
    have ha := hrep x (by rw [ho]; simp [Op.operands])
    have hb := hrep y (by rw [ho]; simp [Op.operands])
    rw [hx, hl] at ha
    rw [hy, hm] at hb
    have ha := flat_vals ha
    have hb := flat_vals hb
    refine ⟨.bool q, ?_, tv_rep rfl⟩
    simp only [execOp, ho, ha, hb, Sem.run_bind, run_eqGuard_agg (P := P) w .eql t x y _ _ hg, Result.andThen_ok, run_eql_struct, hE]
    rfl
end
theorem eqI (a b : Int) : (a == b) = decide (a = b) := by by_cases h : a = b <;> simp [h]
theorem eqBt (a b : ByteArray) : (a.toList == b.toList) = decide (a = b) := by
  rw [ByteArray.toList_eq, ByteArray.toList_eq]
  by_cases h : a = b
  · subst h; simp
  · have : a.data.toList ≠ b.data.toList := fun e => h (ByteArray.ext (Array.ext' e))
    rw [jI h]
    exact beq_eq_false_iff_ne.2 this
theorem eqBo (a b : Bool) : (a == b) = decide (a = b) := by cases a <;> cases b <;> rfl
section
variable {P : Program} {Q : Exit → S → Prop} {s : S}
def LoopW (P : Program) (body : Code) (Q : Exit → S → Prop) (s : S) : Prop :=
  ∀ c a w, Sat c s a w → ∀ b k cs, ∃ e a' w', (∃ s' c', Q e s' ∧ Sat c' s' a' w' ∧ Ext c s.own w c' s'.own w') ∧ Arrives P (lone (b.at a (.code body :: .inLoop body :: k)) cs w) b k cs e a' w'
end
theorem Spec.arg {P : Program} {f : FuncId} {l r : List C} {x y : C} {H : Heap} {Q : X → Heap → Prop} (h : XW (.c x) (.c y)) (k : Spec P f (l ++ y :: r) H Q) : Spec P f (l ++ x :: r) H Q := by
  intro c w vs hc hr
  refine k c w vs hc ⟨by rw [← hr.1]; simp, fun i z v hz hv => ?_⟩
  by_cases hi : i = l.length
  · subst hi
    simp at hz; subst hz
    exact h.2 c v (hr.2 l.length x v (by simp) hv)
  · refine hr.2 i z v ?_ hv
    by_cases hl : i < l.length
    · rw [List.getElem?_append_left hl] at hz ⊢; exact hz
    · have h1 : l.length ≤ i := by omega
      rw [List.getElem?_append_right h1] at hz ⊢
      obtain ⟨m, hm⟩ : ∃ m, i - l.length = m + 1 := ⟨i - l.length - 1, by omega⟩
      rw [hm] at hz ⊢; simpa using hz
theorem Pure.arg {P : Program} {f : FuncId} (l : List C) {r : List C} {x y : C} {z : X} (h : XW (.c x) (.c y)) (k : Pure P f (l ++ y :: r) z) : Pure P f (l ++ x :: r) z := fun H => Spec.arg h (k H)
section
variable {P : Program} {o : Oper} {s : S}
theorem h_callV {z : Operand} {f : FuncId} {cs : List A} {ys : Array Operand} {ts : Array TypeId} {args : List C} {x : X} (ho : o.op = .call { callee := .value z, args := ys, argTypes := ts }) (hz : fnX (s.eval z) = some (f, cs)) (hf : fnB P f = true) (ha : argsX s ys.toList = some args) (h : Spec P f (args ++ cs.map C.a) s.H fun y H' => y = x ∧ H' = s.H) (hx : x.loc = none) (hd : inB o.dst s.n = true) :
    LR P o (.h :: lk o) (dstT o) s (s.put o.dst x) := by
  refine ⟨put_len _ _ _, fun ℓ hℓ => put_out hℓ, fun s1 hl hs c a w g => ?_⟩
  unfold dstT
  rw [over_put]
  have hH : s1.H = s.H := hs .h (by simp)
  have ha1 : argsX s1 ys.toList = some args := by
    rw [← ha]
    have : ∀ l : List Operand, (∀ y ∈ l, y ∈ ys.toList) → argsX s1 l = argsX s l := by
      intro l
      induction l with
      | nil => intro _; rfl
      | cons y l ih =>
        intro hl'
        have e1 : s1.eval y = s.eval y := evs hs (fun _ h => List.mem_cons_of_mem _ h) (by rw [ho]; simp [Op.operands, Call.operands]; exact .inr (by simpa using hl' y (by simp)))
        simp only [argsX, e1, ih (fun z hz => hl' z (by simp [hz]))]
    exact this _ fun _ h => h
  have hz1 : fnX (s1.eval z) = some (f, cs) := by
    rw [← hz]
    have e1 : s1.eval z = s.eval z := evs hs (fun _ h => List.mem_cons_of_mem _ h) (by rw [ho]; simp [Op.operands, Call.operands])
    rw [e1]
  refine wp_weak0 (callV_wp g ho hz1 hf ha1 (Q := fun y H' => y = x ∧ H' = s.H) (by rw [hH]; exact h) (fun y H' e => by rw [e.1]; exact hx) (hl ▸ hd)) ?_
  rintro a' w' ⟨y, H', c', ⟨rfl, rfl⟩, g', x'⟩
  rw [← hH] at g' x'
  exact ⟨c', g', x'⟩
theorem g_callV {n d : Nat} {t : Nat → X} {L : Nat → Option AO} {H : Heap} {z : Operand} {f : FuncId} {cs : List A} {ys : Array Operand} {ts : Array TypeId} {args : List C} {x : X} (ho : o.op = .call { callee := .value z, args := ys, argTypes := ts }) (hz : fnX (S.eval ⟨n, t, L, H⟩ z) = some (f, cs)) (hf : fnB P f = true) (ha : argsX ⟨n, t, L, H⟩ ys.toList = some args) (h : Spec P f (args ++ cs.map C.a) H fun y H' => y = x ∧ H' = H) (hx : x.loc = none) (hdst : o.dst = some d) (hd : Nat.blt d n = true) :
    LR P o (.h :: lk o) (dstT o) ⟨n, t, L, H⟩ ⟨n, upd t d x, L, H⟩ := lr_cast (h_callV ho hz hf ha h hx (inb' hdst hd)) (by rw [hdst]; rfl)
end
section
variable {P : Program} {cd : Code} {Q : Exit → S → Prop} {n : Nat} {t : Nat → X} {L : Nat → Option AO} {H : Heap}
theorem Wk.xwL (d : Nat) {cells cells' : List A} (hd : L d = some (.box cells)) (h : XWs cells cells') : Wk ⟨n, t, L, H⟩ ⟨n, t, upd L d (some (.box cells')), H⟩ := fun c a w g => by
  obtain ⟨h4, h5⟩ := g.reL (x' := .box cells') hd (by simp [AO.empty]) fun b m ⟨us, ty, q1, q2, q3⟩ => by
    refine ⟨us, ty, q1, ⟨by rw [← h.len]; exact q2.1, fun i x v hx hv => ?_⟩, q3⟩
    obtain ⟨y, hy, hw⟩ := h.at hx
    have := hw.2 c v (q2.2 i y v hy hv)
    exact this
  exact ⟨c, h4, h5⟩
theorem AW.xwL (d : Nat) {cells cells' : List A} (hd : L d = some (.box cells)) (h : XWs cells cells') (k : AW P cd Q ⟨n, t, upd L d (some (.box cells')), H⟩) : AW P cd Q ⟨n, t, L, H⟩ := .wk (.xwL d hd h) k
end
theorem XW.fn0 {f : FuncId} : XW (tv (.func (.func f) #[] #[])) (.c (.a (.fn f []))) := ⟨rfl, fun c v h => by
  have := rep_tv h; subst this
  exact RepA.fn (fun _ => default) rfl (fun i x h => by cases h)⟩
def TW (x y : T) : Prop := ∀ μ v, RepT μ x v → RepT μ y v
theorem TW.re {x : T} : TW x x := fun _ _ h => h
inductive TWs : List T → List T → Prop
  | nil : TWs [] []
  | cons {a b : T} {l m : List T} (h : TW a b) (t : TWs l m) : TWs (a :: l) (b :: m)
theorem TWs.re : ∀ {l : List T}, TWs l l
  | [] => .nil
  | _ :: _ => .cons TW.re TWs.re
theorem TWs.len {l m : List T} (h : TWs l m) : l.length = m.length := by
  induction h with
  | nil => rfl
  | cons _ _ ih => simp [ih]
theorem TWs.at {l m : List T} (h : TWs l m) {i : Nat} {b : T} (hb : m[i]? = some b) : ∃ a, l[i]? = some a ∧ TW a b := by
  induction h generalizing i with
  | nil => simp at hb
  | @cons a b' l m hx t ih =>
    cases i with
    | zero => simp at hb; subst hb; exact ⟨a, rfl, hx⟩
    | succ i => simp at hb; simpa using ih hb
inductive TWss : List (List T) → List (List T) → Prop
  | nil : TWss [] []
  | cons {a b : List T} {l m : List (List T)} (h : TWs a b) (t : TWss l m) : TWss (a :: l) (b :: m)
theorem TWss.re : ∀ {l : List (List T)}, TWss l l
  | [] => .nil
  | _ :: _ => .cons TWs.re TWss.re
theorem TWss.app {a b c d : List (List T)} (h : TWss a b) (k : TWss c d) : TWss (a ++ c) (b ++ d) := by
  induction h with
  | nil => exact k
  | cons h _ ih => exact .cons h ih
theorem TWss.len {l m : List (List T)} (h : TWss l m) : l.length = m.length := by
  induction h with
  | nil => rfl
  | cons _ _ ih => simp [ih]
theorem TWss.at {l m : List (List T)} (h : TWss l m) {i : Nat} {b : List T} (hb : m[i]? = some b) : ∃ a, l[i]? = some a ∧ TWs a b := by
  induction h generalizing i with
  | nil => simp at hb
  | @cons a b' l m hx t ih =>
    cases i with
    | zero => simp at hb; subst hb; exact ⟨a, rfl, hx⟩
    | succ i => simp at hb; simpa using ih hb
theorem TW.nil {sz : Nat} : TW (.v (.slice none 0 0)) (.sl .un sz []) := fun μ v h => by
  cases h with
  | v h => exact .nil (by simp)
theorem TW.sl {z : Nz} {sz : Nat} {es es' : List (List T)} (h : TWss es es') : TW (.sl z sz es) (.sl .un sz es') := fun μ v r => by
  cases r with
  | nil h1 => cases h; exact .nil (by simp)
  | emp h1 => cases h; exact .emp (by simp)
  | sl u ne hn hc len mem rep =>
    refine .sl u (fun e => ne ?_) (hn.trans h.len) hc (fun i e' h1 => ?_) (fun i e' j x' h1 h2 => ?_) (fun i e' j x' h1 h2 => ?_)
    · subst e; cases h; rfl
    · obtain ⟨e, h2, h3⟩ := h.at h1
      rw [← h3.len]; exact len i e h2
    · obtain ⟨e, h3, h4⟩ := h.at h1
      obtain ⟨x, h5, _⟩ := h4.at h2
      exact mem i e j x h3 h5
    · obtain ⟨e, h3, h4⟩ := h.at h1
      obtain ⟨x, h5, h6⟩ := h4.at h2
      exact h6 _ _ (rep i e j x h3 h5)
theorem XW.tw {x y : T} (h : TW x y) : XW (.c (.a (.t x))) (.c (.a (.t y))) := ⟨rfl, fun c v r => by
  have r : RepA c.μ c.β (.t x) v := r
  cases r with
  | t r => exact RepA.t (h _ _ r)⟩
end Go.Proofs.YtgnnjebfoffphaaGreatDoor.E
