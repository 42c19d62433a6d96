/- Parts of the proof, one after the other: E1, E2, E3, E4, E5, E6, E7, E8, E9, E10. No condition. -/
import Derived.WalkKit
import Derived.Orders
import Derived.OrdersIn
import Derived.WalkLawsBesides
import Derived.Lib.ConvBytes
import Derived.Deep.MidRow
import Derived.Laws.CopyRow
import Derived.Great.BuildSlice
import Derived.Maps.AppendAt
import Derived.Lib.AppendStr
import Derived.Laws.MakeOwn
import Derived.RangeFuncRecord
/- An abstract machine over the model: values as trees, objects with one owner, and rules for code; first part: what the words mean, and the rules of control. Plain theorems, for any program. -/
namespace Go.Proofs.Ytikcmjamioopbaa.E
open Go.RowKit
set_option linter.unusedVariables false

/-! ### trees -/
abbrev Mem := Nat → Nat → Option Value
inductive Nz where
  | un | nn | ne
  deriving DecidableEq
inductive T where
  | v (x : Value)
  | sl (z : Nz) (sz : Nat) (es : List (List T))
inductive RepT (μ : Mem) : T → Value → Prop
  | v {x : Value} (h : x.oneCell' = true) : RepT μ (.v x) x
  | nil {z : Nz} {sz : Nat} (h : z ≠ .nn) : RepT μ (.sl z sz []) (.slice none 0 0)
  | emp {z : Nz} {sz c : Nat} {a : Addr} (h : z ≠ .ne) : RepT μ (.sl z sz []) (.slice (some a) 0 c)
  | sl {z : Nz} {sz : Nat} {es : List (List T)} {b off n c : Nat} (u : Nat → Nat → Value) (ne : es ≠ []) (hn : n = es.length) (hc : n ≤ c)
      (len : ∀ (i : Nat) (e : List T), es[i]? = some e → e.length = sz)
      (mem : ∀ (i : Nat) (e : List T) (j : Nat) (x : T), es[i]? = some e → e[j]? = some x → μ b (off + (i * sz + j)) = some (u i j))
      (rep : ∀ (i : Nat) (e : List T) (j : Nat) (x : T), es[i]? = some e → e[j]? = some x → RepT μ x (u i j)) : RepT μ (.sl z sz es) (.slice (some ⟨b, off, none⟩) n c)
theorem RepT.mono {μ μ' : Mem} (h : ∀ b o u, μ b o = some u → μ' b o = some u) {x : T} {v : Value} (r : RepT μ x v) : RepT μ' x v := by
  induction r with
  | v h1 => exact .v h1
  | nil h1 => exact .nil h1
  | emp h1 => exact .emp h1
  | sl u ne hn hc len mem rep ih => exact .sl u ne hn hc len (fun i e j x h1 h2 => h _ _ _ (mem i e j x h1 h2)) ih
theorem RepT.one {μ : Mem} {x : T} {v : Value} (r : RepT μ x v) : v.oneCell' = true := by
  cases r <;> first | assumption | rfl
theorem RepT.forget {μ : Mem} {z : Nz} {sz : Nat} {es : List (List T)} {v : Value} (r : RepT μ (.sl z sz es) v) : RepT μ (.sl .un sz es) v := by
  cases r with
  | nil h => exact .nil (by simp)
  | emp h => exact .emp (by simp)
  | sl u ne hn hc len mem rep => exact .sl u ne hn hc len mem rep

/-! ### lists of cells -/
def Reps {α : Type} (R : α → Value → Prop) (l : List α) (cs : List Value) : Prop := l.length = cs.length ∧ ∀ (i : Nat) (x : α) (v : Value), l[i]? = some x → cs[i]? = some v → R x v
section
variable {α : Type} {R R' : α → Value → Prop} {l : List α} {cs : List Value}
theorem Reps.nil : Reps R [] [] := ⟨rfl, fun i x v h => by simp at h⟩
theorem Reps.cons {x : α} {v : Value} (h : R x v) (hs : Reps R l cs) : Reps R (x :: l) (v :: cs) := by
  refine ⟨by simp [hs.1], fun i y u h1 h2 => ?_⟩
  cases i with
  | zero => simp at h1 h2; subst h1 h2; exact h
  | succ i => simp at h1 h2; exact hs.2 i y u h1 h2
theorem Reps.mono (h : ∀ x v, R x v → R' x v) (hs : Reps R l cs) : Reps R' l cs := ⟨hs.1, fun i x v h1 h2 => h _ _ (hs.2 i x v h1 h2)⟩
theorem Reps.get (hs : Reps R l cs) {i : Nat} {x : α} (h : l[i]? = some x) : ∃ v, cs[i]? = some v ∧ R x v := by
  have hi : i < cs.length := by rw [← hs.1]; exact (List.getElem?_eq_some_iff.1 h).1
  exact ⟨cs[i], List.getElem?_eq_getElem hi, hs.2 i x _ h (List.getElem?_eq_getElem hi)⟩
theorem Reps.get' (hs : Reps R l cs) {i : Nat} {v : Value} (h : cs[i]? = some v) : ∃ x, l[i]? = some x ∧ R x v := by
  have hi : i < l.length := by rw [hs.1]; exact (List.getElem?_eq_some_iff.1 h).1
  exact ⟨l[i], List.getElem?_eq_getElem hi, hs.2 i _ v (List.getElem?_eq_getElem hi) h⟩
theorem Reps.take (hs : Reps R l cs) (n : Nat) : Reps R (l.take n) (cs.take n) := by
  refine ⟨by simp [hs.1], fun i x v h1 h2 => ?_⟩
  rw [List.getElem?_take] at h1 h2
  split at h1
  · rename_i hi; rw [if_pos hi] at h2; exact hs.2 i x v h1 h2
  · cases h1
theorem Reps.drop (hs : Reps R l cs) (n : Nat) : Reps R (l.drop n) (cs.drop n) := by
  refine ⟨by simp [hs.1], fun i x v h1 h2 => ?_⟩
  rw [List.getElem?_drop] at h1 h2
  exact hs.2 _ x v h1 h2
theorem Reps.append {l' : List α} {cs' : List Value} (hs : Reps R l cs) (ht : Reps R l' cs') : Reps R (l ++ l') (cs ++ cs') := by
  refine ⟨by simp [hs.1, ht.1], fun i x v h1 h2 => ?_⟩
  by_cases hi : i < l.length
  · rw [List.getElem?_append_left hi] at h1
    rw [List.getElem?_append_left (by rw [← hs.1]; exact hi)] at h2
    exact hs.2 i x v h1 h2
  · rw [List.getElem?_append_right (by omega)] at h1
    rw [List.getElem?_append_right (by rw [← hs.1]; omega), ← hs.1] at h2
    exact ht.2 _ x v h1 h2
theorem Reps.set (hs : Reps R l cs) (i : Nat) {x : α} {v : Value} (h : R x v) : Reps R (l.set i x) (cs.set i v) := by
  refine ⟨by simp [hs.1], fun j y u h1 h2 => ?_⟩
  rw [List.getElem?_set] at h1 h2
  by_cases hij : i = j
  · subst hij
    by_cases hi : i < l.length
    · rw [if_pos rfl, if_pos hi] at h1
      rw [if_pos rfl, if_pos (by rw [← hs.1]; exact hi)] at h2
      cases h1; cases h2; exact h
    · rw [if_pos rfl, if_neg hi] at h1; cases h1
  · rw [if_neg hij] at h1 h2
    exact hs.2 j y u h1 h2
theorem Reps.one (hs : Reps R l cs) (h : ∀ x v, R x v → v.oneCell' = true) : ∀ u ∈ cs, u.oneCell' = true := by
  intro u hu
  obtain ⟨i, hi⟩ := List.getElem?_of_mem hu
  obtain ⟨x, _, hx⟩ := hs.get' hi
  exact h x u hx
end

/-! ### cells that may name objects -/
inductive A where
  | t (x : T)
  | bp (k off : Nat)
  | mp (k : Nat)
  | ts (k : Nat) (z : Nz) (sz : Nat) (es : List (List T))
  | os (k off n sz : Nat)
  | fn (f : Nat) (cs : List A)
  | yl (k : Nat)
abbrev Pos := Nat → Option (Nat × Nat)
inductive RepA (μ : Mem) (β : Pos) : A → Value → Prop
  | t {x : T} {v : Value} (h : RepT μ x v) : RepA μ β (.t x) v
  | bp {k off b c : Nat} (h : β k = some (b, c)) : RepA μ β (.bp k off) (.pointer (some ⟨b, off, none⟩))
  | mp {k b c : Nat} (h : β k = some (b, c)) : RepA μ β (.mp k) (.map (some b))
  | ts0 {k sz : Nat} : RepA μ β (.ts k .ne sz []) (.slice none 0 0)
  | tsE {k sz : Nat} {a : Addr} : RepA μ β (.ts k .nn sz []) (.slice (some a) 0 0)
  | ts {k sz b c n : Nat} {z : Nz} {es : List (List T)} (hk : β k = some (b, c)) (hne : es ≠ []) (hn : n = es.length)
      (h : RepT μ (.sl .un sz es) (.slice (some ⟨b, 0, none⟩) n c)) : RepA μ β (.ts k z sz es) (.slice (some ⟨b, 0, none⟩) n c)
  | os0 {k off sz : Nat} {a : Option Addr} : RepA μ β (.os k off 0 sz) (.slice a 0 0)
  | os {k n sz b c : Nat} (hk : β k = some (b, c)) (hn : 0 < n) : RepA μ β (.os k 0 n sz) (.slice (some ⟨b, 0, none⟩) n c)
  | osub {k off n sz b c c' : Nat} (hk : β k = some (b, c)) (ho : 0 < off) : RepA μ β (.os k off n sz) (.slice (some ⟨b, off, none⟩) n c')
  | yl {k b c : Nat} (h : β k = some (b, c)) : RepA μ β (.yl k) (.func (.yield b) #[] #[])
  | fn {f : Nat} {cs : List A} {vs : Array Value} (u : Nat → Value) (hv : vs.toList = (List.range cs.length).map u) (h : ∀ (i : Nat) (x : A), cs[i]? = some x → RepA μ β x (u i)) : RepA μ β (.fn f cs) (.func (.func f) #[] vs)
theorem RepA.mono {μ μ' : Mem} {β β' : Pos} (h : ∀ b o u, μ b o = some u → μ' b o = some u) (hb : ∀ k p, β k = some p → β' k = some p) {x : A} {v : Value} (r : RepA μ β x v) : RepA μ' β' x v := by
  induction r with
  | t h1 => exact .t (h1.mono h)
  | bp h1 => exact .bp (hb _ _ h1)
  | mp h1 => exact .mp (hb _ _ h1)
  | ts0 => exact .ts0
  | tsE => exact .tsE
  | ts hk hne hn h1 => exact .ts (hb _ _ hk) hne hn (h1.mono h)
  | os0 => exact .os0
  | os hk hn => exact .os (hb _ _ hk) hn
  | osub hk ho => exact .osub (hb _ _ hk) ho
  | yl h1 => exact .yl (hb _ _ h1)
  | fn u hv h1 ih => exact .fn u hv ih
theorem RepA.one {μ : Mem} {β : Pos} {x : A} {v : Value} (r : RepA μ β x v) : v.oneCell' = true := by
  cases r with
  | t h => exact h.one
  | _ => rfl
inductive C where
  | a (x : A)
  | g (l : List A)
def RepC (μ : Mem) (β : Pos) : C → Value → Prop
  | .a x, v => RepA μ β x v
  | .g l, v => ∃ us : Array Value, v = .agg us ∧ Reps (RepA μ β) l us.toList
theorem RepC.mono {μ μ' : Mem} {β β' : Pos} (h : ∀ b o u, μ b o = some u → μ' b o = some u) (hb : ∀ k p, β k = some p → β' k = some p) {x : C} {v : Value} (r : RepC μ β x v) : RepC μ' β' x v := by
  cases x with
  | a x => exact RepA.mono h hb r
  | g l => obtain ⟨us, h1, h2⟩ := r; exact ⟨us, h1, h2.mono fun _ _ => RepA.mono h hb⟩
/-- the cells of a value -/
def C.cells : C → List A
  | .a x => [x]
  | .g l => l
theorem RepC.cells {μ : Mem} {β : Pos} {x : C} {v : Value} (r : RepC μ β x v) : Reps (RepA μ β) x.cells v.cells.toList := by
  cases x with
  | a x =>
    have h1 : RepA μ β x v := r
    have : v.cells = #[v] := by have := h1.one; cases v <;> first | rfl | cases this
    rw [this]
    exact .cons h1 .nil
  | g l => obtain ⟨us, rfl, h2⟩ := r; exact h2

structure Ctx where
  μ : Mem
  β : Pos
  lam : Nat → Nat × Nat
  base : Nat
/-- what a slot holds -/
inductive X where
  | c (x : C)
  | tup (l : List C)
  | lp (d off : Nat)
  | lts (d : Nat) (z : Nz) (sz : Nat) (es : List (List T))
  | lmp (d : Nat)
  | pc (l : List T)
  | any
/-- the variable of the call's own that it names -/
def X.loc : X → Option Nat
  | .lp d _ | .lts d _ _ _ | .lmp d => some d
  | _ => none
def RepX (c : Ctx) : X → Value → Prop
  | .c x, v => RepC c.μ c.β x v
  | .tup l, v => ∃ us : Array Value, v = .tuple us ∧ Reps (RepC c.μ c.β) l us.toList
  | .lp d off, v => v = .pointer (some ⟨(c.lam d).1, off, none⟩)
  | .lts d z sz es, v => (es = [] ∧ z = .ne ∧ v = .slice none 0 0) ∨ (es = [] ∧ z = .nn ∧ ∃ a, v = .slice (some a) 0 0) ∨ (es ≠ [] ∧ v = .slice (some ⟨(c.lam d).1, 0, none⟩) es.length (c.lam d).2 ∧ RepT c.μ (.sl .un sz es) v)
  | .lmp d, v => v = .map (some (c.lam d).1)
  | .pc l, v => ∃ b off, v = .pointer (some ⟨b, off, none⟩) ∧ ∃ u : Nat → Value, ∀ (i : Nat) (x : T), l[i]? = some x → c.μ b (off + i) = some (u i) ∧ RepT c.μ x (u i)
  | .any, _ => True
abbrev tv (x : Value) : X := .c (.a (.t (.v x)))
def constX : Value → X
  | .agg cs => if cs.toList.all Value.oneCell' = true then .c (.g (cs.toList.map fun u => .t (.v u))) else .any
  | .tuple _ => .any
  | u => tv u

/-! ### objects and states -/
/-- a map's entry: its key, what stands there, its stamp -/
structure ME where
  k : Value
  x : C
  b : Nat
/-- kinds of keys -/
inductive KK where
  | int (q : IntKind)
  | str
  | bool
  | ints (q : IntKind) (n : Nat)
def intOf : Value → Option Int
  | .int _ a => some a
  | _ => none
def kok : KK → Value → Bool
  | .int q, .int q' _ => decide (q' = q)
  | .str, .string _ => true
  | .bool, .bool _ => true
  | .ints q n, .agg cs => decide (cs.size = n) && cs.toList.all fun u => match u with | .int q' _ => decide (q' = q) | _ => false
  | _, _ => false
def keq : Value → Value → Bool
  | .int _ a, .int _ b => decide (a = b)
  | .string a, .string b => a == b
  | .bool a, .bool b => a == b
  | .agg a, .agg b => decide (a.toList.map intOf = b.toList.map intOf)
  | _, _ => false
inductive AO where
  | box (cs : List A)
  | row (e : TypeId) (sz : Nat) (cs : List A)
  | tip (e : TypeId) (sz m : Nat)
  | new (e : TypeId) (sz : Nat)
  | map (kk : KK) (es : List ME) (clock : Nat)
  | iter (k since : Nat) (seen : List Nat) (c0 : Nat)
  | iter0
  | loop (r : Loop) (t : Nat → Option C)
/-- of an object that is empty nothing is claimed -/
def AO.empty : AO → Prop
  | .row _ _ cs => cs = []
  | .tip _ _ m => m = 0
  | _ => False
inductive Id where
  | e (k : Nat)
  | l (d : Nat)
  deriving DecidableEq
structure MapRep (c : Ctx) (kk : KK) (es : List ME) (clock : Nat) (ents : Array MapEntry) : Prop where
  len : es.length = ents.size
  ent : ∀ (i : Nat) (m : ME) (e : MapEntry), es[i]? = some m → ents[i]? = some e → e.key = m.k ∧ e.born = m.b ∧ RepC c.μ c.β m.x e.val
  key : ∀ m ∈ es, kok kk m.k = true
  born : ∀ m ∈ es, m.b < clock
  nodup : (es.map (·.k)).Nodup
  inj : (es.map (·.b)).Nodup
def ORep (c : Ctx) (w : World) : AO → Nat → Nat → Prop
  | .box cs, b, _ => ∃ us ty, w.heap[b]? = some (.cells us ty (0, 0)) ∧ Reps (RepA c.μ c.β) cs us.toList ∧ ∀ o, c.μ b o = none
  | .row e sz cs, b, n => ∃ us, w.heap[b]? = some (.cells us e (0, 0)) ∧ us.size = n * sz ∧ n ≤ maxLen ∧ Reps (RepA c.μ c.β) cs (us.toList.take cs.length) ∧ ∀ o, c.μ b o = none
  | .tip e sz m, b, n => ∃ us, w.heap[b]? = some (.cells us e (0, 0)) ∧ us.size = n * sz ∧ n ≤ maxLen ∧ ∀ o, m * sz ≤ o → c.μ b o = none
  | .new e sz, b, n => ∃ us, w.heap[b]? = some (.cells us e (0, 0)) ∧ us.size = n * sz ∧ n ≤ maxLen ∧ ∀ o, c.μ b o = none
  | .map kk es clock, b, _ => ∃ ents, w.heap[b]? = some (.map ents clock) ∧ MapRep c kk es clock ents
  | .iter k since seen c0, b, _ => ∃ bm nm, c.β k = some (bm, nm) ∧ w.heap[b]? = some (.mapIter (some bm) since seen.toArray c0)
  | .iter0, b, _ => w.heap[b]? = some (.mapIter none 0 #[] 0)
  | .loop r t, b, _ => w.heap[b]? = some (.loop r) ∧ ∀ i x, t i = some x → RepC c.μ c.β x (r.tmps.getD i undef)
abbrev Heap := Nat → Option AO
/-- n slots; t: what they hold; L: what the variables of the call's own hold, each under the slot that points to it; H: the objects -/
structure S where
  n : Nat
  t : Nat → X
  L : Nat → Option AO
  H : Heap
def upd {α : Type} (f : Nat → α) (i : Nat) (x : α) : Nat → α := fun j => bif Nat.beq j i then x else f j
theorem upd_same {α : Type} (f : Nat → α) (i : Nat) (x : α) : upd f i x i = x := by simp [upd]
theorem upd_ne {α : Type} (f : Nat → α) {i j : Nat} (x : α) (h : j ≠ i) : upd f i x j = f j := by
  unfold upd
  cases hb : Nat.beq j i with
  | true => exact absurd (Nat.eq_of_beq_eq_true hb) h
  | false => rfl
/-- slots from a list; all others are unknown -/
def sp : List (Nat × X) → Nat → X
  | [] => fun _ => .any
  | (i, x) :: l => upd (sp l) i x
/-- variables from a list -/
def lv : List (Nat × AO) → Nat → Option AO
  | [] => fun _ => none
  | (i, x) :: l => upd (lv l) i (some x)
abbrev Own := Id → Option AO
def S.own (s : S) : Own
  | .e k => s.H k
  | .l d => s.L d
def Ctx.pos (c : Ctx) : Id → Option (Nat × Nat)
  | .e k => c.β k
  | .l d => some (c.lam d)
structure Conc (c : Ctx) (own : Own) (w : World) : Prop where
  mem : ∀ b o u, c.μ b o = some u → w.cell? ⟨b, o, none⟩ = some u
  obj : ∀ i x, own i = some x → ¬ x.empty → ∃ b n, c.pos i = some (b, n) ∧ ORep c w x b n
  inj : ∀ i j x y b n m, own i = some x → own j = some y → ¬ x.empty → ¬ y.empty → c.pos i = some (b, n) → c.pos j = some (b, m) → i = j
  fin : ∃ N, ∀ k, N ≤ k → c.β k = none ∧ own (.e k) = none
structure Ext (c : Ctx) (own0 : Own) (w : World) (c' : Ctx) (own' : Own) (w' : World) : Prop where
  os : w'.os = w.os
  tape : w'.tape = w.tape
  output : w'.output = w.output
  size : w.heap.size ≤ w'.heap.size
  blk : ∀ b, b < w.heap.size → (∀ i x n, own0 i = some x → ¬ x.empty → c.pos i ≠ some (b, n)) → w'.heap[b]? = w.heap[b]?
  mem : ∀ b o u, c.μ b o = some u → c'.μ b o = some u
  new : ∀ b o u, c'.μ b o = some u → c.μ b o = some u ∨ w.heap.size ≤ b ∨ ∃ i x n, own0 i = some x ∧ ¬ x.empty ∧ c.pos i = some (b, n)
  ext : ∀ k p, c.β k = some p → c'.β k = some p
  own : ∀ i x b n, own' i = some x → ¬ x.empty → c'.pos i = some (b, n) → w.heap.size ≤ b ∨ ∃ j y m, own0 j = some y ∧ ¬ y.empty ∧ c.pos j = some (b, m)
  base : c'.base = c.base
  nm : ∀ k x, own' (.e k) = some x → own0 (.e k) ≠ none ∨ c.β k = none
theorem Ext.refl (c : Ctx) (own : Own) (w : World) : Ext c own w c own w :=
  ⟨rfl, rfl, rfl, Nat.le_refl _, fun _ _ _ => rfl, fun _ _ _ h => h, fun _ _ _ h => .inl h, fun _ _ h => h, fun i x b n h1 he h2 => .inr ⟨i, x, n, h1, he, h2⟩, rfl, fun k x h => .inl (by rw [h]; simp)⟩
theorem Ext.trans {c c' c'' : Ctx} {o o' o'' : Own} {w w' w'' : World} (h : Ext c o w c' o' w') (k : Ext c' o' w' c'' o'' w'') : Ext c o w c'' o'' w'' := by
  refine ⟨k.os.trans h.os, k.tape.trans h.tape, k.output.trans h.output, Nat.le_trans h.size k.size, fun b hb hn => ?_, fun b o u hu => k.mem _ _ _ (h.mem _ _ _ hu), fun b o u hu => ?_, fun k' p hp => k.ext _ _ (h.ext _ _ hp), fun i x b n h1 he h2 => ?_, k.base.trans h.base, fun i x hx => ?_⟩
  · rw [k.blk b (Nat.lt_of_lt_of_le hb h.size) fun i x n hi he hp => ?_, h.blk b hb hn]
    rcases h.own i x b n hi he hp with hs | ⟨j, y, m, hj, hy, hq⟩
    · omega
    · exact hn j y m hj hy hq
  · rcases k.new b o u hu with h1 | h1 | ⟨i, x, n, h1, he, h2⟩
    · exact h.new b o u h1
    · exact .inr (.inl (Nat.le_trans h.size h1))
    · exact .inr (h.own i x b n h1 he h2)
  · rcases k.own i x b n h1 he h2 with h3 | ⟨j, y, m, h3, h5, h4⟩
    · exact .inl (Nat.le_trans h.size h3)
    · exact h.own j y b m h3 h5 h4
  · rcases k.nm i x hx with h1 | h1
    · cases h2 : o' (.e i) with
      | none => exact absurd h2 h1
      | some y => exact h.nm i y h2
    · refine .inr ?_
      cases h2 : c.β i with
      | none => rfl
      | some p => rw [h.ext i p h2] at h1; cases h1

def S.eval (s : S) : Operand → X
  | .tmp t => s.t t
  | .const u => constX u
  | .global g => tv (.pointer (some ⟨g, 0, none⟩))
  | .func f => tv (.func (.func f) #[] #[])
def S.put (s : S) (d : Option Nat) (x : X) : S :=
  match d with
  | some i => { s with t := upd s.t i x }
  | none => s
/-- the marks that loops over functions have left among an activation's deferred calls -/
def mark (D : Nat) : Deferred := { target := .collected D, args := #[] }
def DefOk (base : Nat) (ds : List Deferred) (w : World) : Prop := base ≤ w.heap.size ∧ ∃ Ds : List Nat, ds = Ds.map mark ∧ Ds.Nodup ∧ ∀ D, D ∈ Ds → base ≤ D ∧ w.heap[D]? = some (Obj.deferred (some []))
theorem DefOk.nil {base : Nat} {w : World} (h : base ≤ w.heap.size) : DefOk base [] w := ⟨h, [], rfl, List.nodup_nil, fun D h => by cases h⟩
theorem DefOk.blk {base : Nat} {ds : List Deferred} {w w' : World} (h : DefOk base ds w) (hs : w.heap.size ≤ w'.heap.size) (hb : ∀ D : Nat, w.heap[D]? = some (Obj.deferred (some [])) → w'.heap[D]? = w.heap[D]?) : DefOk base ds w' := by
  obtain ⟨h0, Ds, h1, h2, h3⟩ := h
  exact ⟨Nat.le_trans h0 hs, Ds, h1, h2, fun D hD => ⟨(h3 D hD).1, (hb D (h3 D hD).2).trans (h3 D hD).2⟩⟩
theorem ORep.nd {c : Ctx} {w : World} {x : AO} {b n : Nat} (h : ORep c w x b n) {y : Option (List Deferred)} : w.heap[b]? ≠ some (Obj.deferred y) := by
  intro e
  cases x with
  | box => obtain ⟨_, _, h, _⟩ := h; rw [e] at h; cases h
  | row => obtain ⟨_, h, _⟩ := h; rw [e] at h; cases h
  | tip => obtain ⟨_, h, _⟩ := h; rw [e] at h; cases h
  | new => obtain ⟨_, h, _⟩ := h; rw [e] at h; cases h
  | map => obtain ⟨_, h, _⟩ := h; rw [e] at h; cases h
  | iter => obtain ⟨_, _, _, h⟩ := h; rw [e] at h; cases h
  | iter0 => have h : w.heap[b]? = _ := h; rw [e] at h; cases h
  | loop => have h := h.1; rw [e] at h; cases h
theorem DefOk.ext {c c' : Ctx} {own own' : Own} {ds : List Deferred} {w w' : World} (h : DefOk c.base ds w) (hc : Conc c own w) (x : Ext c own w c' own' w') : DefOk c'.base ds w' := by
  rw [x.base]
  refine h.blk x.size fun D hD => x.blk D (Array.getElem?_eq_some_iff.1 hD).1 fun i y n hi hy hp => ?_
  obtain ⟨b, m, h1, h2⟩ := hc.obj i y hi hy
  rw [hp] at h1; injection h1 with h1; injection h1 with h1; subst h1
  exact h2.nd hD
structure Sat (c : Ctx) (s : S) (a : Act) (w : World) : Prop where
  conc : Conc c s.own w
  size : a.tmps.size = s.n
  tmps : ∀ i, RepX c (s.t i) (a.tmps.getD i undef)
  defers : DefOk c.base a.defers w
  wf : ∀ i d, (s.t i).loc = some d → s.L d ≠ none
theorem Sat.eval {c : Ctx} {s : S} {a : Act} {w : World} (h : Sat c s a w) (y : Operand) : RepX c (s.eval y) (a.eval y) := by
  cases y with
  | tmp t => exact h.tmps t
  | const u =>
    simp only [S.eval, Act.eval]
    cases u with
    | agg cs =>
      simp only [constX]
      split
      · rename_i hall
        refine ⟨cs, rfl, by simp, fun i x v h1 h2 => ?_⟩
        rw [List.getElem?_map, h2] at h1
        simp only [Option.map_some, Option.some.injEq] at h1
        subst h1
        exact .t (.v (List.all_eq_true.1 hall v (List.mem_of_getElem? h2)))
      · trivial
    | tuple => trivial
    | _ => exact RepA.t (.v rfl)
  | global g => exact RepA.t (.v rfl)
  | func f => exact RepA.t (.v rfl)

theorem rep_tv {c : Ctx} {u v : Value} (h : RepX c (tv u) v) : v = u := by cases h with | t h => cases h; rfl
theorem tv_rep {c : Ctx} {u : Value} (h : u.oneCell' = true) : RepX c (tv u) u := RepA.t (.v h)
/-! ### code -/
section
variable {P : Program} {Q Q' : Exit → S → Prop} {s : S}
def AW (P : Program) (cd : Code) (Q : Exit → S → Prop) (s : S) : Prop :=
  ∀ c a w, Sat c s a w → cd.wp P (fun e a' w' => ∃ s' c', Q e s' ∧ Sat c' s' a' w' ∧ Ext c s.own w c' s'.own w') a w
def Eth (K : S → Prop) (Q : Exit → S → Prop) : Exit → S → Prop
  | .normal, s => K s
  | e, s => Q e s
theorem AW.skip (h : Q .normal s) : AW P .skip Q s := fun c a w g => wp_skip ⟨s, c, h, g, .refl _ _ _⟩
theorem AW.exit {id : Nat} (h : Q (.exit id) s) : AW P (.exit id) Q s := fun c a w g => wp_exit ⟨s, c, h, g, .refl _ _ _⟩
theorem AW.ret (h : Q .ret s) : AW P .ret Q s := fun c a w g => wp_ret ⟨s, c, h, g, .refl _ _ _⟩
theorem AW.seq {x y : Code} (h : AW P x (Eth (AW P y Q) Q) s) : AW P (.seq x y) Q s := by
  intro c a w g
  refine wp_seq (wp_mono (h c a w g) ?_)
  rintro e a1 w1 ⟨s1, c1, q, g1, x1⟩
  cases e with
  | normal => exact wp_mono (q c1 a1 w1 g1) fun e a2 w2 ⟨s2, c2, q2, g2, x2⟩ => ⟨s2, c2, q2, g2, x1.trans x2⟩
  | _ => exact ⟨s1, c1, q, g1, x1⟩
theorem AW.mono {cd : Code} (h : AW P cd Q s) (hq : ∀ e s', Q e s' → Q' e s') : AW P cd Q' s :=
  fun c a w g => wp_mono (h c a w g) fun _ _ _ ⟨s', c', q, r⟩ => ⟨s', c', hq _ _ q, r⟩
theorem AW.cond {y : Operand} {t e : Code} (b : Bool) (hy : s.eval y = tv (.bool b)) (ht : b = true → AW P t Q s) (he : b = false → AW P e Q s) : AW P (.cond y t e) Q s := by
  intro c a w g
  have hv := g.eval y
  rw [hy] at hv
  have hv : a.eval y = .bool b := rep_tv hv
  refine wp_cond hv ?_
  cases b
  · exact he rfl c a w g
  · exact ht rfl c a w g
theorem AW.condD {y : Operand} {t e : Code} {p : Prop} [Decidable p] (hy : s.eval y = tv (.bool (decide p))) (ht : p → AW P t Q s) (he : ¬ p → AW P e Q s) : AW P (.cond y t e) Q s :=
  AW.cond _ hy (fun h => ht (of_decide_eq_true h)) (fun h => he (of_decide_eq_false h))
def EBlock (id : Nat) (Q : Exit → S → Prop) : Exit → S → Prop
  | .exit id', s => if id' = id then Q .normal s else Q (.exit id') s
  | e, s => Q e s
theorem AW.block {id : Nat} {cd : Code} (h : AW P cd (EBlock id Q) s) : AW P (.block id cd) Q s := by
  intro c a w g
  refine wp_block (wp_mono (h c a w g) ?_)
  rintro e a1 w1 ⟨s1, c1, q, g1, x1⟩
  cases e with
  | exit id' =>
    simp only [Exit.inBlock, EBlock] at q ⊢
    split
    · rename_i he; rw [if_pos he] at q; exact ⟨s1, c1, q, g1, x1⟩
    · rename_i he; rw [if_neg he] at q; exact ⟨s1, c1, q, g1, x1⟩
  | _ => exact ⟨s1, c1, q, g1, x1⟩

/-- a step of the proof alone: the same memory under another state -/
def Wk (s s' : S) : Prop := ∀ c a w, Sat c s a w → ∃ c', Sat c' s' a w ∧ Ext c s.own w c' s'.own w
theorem Wk.refl (s : S) : Wk s s := fun c a w g => ⟨c, g, .refl _ _ _⟩
theorem Wk.trans {s s' s'' : S} (h : Wk s s') (k : Wk s' s'') : Wk s s'' := fun c a w g => by
  obtain ⟨c', g', x'⟩ := h c a w g
  obtain ⟨c'', g'', x''⟩ := k c' a w g'
  exact ⟨c'', g'', x'.trans x''⟩
theorem AW.wk {cd : Code} {s' : S} (hw : Wk s s') (h : AW P cd Q s') : AW P cd Q s := fun c a w g => by
  obtain ⟨c', g', x'⟩ := hw c a w g
  exact wp_mono (h c' a w g') fun e a1 w1 ⟨s1, c1, q, g1, x1⟩ => ⟨s1, c1, q, g1, x'.trans x1⟩
theorem AW.post {cd : Code} (h : AW P cd Q s) (hq : ∀ e s', Q e s' → ∃ s'', Wk s' s'' ∧ Q' e s'') : AW P cd Q' s :=
  fun c a w g => wp_mono (h c a w g) fun e a1 w1 ⟨s1, c1, q, g1, x1⟩ => by
    obtain ⟨s2, hk, q2⟩ := hq e s1 q
    obtain ⟨c2, g2, x2⟩ := hk c1 a1 w1 g1
    exact ⟨s2, c2, q2, g2, x1.trans x2⟩
/-- a cut: what holds where ways meet again -/
theorem AW.seqM {x y : Code} (M : S → Prop) (h : AW P x (Eth (fun s' => ∃ s'', Wk s' s'' ∧ M s'') Q) s) (hy : ∀ s', M s' → AW P y Q s') : AW P (.seq x y) Q s :=
  AW.seq (h.mono fun e s' q => by
    cases e with
    | normal => obtain ⟨s'', hk, hm⟩ := q; exact (hy s'' hm).wk hk
    | _ => exact q)
theorem AW.loop {body : Code} {ι : Type} (I : ι → S → Prop) (m : ι → Nat) (i₀ : ι) (h₀ : ∃ s', Wk s s' ∧ I i₀ s')
    (round : ∀ i s, I i s → AW P body (Eth (fun s' => ∃ i' s'', Wk s' s'' ∧ m i' < m i ∧ I i' s'') Q) s) : AW P (.loop body) Q s := by
  obtain ⟨s0, hk0, hI0⟩ := h₀
  refine AW.wk hk0 ?_
  intro c a w g b k cs
  have key : ∀ n i s c a w, m i = n → I i s → Sat c s a w →
      ∃ e a' w', (∃ s' c', Q e s' ∧ Sat c' s' a' w' ∧ Ext c s.own w c' s'.own w') ∧ Arrives P (lone (b.at a (.code body :: .inLoop body :: k)) cs w) b k cs e a' w' := by
    intro n
    induction n using Nat.strongRecOn with
    | _ n ih =>
      intro i s c a w hn hI g
      obtain ⟨e, a₁, w₁, ⟨s1, c1, q, g1, x1⟩, harr⟩ := round i s hI c a w g b (.inLoop body :: k) cs
      cases e with
      | normal =>
        obtain ⟨i', s2, hk, hlt, hI'⟩ := q
        obtain ⟨c2, g2, x2⟩ := hk c1 a₁ w₁ g1
        obtain ⟨e₂, a₂, w₂, ⟨s3, c3, q3, g3, x3⟩, harr₂⟩ := ih (m i') (hn ▸ hlt) i' s2 c2 a₁ w₁ rfl hI' g2
        exact ⟨e₂, a₂, w₂, ⟨s3, c3, q3, g3, x1.trans (x2.trans x3)⟩, .of_steps (Steps.trans harr (.one step_inLoop)) harr₂⟩
      | exit id => exact ⟨_, a₁, w₁, ⟨s1, c1, q, g1, x1⟩, .pass (x := .inLoop body) rfl (fun _ _ => .inl (by simp)) harr⟩
      | goto l => exact ⟨_, a₁, w₁, ⟨s1, c1, q, g1, x1⟩, .pass (x := .inLoop body) rfl (fun _ _ => .inl (by simp)) harr⟩
      | ret => exact ⟨_, a₁, w₁, ⟨s1, c1, q, g1, x1⟩, .pass (x := .inLoop body) rfl (fun _ _ => .inl (by simp)) harr⟩
      | panic ch => exact ⟨_, a₁, w₁, ⟨s1, c1, q, g1, x1⟩, .pass (x := .inLoop body) rfl (fun _ _ => .inl (by simp)) harr⟩
      | outgrown => exact ⟨_, a₁, w₁, ⟨s1, c1, q, g1, x1⟩, .pass (x := .inLoop body) rfl (fun _ _ => .inl (by simp)) harr⟩
  obtain ⟨e, a', w', hq, harr⟩ := key _ i₀ s0 c a w rfl hI0 g
  exact ⟨e, a', w', hq, .of_steps (.one step_loop) harr⟩
end

/-! ### functions -/
def ownH (H : Heap) : Own
  | .e k => H k
  | .l _ => none
def Spec (P : Program) (f : FuncId) (args : List C) (H : Heap) (Q : X → Heap → Prop) : Prop :=
  ∀ (c : Ctx) (w : World) (vs : Array Value), Conc c (ownH H) w → Reps (RepC c.μ c.β) args vs.toList →
    Calls P f vs w fun e w' => ∃ v x H' c', e = .returned v ∧ Q x H' ∧ RepX c' x v ∧ Conc c' (ownH H') w' ∧ Ext c (ownH H) w c' (ownH H') w'
/-- a function that hands back a value and leaves all objects alone -/
def Pure (P : Program) (f : FuncId) (args : List C) (x : X) : Prop := ∀ H, Spec P f args H fun y H' => y = x ∧ H' = H
theorem Spec.mono {P : Program} {f : FuncId} {args : List C} {H : Heap} {Q Q' : X → Heap → Prop} (h : Spec P f args H Q) (hq : ∀ x H', Q x H' → Q' x H') : Spec P f args H Q' :=
  fun c w vs h1 h2 => (h c w vs h1 h2).mono fun _ _ ⟨v, x, H', c', e, q, r⟩ => ⟨v, x, H', c', e, hq _ _ q, r⟩

theorem Conc.sub {c : Ctx} {own own' : Own} {w : World} (h : Conc c own w) (hs : ∀ i x, own' i = some x → own i = some x) : Conc c own' w := by
  refine ⟨h.mem, fun i x hi he => h.obj i x (hs _ _ hi) he, fun i j x y b n m hi hj => h.inj i j x y b n m (hs _ _ hi) (hs _ _ hj), ?_⟩
  obtain ⟨N, hN⟩ := h.fin
  refine ⟨N, fun k hk => ⟨(hN k hk).1, ?_⟩⟩
  cases ho : own' (.e k) with
  | none => rfl
  | some x => have := hs _ _ ho; rw [(hN k hk).2] at this; cases this
theorem Ext.sub {c c' : Ctx} {own own' own'' : Own} {w w' : World} (h : Ext c own w c' own' w') (hs : ∀ i x, own'' i = some x → own' i = some x) : Ext c own w c' own'' w' :=
  ⟨h.os, h.tape, h.output, h.size, h.blk, h.mem, h.new, h.ext, fun i x b n hi => h.own i x b n (hs _ _ hi), h.base, fun k x hk => h.nm k x (hs _ _ hk)⟩
end Go.Proofs.Ytikcmjamioopbaa.E
/- Operations: one after the other, and in whatever order a region draws. Plain theorems, for any program. -/
namespace Go.Proofs.Ytikcmjamioopbaa.E
open Go.RowKit
set_option linter.unusedVariables false

section
variable {P : Program} {all : Array Oper} {s s' : S} {o : Oper} {K K' : S → Prop} {Q : Exit → S → Prop}
def opRun (P : Program) (all : Array Oper) (o : Oper) (a : Act) (w : World) (K : Act → World → Prop) : Prop :=
  if Region.wanted o (yielded all a.tmps) = true then o.wpIn Fence.wide 0 P a w K (fun _ _ _ => False) else K (a.put o.dst undef) w
theorem wp_weak {a : Act} {w : World} {K K' : Act → World → Prop} {Q' : Exit → Act → World → Prop} (h : o.wp P a w K (fun _ _ _ => False)) (hk : ∀ a w, K a w → K' a w) : o.wpIn Fence.wide 0 P a w K' Q' := by
  unfold Oper.wp at h
  refine ⟨fun _ _ => trivial, ?_⟩
  show o.uponIn Fence.wide 0 P a K' Q' ((execOp a.eval o).run P w)
  generalize (execOp a.eval o).run P w = r at *
  cases r with
  | ok n w' =>
    cases n <;> simp only [Oper.upon, Oper.uponIn] at h ⊢ <;>
      first
        | exact hk _ _ h
        | exact ⟨fun e => by simp [Fence.wide] at e, callsIn_wide.2 (Calls.mono h (fun e w'' he => by cases e <;> first | exact hk _ _ he | exact he.elim | (obtain ⟨_, _, h⟩ := he; exact h.elim)))⟩
        | exact ⟨fun e => by simp [Fence.wide] at e, fun c cs _ => let ⟨v, w', r, s⟩ := h c cs; ⟨v, w', hk _ _ r, stepsIn_wide.2 s⟩⟩
  | halt x w' => cases x <;> simp only [Oper.upon, Oper.uponIn] at h ⊢
theorem wp_to {a : Act} {w : World} {K : Act → World → Prop} {Q' : Exit → Act → World → Prop} (h : o.wp P a w K (fun _ _ _ => False)) : o.wpIn Fence.wide 0 P a w K Q' := wp_weak h fun _ _ h => h
theorem wp_weak0 {a : Act} {w : World} {K K' : Act → World → Prop} {Q' : Exit → Act → World → Prop} (h : o.wp P a w K (fun _ _ _ => False)) (hk : ∀ a w, K a w → K' a w) : o.wp P a w K' Q' := by
  unfold Oper.wp at *
  generalize (execOp a.eval o).run P w = r at *
  cases r with
  | ok n w' =>
    cases n <;> simp only [Oper.upon] at h ⊢ <;>
      first
        | exact hk _ _ h
        | exact Calls.mono h (fun e w'' he => by cases e <;> first | exact hk _ _ he | exact he.elim | (obtain ⟨_, _, h⟩ := he; exact h.elim))
        | exact Rows.mono h (fun _ _ he => hk _ _ he)
  | halt x w' => cases x <;> simp only [Oper.upon] at h ⊢
theorem wpIn_weak {F : Fence} {n : Nat} {a : Act} {w : World} {K K' : Act → World → Prop} {Q' : Exit → Act → World → Prop} (h : o.wpIn F n P a w K (fun _ _ _ => False)) (hk : ∀ a w, K a w → K' a w) : o.wpIn F n P a w K' Q' := by
  unfold Oper.wpIn at *
  refine ⟨h.1, ?_⟩
  have h := h.2
  generalize (o.semAt F.round a.eval).run P w = r at *
  cases r with
  | ok n w' =>
    cases n <;> simp only [Oper.uponIn] at h ⊢ <;>
      first
        | exact hk _ _ h
        | exact ⟨h.1, CallsIn.mono h.2 (fun e w'' he => by cases e <;> first | exact hk _ _ he | exact he.elim | (obtain ⟨_, _, h⟩ := he; exact h.elim))⟩
        | exact ⟨h.1, RowsIn.mono h.2 (fun _ _ he => hk _ _ he)⟩
        | exact ⟨h.1, RoundIn.mono h.2 (fun e w'' he => by cases e <;> first | exact hk _ _ he | exact he.elim | (obtain ⟨_, _, h⟩ := he; exact h.elim))⟩
  | halt x w' => cases x <;> simp only [Oper.uponIn] at h ⊢
theorem opRun_mono {a : Act} {w : World} {K K' : Act → World → Prop} (h : opRun P all o a w K) (hk : ∀ a w, K a w → K' a w) : opRun P all o a w K' := by
  unfold opRun at *
  split
  · rename_i hw; rw [if_pos hw] at h; exact wpIn_weak h hk
  · rename_i hw; rw [if_neg hw] at h; exact hk _ _ h
/-- the operation takes s to a state that K is true of -/
def OpW (P : Program) (all : Array Oper) (o : Oper) (K : S → Prop) (s : S) : Prop :=
  ∀ c a w, Sat c s a w → opRun P all o a w fun a' w' => ∃ s' c', K s' ∧ Sat c' s' a' w' ∧ Ext c s.own w c' s'.own w'
theorem OpW.mono (h : OpW P all o K s) (hk : ∀ s', K s' → K' s') : OpW P all o K' s :=
  fun c a w g => opRun_mono (h c a w g) fun _ _ ⟨s', c', k, r⟩ => ⟨s', c', hk _ k, r⟩
theorem OpW.wk {s0 : S} (hw : Wk s0 s) (h : OpW P all o K s) : OpW P all o K s0 := fun c a w g => by
  obtain ⟨c1, g1, x1⟩ := hw c a w g
  exact opRun_mono (h c1 a w g1) fun _ _ ⟨s', c', k, g', x'⟩ => ⟨s', c', k, g', x1.trans x'⟩
def SeqK (P : Program) (all : Array Oper) (K : S → Prop) : List Oper → S → Prop
  | [], s => K s
  | o :: rest, s => OpW P all o (SeqK P all K rest) s
theorem SeqK.wk {l : List Oper} (hK : ∀ s s', Wk s s' → K s' → K s) {s0 : S} (hw : Wk s0 s) (h : SeqK P all K l s) : SeqK P all K l s0 := by
  cases l with
  | nil => exact hK _ _ hw h
  | cons o l => exact OpW.wk hw h
theorem wpOps_of_seq {Q' : Exit → Act → World → Prop} {c0 : Ctx} {own0 : Own} {w0 : World} (hQ : ∀ s c a w, K s → Sat c s a w → Ext c0 own0 w0 c s.own w → Q' .normal a w) :
    ∀ (l : List Oper) (k : Nat) (s : S) (c : Ctx) (a : Act) (w : World), (∀ j, l[j]? = all[k + j]?) → SeqK P all K l s → Sat c s a w → Ext c0 own0 w0 c s.own w → wpOpsIn Fence.wide 0 P all Q' (List.range' k l.length) a w
  | [], k, s, c, a, w, _, h, g, x => hQ s c a w h g x
  | o :: l, k, s, c, a, w, hl, h, g, x => by
    have h0 : all[k]? = some o := by simpa using (hl 0).symm
    rw [List.length_cons, List.range'_succ, wpOpsIn_cons]
    unfold wpOpIn
    rw [h0]
    have h1 := h c a w g
    unfold opRun at h1
    have go : ∀ a' w', (∃ s' c', SeqK P all K l s' ∧ Sat c' s' a' w' ∧ Ext c s.own w c' s'.own w') → wpOpsIn Fence.wide 0 P all Q' (List.range' (k + 1) l.length) a' w' :=
      fun a' w' ⟨s', c', h', g', x'⟩ => wpOps_of_seq hQ l (k + 1) s' c' a' w' (fun j => by have := hl (j + 1); simpa [Nat.add_assoc, Nat.add_comm 1 j] using this) h' g' (x.trans x')
    simp only []
    split
    · rename_i hw; rw [if_pos hw] at h1; exact wpIn_weak h1 go
    · rename_i hw; rw [if_neg hw] at h1; exact ⟨fun _ _ => trivial, go _ _ h1⟩
/-- a region whose order is the text's -/
theorem seq_start {l : List Oper} (h : SeqK P l.toArray (Q .normal) l s) {c : Ctx} {a : Act} {w : World} (g : Sat c s a w) : wpOpsIn Fence.wide 0 P l.toArray (fun e a' w' => ∃ s' c', Q e s' ∧ Sat c' s' a' w' ∧ Ext c s.own w c' s'.own w') (List.range l.toArray.size) a w := by
  have := wpOps_of_seq (P := P) (all := l.toArray) (Q' := fun e a' w' => ∃ s' c', Q e s' ∧ Sat c' s' a' w' ∧ Ext c s.own w c' s'.own w') (fun s' c' a' w' k g' x' => ⟨s', c', k, g', x'⟩) l 0 s c a w (by simp) h g (.refl _ _ _)
  rw [List.range_eq_range']
  simpa using this
theorem AW.reg {id : Nat} {l : List Oper} (h : SeqK P l.toArray (Q .normal) l s) : AW P (.region id l.toArray false) Q s := fun c a w g => (wpIn_wide (n := 0)).1 (wpIn_region (seq_start h g))
end

/-! ### places of a state -/
inductive Loc where
  | t (i : Nat)
  | b (d : Nat)
  | h
  deriving DecidableEq
def Same : Loc → S → S → Prop
  | .t i, s, s' => s.t i = s'.t i
  | .b d, s, s' => s.L d = s'.L d
  | .h, s, s' => s.H = s'.H
theorem Same.refl (ℓ : Loc) (s : S) : Same ℓ s s := by cases ℓ <;> rfl
theorem Same.symm {ℓ : Loc} {s s' : S} (h : Same ℓ s s') : Same ℓ s' s := by cases ℓ <;> exact Eq.symm h
theorem Same.trans {ℓ : Loc} {s s' s'' : S} (h : Same ℓ s s') (k : Same ℓ s' s'') : Same ℓ s s'' := by cases ℓ <;> exact Eq.trans h k
def Len (s s' : S) : Prop := s.n = s'.n
theorem S.ext' {s s' : S} (hn : Len s s') (h : ∀ ℓ, Same ℓ s s') : s = s' := by
  cases s; cases s'
  have h1 := funext fun i => h (.t i)
  have h2 := funext fun i => h (.b i)
  have h3 := h .h
  simp only [Same, Len] at hn h1 h2 h3
  subst hn h1 h2 h3; rfl
/-- s, but at the places W as s' -/
def S.over (W : List Loc) (s s' : S) : S :=
  { n := s.n
    t := fun i => if Loc.t i ∈ W then s'.t i else s.t i
    L := fun i => if Loc.b i ∈ W then s'.L i else s.L i
    H := if Loc.h ∈ W then s'.H else s.H }
theorem over_len (W : List Loc) (s s' : S) : Len (s.over W s') s := rfl
theorem over_in {W : List Loc} {s s' : S} {ℓ : Loc} (h : ℓ ∈ W) : Same ℓ (s.over W s') s' := by
  cases ℓ <;> simp [Same, S.over, h]
theorem over_out {W : List Loc} {s s' : S} {ℓ : Loc} (h : ℓ ∉ W) : Same ℓ (s.over W s') s := by
  cases ℓ <;> simp [Same, S.over, h]
/-- an operation that looks at the places R alone and turns the places W alone -/
structure LOp (P : Program) (all : Array Oper) (o : Oper) (R W : List Loc) (s s' : S) : Prop where
  len : Len s' s
  out : ∀ ℓ, ℓ ∉ W → Same ℓ s' s
  run : ∀ s1, Len s1 s → (∀ ℓ, ℓ ∈ R → Same ℓ s1 s) → OpW P all o (fun s2 => s2 = s1.over W s') s1
theorem LOp.opW {P : Program} {all : Array Oper} {o : Oper} {R W : List Loc} {s s' : S} (h : LOp P all o R W s s') {K : S → Prop} (k : K s') : OpW P all o K s := by
  refine (h.run s rfl fun ℓ _ => .refl _ _).mono fun s2 e => ?_
  have : s.over W s' = s' := S.ext' h.len.symm fun ℓ => by
    by_cases hl : ℓ ∈ W
    · exact over_in hl
    · exact (over_out hl).trans (h.out ℓ hl).symm
  rw [e, this]; exact k
theorem SeqK.step {P : Program} {all : Array Oper} {o : Oper} {R W : List Loc} {s s' : S} {K : S → Prop} {rest : List Oper} (h : LOp P all o R W s s') (k : SeqK P all K rest s') : SeqK P all K (o :: rest) s := h.opW k

/-! ### whatever order is drawn -/
abbrev Fp := List Loc × List Loc
def conflict (f g : Fp) : Bool := f.2.any (fun l => g.1.contains l || g.2.contains l) || f.1.any (g.2.contains ·)
def waits (all : Array Oper) (j i : Nat) : Bool := (all.getD j default).after.any fun e => Region.binds .any e && e.on == i
def reach (all : Array Oper) : Nat → Nat → Nat → Bool
  | 0, _, _ => false
  | n + 1, j, i => waits all j i || (all.getD j default).after.any fun e => Region.binds .any e && reach all n e.on i
def ahead (all : Array Oper) (j : Nat) : Bool := (all.getD j default).after.all fun e => !Region.binds .any e || decide (e.on < j)
def okFp (all : Array Oper) (p : Nat) (fps : List Fp) : Bool :=
  (List.range fps.length).all fun j => ahead all (p + j) && (List.range j).all fun i => !conflict (fps.getD i ([], [])) (fps.getD j ([], [])) || reach all 8 (p + j) (p + i)
def okBar (all : Array Oper) (p m : Nat) : Bool := ahead all m && (List.range' p (m - p)).all (fun i => reach all 8 m i) && (List.range' (m + 1) (all.size - (m + 1))).all (fun j => reach all 8 j m)
def LexK (P : Program) (all : Array Oper) (K : S → Prop) : List Oper → S → Nat → List Fp → Prop
  | [], s, p, fp => okFp all p fp = true ∧ K s
  | o :: rest, s, p, fp => (∃ R W s', LOp P all o R W s s' ∧ LexK P all K rest s' p (fp ++ [(R, W)])) ∨
    (okFp all p fp = true ∧ okBar all p (p + fp.length) = true ∧ OpW P all o (fun s' => LexK P all K rest s' (p + fp.length + 1) []) s)

section
variable {P : Program} {all : Array Oper} {K : S → Prop} {s s' : S} {p : Nat} {fp : List Fp} {o : Oper} {rest : List Oper}
theorem LexK.nil (h : okFp all p fp = true) (k : K s) : LexK P all K [] s p fp := ⟨h, k⟩
theorem LexK.cons {R W : List Loc} (h : LOp P all o R W s s') (k : LexK P all K rest s' p (fp ++ [(R, W)])) : LexK P all K (o :: rest) s p fp := .inl ⟨R, W, s', h, k⟩
theorem LexK.bar (h : okFp all p fp = true) (hb : okBar all p (p + fp.length) = true) (k : OpW P all o (fun s' => LexK P all K rest s' (p + fp.length + 1) []) s) : LexK P all K (o :: rest) s p fp := .inr ⟨h, hb, k⟩
theorem LexK.get : ∀ (l : List Oper) (s : S) (p : Nat) (fp : List Fp), LexK P all K l s p fp → ∃ (f : List Fp) (sq : Nat → S), sq 0 = s ∧ f.length ≤ l.length ∧
    (∀ i, i < f.length → ∃ o, l[i]? = some o ∧ LOp P all o (f.getD i ([], [])).1 (f.getD i ([], [])).2 (sq i) (sq (i + 1))) ∧ okFp all p (fp ++ f) = true ∧
    ((f.length = l.length ∧ K (sq f.length)) ∨ (okBar all p (p + fp.length + f.length) = true ∧ ∃ o, l[f.length]? = some o ∧ OpW P all o (fun s' => LexK P all K (l.drop (f.length + 1)) s' (p + fp.length + f.length + 1) []) (sq f.length)))
  | [], s, p, fp, h => ⟨[], fun _ => s, rfl, Nat.le_refl _, fun i hi => absurd hi (Nat.not_lt_zero i), by simpa using h.1, .inl ⟨rfl, h.2⟩⟩
  | o :: rest, s, p, fp, h => by
    rcases h with ⟨R, W, s', h, k⟩ | ⟨h, hb, k⟩
    · obtain ⟨f, sq, h0, h1, h2, h3, h4⟩ := LexK.get rest s' p _ k
      refine ⟨(R, W) :: f, fun i => if i = 0 then s else sq (i - 1), rfl, by simpa using h1, fun i hi => ?_, by simpa using h3, ?_⟩
      · cases i with
        | zero => exact ⟨o, rfl, by simpa [h0] using h⟩
        | succ i =>
          obtain ⟨o', h5, h6⟩ := h2 i (by simpa using hi)
          exact ⟨o', by simpa using h5, by simpa using h6⟩
      · rcases h4 with ⟨h5, h6⟩ | ⟨h6, o', h7, h8⟩
        · exact .inl ⟨by simpa using h5, by simpa using h6⟩
        · have e : p + (fp ++ [(R, W)]).length + f.length = p + fp.length + ((R, W) :: f).length := by simp; omega
          rw [e] at h6 h8
          exact .inr ⟨h6, o', by simpa using h7, by simpa using h8⟩
    · exact ⟨[], fun _ => s, rfl, Nat.zero_le _, fun i hi => absurd hi (Nat.not_lt_zero i), by simpa using h, .inr ⟨by simpa using hb, o, rfl, by simpa using k⟩⟩
end

section
variable {P : Program} {all : Array Oper} {K : S → Prop}
theorem conflict_of {f g : Fp} (h : conflict f g = false) {l : Loc} : (l ∈ f.2 → l ∉ g.1 ∧ l ∉ g.2) ∧ (l ∈ f.1 → l ∉ g.2) := by
  simp only [conflict, Bool.or_eq_false_iff, List.any_eq_false] at h
  constructor
  · intro hl; have := h.1 l hl; simpa using this
  · intro hl; have := h.2 l hl; simpa using this
theorem cnt_set : ∀ (l : List Bool) (i : Nat), l[i]? = some false → (l.set i true).count false + 1 = l.count false
  | [], i, h => by simp at h
  | b :: l, 0, h => by simp at h; subst h; simp
  | b :: l, i + 1, h => by
    have := cnt_set l i (by simpa using h)
    simp only [List.set_cons_succ, List.count_cons]
    omega
/-- the places as they stand when the operations Lm have been carried out, of the k from p on -/
def stand (p : Nat) (sq : Nat → S) (f : List Fp) (Lm : Array Bool) : Nat → S
  | 0 => sq 0
  | i + 1 => if Lm.getD (p + i) false = true then (stand p sq f Lm i).over (f.getD i ([], [])).2 (sq (i + 1)) else stand p sq f Lm i
theorem stand_len {p : Nat} {sq : Nat → S} {f : List Fp} {Lm : Array Bool} : ∀ k, Len (stand p sq f Lm k) (sq 0)
  | 0 => rfl
  | k + 1 => by
    simp only [stand]
    split
    · exact (over_len (f.getD k ([], [])).2 (stand p sq f Lm k) (sq (k + 1))).trans (stand_len k)
    · exact stand_len k
variable {p : Nat} {sq : Nat → S} {f : List Fp}
abbrev Steps' (P : Program) (all : Array Oper) (p : Nat) (sq : Nat → S) (f : List Fp) : Prop := ∀ i, i < f.length → ∃ o, all[p + i]? = some o ∧ LOp P all o (f.getD i ([], [])).1 (f.getD i ([], [])).2 (sq i) (sq (i + 1))
theorem sq_len (hL : Steps' P all p sq f) : ∀ k, k ≤ f.length → Len (sq k) (sq 0)
  | 0, _ => rfl
  | k + 1, h => by
    obtain ⟨o, _, ho⟩ := hL k (by omega)
    exact ho.len.trans (sq_len hL k (by omega))
theorem okFp_at {fps : List Fp} (h : okFp all p fps = true) {j : Nat} (hj : j < fps.length) : ahead all (p + j) = true ∧ ∀ i, i < j → conflict (fps.getD i ([], [])) (fps.getD j ([], [])) = false ∨ reach all 8 (p + j) (p + i) = true := by
  simp only [okFp, List.all_eq_true, List.mem_range, Bool.and_eq_true, Bool.or_eq_true, Bool.not_eq_true'] at h
  exact h j hj
def shut (all : Array Oper) (Lm : Array Bool) : Prop := ∀ j, Lm.getD j false = true → ∀ i, waits all j i = true → Lm.getD i false = true
theorem waits_of {j : Nat} {e : Edge} (he : e ∈ (all.getD j default).after) (hb : Region.binds .any e = true) : waits all j e.on = true := by
  unfold waits
  rw [Array.any_eq_true']
  exact ⟨e, he, by simp [hb]⟩
theorem reach_pre {Lm : Array Bool} (hs : shut all Lm) : ∀ (n j i : Nat), (∀ i, waits all j i = true → Lm.getD i false = true) → reach all n j i = true → Lm.getD i false = true
  | 0, _, _, _, h => by cases h
  | n + 1, j, i, hp, h => by
    simp only [reach, Bool.or_eq_true, Array.any_eq_true', Bool.and_eq_true] at h
    rcases h with h | ⟨e, he, hb, hr⟩
    · exact hp i h
    · exact reach_pre hs n e.on i (hs _ (hp _ (waits_of he hb))) hr
theorem reach_shut {Lm : Array Bool} (hs : shut all Lm) {n j i : Nat} (hj : Lm.getD j false = true) (h : reach all n j i = true) : Lm.getD i false = true := reach_pre hs n j i (hs j hj) h
theorem stand_same (hL : Steps' P all p sq f) {Lm : Array Bool} {ℓ : Loc} :
    ∀ k, k ≤ f.length → (∀ i, i < k → ℓ ∈ (f.getD i ([], [])).2 → Lm.getD (p + i) false = true) → Same ℓ (stand p sq f Lm k) (sq k)
  | 0, _, _ => .refl _ _
  | k + 1, hk, h => by
    obtain ⟨o, _, ho⟩ := hL k (by omega)
    simp only [stand]
    by_cases hw : ℓ ∈ (f.getD k ([], [])).2
    · rw [if_pos (h k (by omega) hw)]
      exact over_in hw
    · have ih := stand_same hL k (by omega) (fun i hi => h i (by omega)) (ℓ := ℓ)
      split
      · exact (over_out hw).trans (ih.trans (ho.out ℓ hw).symm)
      · exact ih.trans (ho.out ℓ hw).symm
theorem stand_later {Lm : Array Bool} {ℓ : Loc} {j : Nat} : ∀ k, j ≤ k → (∀ i, j ≤ i → i < k → ℓ ∈ (f.getD i ([], [])).2 → Lm.getD (p + i) false = false) → Same ℓ (stand p sq f Lm k) (stand p sq f Lm j)
  | 0, hk, h => by obtain rfl : j = 0 := by omega
                   exact .refl _ _
  | k + 1, hk, h => by
    by_cases e : j = k + 1
    · subst e; exact .refl _ _
    · simp only [stand]
      have ih := stand_later (Lm := Lm) (ℓ := ℓ) (j := j) k (by omega) (fun i h1 h2 => h i h1 (by omega))
      split
      · rename_i hl
        refine (over_out fun hw => ?_).trans ih
        rw [h k (by omega) (by omega) hw] at hl; cases hl
      · exact ih
theorem getD_set_self {Lm : Array Bool} {j : Nat} (h : j < Lm.size) : (Lm.setIfInBounds j true).getD j false = true := by simp [h]
theorem draw_key {n : Nat} (hn : all.size = n) (hfn : p + f.length ≤ n) (hL : Steps' P all p sq f) (ok : okFp all p f = true)
    {Q' : Exit → Act → World → Prop} {c0 : Ctx} {own0 : Own} {w0 : World}
    (hend : (p + f.length = n ∧ ∀ c a w, Sat c (sq f.length) a w → Ext c0 own0 w0 c (sq f.length).own w → Q' .normal a w) ∨
      (okBar all p (p + f.length) = true ∧ ∃ o, all[p + f.length]? = some o ∧ ∀ c a w, Sat c (sq f.length) a w → Ext c0 own0 w0 c (sq f.length).own w → opRun P all o a w fun a' w' =>
        ∀ (fuel : Nat) (Lm : Array Bool), Lm.size = n → Lm.toList.count false = fuel → (∀ i, i < p + f.length + 1 → Lm.getD i false = true) → (∀ i, p + f.length + 1 ≤ i → Lm.getD i false = false) → wpAnyIn Fence.wide 0 P .any all Q' fuel Lm a' w')) :
    ∀ (fuel : Nat) (Lm : Array Bool) (c : Ctx) (a : Act) (w : World), Lm.size = n → Lm.toList.count false = fuel → shut all Lm → (∀ i, i < p → Lm.getD i false = true) → (∀ j, p + f.length ≤ j → Lm.getD j false = false) →
      Sat c (stand p sq f Lm f.length) a w → Ext c0 own0 w0 c (stand p sq f Lm f.length).own w → wpAnyIn Fence.wide 0 P .any all Q' fuel Lm a w := by
  have getlt : ∀ {Lm : Array Bool} {j : Nat}, Lm.getD j true = false → j < Lm.size := fun {Lm j} h => by
    rcases Nat.lt_or_ge j Lm.size with h' | h'
    · exact h'
    · simp [Array.getElem?_eq_none h'] at h
  have ready_iff : ∀ {Lm : Array Bool} {j : Nat}, j ∈ Region.ready .any all Lm → Lm.getD j true = false ∧ ∀ i, waits all j i = true → Lm.getD i false = true := by
    intro Lm j hj
    obtain ⟨h0, o, ho, hall⟩ := mem_ready.1 hj
    refine ⟨h0, fun i hi => ?_⟩
    have : all.getD j default = o := by simp [ho]
    unfold waits at hi
    rw [this, Array.any_eq_true] at hi
    obtain ⟨q, hq, hi⟩ := hi
    simp only [Bool.and_eq_true, beq_iff_eq] at hi
    have := hall _ (Array.getElem_mem hq) hi.1
    rwa [hi.2] at this
  have ready_of : ∀ {Lm : Array Bool} {j : Nat}, Lm.size = n → j < n → Lm.getD j true = false → ahead all j = true → (∀ i, i < j → Lm.getD i false = true) → j ∈ Region.ready .any all Lm := by
    intro Lm j hs hj h0 ha hb
    refine mem_ready.2 ⟨h0, all[j]'(by omega), Array.getElem?_eq_getElem (by omega), fun e he hbnd => ?_⟩
    have : all.getD j default = all[j]'(by omega) := by simp [show j < all.size by omega]
    unfold ahead at ha
    rw [this] at ha
    have h1 := Array.all_eq_true_iff_forall_mem.1 ha e he
    simp only [hbnd, Bool.not_true, Bool.false_or, decide_eq_true_eq] at h1
    exact hb _ h1
  have count0 : ∀ {Lm : Array Bool} {j : Nat}, Lm.toList.count false = 0 → Lm.getD j true ≠ false := by
    intro Lm j hc h
    have hj := getlt h
    have hm : false ∈ Lm.toList := by
      have : Lm[j] = false := by simpa [hj] using h
      rw [← this]; simp
    exact absurd (List.count_pos_iff.2 hm) (by omega)
  have done : ∀ (fuel : Nat) (Lm : Array Bool) (a : Act) (w : World), Lm.toList.count false = 0 → Q' .normal a w → wpAnyIn Fence.wide 0 P .any all Q' fuel Lm a w := by
    intro fuel Lm a w hc hq
    have hr : Region.ready .any all Lm = [] := by
      cases hr : Region.ready .any all Lm with
      | nil => rfl
      | cons j r =>
        have hj : j ∈ Region.ready .any all Lm := by rw [hr]; simp
        exact absurd (ready_iff hj).1 (count0 hc)
    cases fuel with
    | zero => exact ⟨hr, hq⟩
    | succ fuel => exact ⟨fun _ => hq, fun i hi => by rw [hr] at hi; cases hi⟩
  have barfacts : okBar all p (p + f.length) = true → ahead all (p + f.length) = true ∧ (∀ i, p ≤ i → i < p + f.length → reach all 8 (p + f.length) i = true) ∧ (∀ j, p + f.length < j → j < n → reach all 8 j (p + f.length) = true) := by
    intro h
    simp only [okBar, Bool.and_eq_true, List.all_eq_true, List.mem_range'] at h
    refine ⟨h.1.1, fun i h1 h2 => h.1.2 i ⟨i - p, by omega, by omega⟩, fun j h1 h2 => h.2 j ⟨j - (p + f.length + 1), by omega, by omega⟩⟩
  intro fuel
  induction fuel with
  | zero =>
    intro Lm c a w hs hc hsh hpre hlast g x
    refine done 0 Lm a w hc ?_
    have hall : ∀ i, i < n → Lm.getD i false = true := fun i hi => by
      have := count0 (j := i) hc
      cases h : Lm[i]? with
      | none => simp at h; omega
      | some b => cases b <;> simp [h] at this ⊢
    have hfull : p + f.length = n := by
      rcases Nat.lt_or_ge (p + f.length) n with h | h
      · have := hlast (p + f.length) (Nat.le_refl _); rw [hall _ h] at this; cases this
      · omega
    have e : stand p sq f Lm f.length = sq f.length := S.ext' ((stand_len _).trans (sq_len hL _ (Nat.le_refl _)).symm) fun ℓ => stand_same hL _ (Nat.le_refl _) fun i hi _ => hall (p + i) (by omega)
    rw [e] at g x
    rcases hend with ⟨_, k⟩ | ⟨_, o, ho, _⟩
    · exact k _ _ _ g x
    · have := (Array.getElem?_eq_some_iff.1 ho).1; omega
  | succ fuel ih =>
    intro Lm c a w hs hc hsh hpre hlast g x
    have some_unlisted : ∃ j, j < n ∧ Lm.getD j true = false := by
      have hm : false ∈ Lm.toList := List.count_pos_iff.1 (by omega)
      obtain ⟨j, hj⟩ := List.getElem?_of_mem hm
      have hj' : Lm[j]? = some false := by simpa using hj
      refine ⟨j, ?_, by simp [hj']⟩
      have := (Array.getElem?_eq_some_iff.1 hj').1
      omega
    have setfacts : ∀ {j : Nat}, Lm.getD j true = false → (Lm.setIfInBounds j true).size = n ∧ (Lm.setIfInBounds j true).toList.count false = fuel := by
      intro j hj
      have hlt := getlt hj
      refine ⟨by simpa using hs, ?_⟩
      have h1 : Lm.toList[j]? = some false := by
        have : Lm[j] = false := by simpa [hlt] using hj
        rw [Array.getElem?_toList, Array.getElem?_eq_getElem hlt, this]
      have := cnt_set Lm.toList j h1
      rw [Array.toList_setIfInBounds]
      omega
    have unl : ∀ {j : Nat}, j < n → Lm.getD j true = false → Lm.getD j false = false := fun {j} hj h => by
      have hlt : j < Lm.size := by omega
      simpa [hlt] using h
    refine ⟨fun hr => ?_, fun j hj => ?_⟩
    · -- nothing is ready, yet one is not listed: the least of these is ready
      exfalso
      obtain ⟨j, hjn, hj⟩ := some_unlisted
      have least : ∀ m, (∃ j, j < m ∧ Lm.getD j true = false) → ∃ j, j < m ∧ Lm.getD j true = false ∧ ∀ i, i < j → Lm.getD i true = true := by
        intro m
        induction m with
        | zero => rintro ⟨j, h, _⟩; omega
        | succ m ihm =>
          rintro ⟨j, h1, h2⟩
          by_cases he : ∃ j, j < m ∧ Lm.getD j true = false
          · obtain ⟨i, h3, h4, h5⟩ := ihm he
            exact ⟨i, by omega, h4, h5⟩
          · have : j = m := by
              rcases Nat.lt_or_ge j m with h | h
              · exact absurd ⟨j, h, h2⟩ he
              · omega
            subst this
            exact ⟨j, by omega, h2, fun i hi => by
              cases h : Lm.getD i true with
              | true => rfl
              | false => exact absurd ⟨i, hi, h⟩ he⟩
      obtain ⟨i, h1, h2, h3⟩ := least n ⟨j, hjn, hj⟩
      have h3' : ∀ q, q < i → Lm.getD q false = true := fun q hq => by
        have h4 := h3 q hq
        have : q < Lm.size := by omega
        simpa [this] using h4
      have hip : p ≤ i := by
        rcases Nat.lt_or_ge i p with h | h
        · have := hpre i h; rw [unl h1 h2] at this; cases this
        · exact h
      have hah : ahead all i = true := by
        rcases Nat.lt_or_ge i (p + f.length) with h | h
        · have := (okFp_at ok (j := i - p) (by omega)).1
          rwa [show p + (i - p) = i by omega] at this
        · rcases hend with ⟨h5, _⟩ | ⟨h6, _⟩
          · omega
          · have : i = p + f.length := by
              rcases Nat.lt_or_ge (p + f.length) i with h7 | h7
              · have h8 := h3' (p + f.length) h7
                rw [hlast _ (Nat.le_refl _)] at h8; cases h8
              · omega
            subst this
            exact (barfacts h6).1
      have := ready_of hs h1 h2 hah h3'
      rw [hr] at this; cases this
    · obtain ⟨hun, hwt⟩ := ready_iff hj
      have hjn : j < n := by have := getlt hun; omega
      obtain ⟨hs1, hc1⟩ := setfacts hun
      have hunf := unl hjn hun
      have hjp : p ≤ j := by
        rcases Nat.lt_or_ge j p with h | h
        · have := hpre j h; rw [hunf] at this; cases this
        · exact h
      have hrch : ∀ {i}, reach all 8 j i = true → Lm.getD i false = true := fun h => reach_pre hsh 8 j _ hwt h
      have hsh1 : shut all (Lm.setIfInBounds j true) := by
        intro q hq i hi
        by_cases hqj : j = q
        · subst hqj; exact getD_set_true (hwt i hi)
        · rw [getD_set_ne false hqj] at hq
          exact getD_set_true (hsh q hq i hi)
      rcases Nat.lt_or_ge j (p + f.length) with hjf | hjf
      · obtain ⟨q, rfl⟩ : ∃ q, j = p + q := ⟨j - p, by omega⟩
        have hqf : q < f.length := by omega
        obtain ⟨o, ho, hop⟩ := hL q hqf
        obtain ⟨_, hcf⟩ := okFp_at ok hqf
        have nolater : ∀ i, q < i → i < f.length → Lm.getD (p + i) false = true → conflict (f.getD q ([], [])) (f.getD i ([], [])) = false := by
          intro i h1 h2 h3
          rcases (okFp_at ok h2).2 q h1 with h | h
          · exact h
          · have := reach_shut hsh h3 h; rw [hunf] at this; cases this
        -- what it looks at stands as in the text's order
        have hread : ∀ ℓ, ℓ ∈ (f.getD q ([], [])).1 → Same ℓ (stand p sq f Lm f.length) (sq q) := by
          intro ℓ hℓ
          refine (stand_later (j := q) f.length (by omega) fun i h1 h2 hw => ?_).trans (stand_same hL q (by omega) fun i hi hw => ?_)
          · by_cases hij : i = q
            · subst hij; exact hunf
            · cases h3 : Lm.getD (p + i) false with
              | false => rfl
              | true =>
                have := (conflict_of (nolater i (by omega) h2 h3) (l := ℓ)).2 hℓ
                exact absurd hw this
          · rcases hcf i hi with h | h
            · exact absurd hℓ ((conflict_of h (l := ℓ)).1 hw).1
            · exact hrch h
        have hlen : Len (stand p sq f Lm f.length) (sq q) := (stand_len _).trans (sq_len hL q (by omega)).symm
        have hafter : (stand p sq f Lm f.length).over (f.getD q ([], [])).2 (sq (q + 1)) = stand p sq f (Lm.setIfInBounds (p + q) true) f.length := by
          refine S.ext' ((over_len _ _ _).trans ((stand_len _).trans (stand_len _).symm)) fun ℓ => ?_
          by_cases hw : ℓ ∈ (f.getD q ([], [])).2
          · refine (over_in hw).trans ?_
            refine Same.symm ((stand_later (j := q + 1) f.length (by omega) fun i h1 h2 hwi => ?_).trans ?_)
            · rw [getD_set_ne false (by omega)]
              cases h3 : Lm.getD (p + i) false with
              | false => rfl
              | true =>
                have := ((conflict_of (nolater i (by omega) h2 h3) (l := ℓ)).1 hw).2
                exact absurd hwi this
            · refine stand_same hL (q + 1) (by omega) fun i hi hwi => ?_
              by_cases hij : i = q
              · subst hij; exact getD_set_self (by omega)
              · refine getD_set_true ?_
                rcases hcf i (by omega) with h | h
                · exact absurd hw ((conflict_of h (l := ℓ)).1 hwi).2
                · exact hrch h
          · refine (over_out hw).trans ?_
            have key : ∀ k, Same ℓ (stand p sq f Lm k) (stand p sq f (Lm.setIfInBounds (p + q) true) k) := by
              intro k
              induction k with
              | zero => exact .refl _ _
              | succ k ihk =>
                simp only [stand]
                by_cases hkj : k = q
                · subst hkj
                  rw [if_neg (by rw [hunf]; simp), if_pos (getD_set_self (by omega))]
                  exact ihk.trans (over_out hw).symm
                · rw [getD_set_ne false (by omega)]
                  split
                  · by_cases hwk : ℓ ∈ (f.getD k ([], [])).2
                    · exact (over_in hwk).trans (over_in hwk).symm
                    · exact (over_out hwk).trans (ihk.trans (over_out hwk).symm)
                  · exact ihk
            exact key f.length
        have hrun := hop.run _ hlen hread c a w g
        unfold wpOpIn
        rw [ho]
        have go : ∀ a' w', (∃ s' c', s' = (stand p sq f Lm f.length).over (f.getD q ([], [])).2 (sq (q + 1)) ∧ Sat c' s' a' w' ∧ Ext c (stand p sq f Lm f.length).own w c' s'.own w') → wpAnyIn Fence.wide 0 P .any all Q' fuel (Lm.setIfInBounds (p + q) true) a' w' := by
          rintro a' w' ⟨s', c', rfl, g', x'⟩
          rw [hafter] at g' x'
          exact ih _ c' a' w' hs1 hc1 hsh1 (fun i hi => getD_set_true (hpre i hi)) (fun i hi => by rw [getD_set_ne false (by omega)]; exact hlast i hi) g' (x.trans x')
        unfold opRun at hrun
        simp only []
        split
        · rename_i hw; rw [if_pos hw] at hrun; exact wpIn_weak hrun go
        · rename_i hw; rw [if_neg hw] at hrun; exact ⟨fun _ _ => trivial, go _ _ hrun⟩
      · rcases hend with ⟨h5, _⟩ | ⟨h6, o, ho, hk⟩
        · omega
        · obtain ⟨_, hb1, hb2⟩ := barfacts h6
          obtain rfl : j = p + f.length := by
            rcases Nat.lt_or_ge (p + f.length) j with h7 | h7
            · have := hrch (hb2 j h7 hjn)
              rw [hlast _ (Nat.le_refl _)] at this; cases this
            · omega
          have hall : ∀ i, i < p + f.length → Lm.getD i false = true := fun i hi => by
            rcases Nat.lt_or_ge i p with h | h
            · exact hpre i h
            · exact hrch (hb1 i h hi)
          have e : stand p sq f Lm f.length = sq f.length := S.ext' ((stand_len _).trans (sq_len hL _ (Nat.le_refl _)).symm) fun ℓ => stand_same hL _ (Nat.le_refl _) fun i hi _ => hall (p + i) (by omega)
          rw [e] at g x
          have hrun := hk c a w g x
          unfold wpOpIn
          rw [ho]
          have go : ∀ a' w', (∀ (fuel : Nat) (Lm : Array Bool), Lm.size = n → Lm.toList.count false = fuel → (∀ i, i < p + f.length + 1 → Lm.getD i false = true) → (∀ i, p + f.length + 1 ≤ i → Lm.getD i false = false) → wpAnyIn Fence.wide 0 P .any all Q' fuel Lm a' w') → wpAnyIn Fence.wide 0 P .any all Q' fuel (Lm.setIfInBounds (p + f.length) true) a' w' := by
            intro a' w' h
            refine h fuel _ hs1 hc1 (fun i hi => ?_) fun i hi => ?_
            · by_cases hif : i = p + f.length
              · subst hif; exact getD_set_self (by omega)
              · exact getD_set_true (hall i (by omega))
            · rw [getD_set_ne false (by omega)]; exact hlast i (by omega)
          unfold opRun at hrun
          simp only []
          split
          · rename_i hw; rw [if_pos hw] at hrun; exact wpIn_weak hrun go
          · rename_i hw; rw [if_neg hw] at hrun; exact ⟨fun _ _ => trivial, go _ _ hrun⟩
theorem shut_of {Lm : Array Bool} {p : Nat} (hah : ∀ j, j < p → ahead all j = true) (hp : ∀ i, i < p → Lm.getD i false = true) (hq : ∀ i, p ≤ i → Lm.getD i false = false) : shut all Lm := by
  intro j hj i hi
  have hjp : j < p := by
    rcases Nat.lt_or_ge j p with h | h
    · exact h
    · rw [hq j h] at hj; cases hj
  have h1 := hah j hjp
  unfold ahead at h1
  unfold waits at hi
  rw [Array.any_eq_true'] at hi
  obtain ⟨e, he, hi⟩ := hi
  simp only [Bool.and_eq_true, beq_iff_eq] at hi
  have h2 := Array.all_eq_true_iff_forall_mem.1 h1 e he
  simp only [hi.1, Bool.not_true, Bool.false_or, decide_eq_true_eq] at h2
  exact hp i (by omega)
theorem lex_any {Q' : Exit → Act → World → Prop} {c0 : Ctx} {own0 : Own} {w0 : World} (hQ : ∀ s c a w, K s → Sat c s a w → Ext c0 own0 w0 c s.own w → Q' .normal a w) :
    ∀ (N : Nat) (l : List Oper) (s : S) (p : Nat), l.length < N → (∀ j, l[j]? = all[p + j]?) → p + l.length = all.size → LexK P all K l s p [] → (∀ j, j < p → ahead all j = true) → ∀ (fuel : Nat) (Lm : Array Bool) (c : Ctx) (a : Act) (w : World),
      Lm.size = all.size → Lm.toList.count false = fuel → (∀ i, i < p → Lm.getD i false = true) → (∀ i, p ≤ i → Lm.getD i false = false) → Sat c s a w → Ext c0 own0 w0 c s.own w → wpAnyIn Fence.wide 0 P .any all Q' fuel Lm a w := by
  intro N
  induction N with
  | zero => intro l s p h; omega
  | succ N ih =>
    intro l s p hN hl hsz h hah fuel Lm c a w hs hc hpre hlast g x
    obtain ⟨f, sq, h0, h1, h2, h3, h4⟩ := LexK.get l s p [] h
    subst h0
    have ok : okFp all p f = true := by simpa using h3
    have e0 : ∀ k, stand p sq f Lm k = sq 0 := by
      intro k
      induction k with
      | zero => rfl
      | succ k ihk => simp only [stand]; rw [if_neg (by rw [hlast _ (by omega)]; simp), ihk]
    refine draw_key rfl (by omega) (fun i hi => ?_) ok ?_ fuel Lm c a w hs hc (shut_of hah hpre hlast) hpre (fun j hj => hlast j (by omega)) (by rw [e0]; exact g) (by rw [e0]; exact x)
    · obtain ⟨o, ho, hop⟩ := h2 i hi
      exact ⟨o, by rw [← hl]; exact ho, hop⟩
    · rcases h4 with ⟨h5, h6⟩ | ⟨h6, o, ho, hop⟩
      · exact .inl ⟨by omega, fun c a w g x => hQ _ c a w h6 g x⟩
      · have hlt : f.length < l.length := (List.getElem?_eq_some_iff.1 ho).1
        simp only [List.length_nil, Nat.add_zero] at h6 hop
        refine .inr ⟨h6, o, by rw [← hl]; exact ho, fun c a w g x => opRun_mono (hop c a w g) ?_⟩
        rintro a' w' ⟨s', c', hk, g', x'⟩ fuel' Lm' hs' hc' hp' hq'
        refine ih (l.drop (f.length + 1)) s' (p + f.length + 1) (by simp; omega) (fun j => ?_) (by simp; omega) hk (fun j hj => ?_) fuel' Lm' c' a' w' hs' hc' hp' hq' g' (x.trans x')
        · rw [List.getElem?_drop, hl]; congr 1; omega
        · rcases Nat.lt_or_ge j p with h7 | h7
          · exact hah j h7
          · rcases Nat.lt_or_ge j (p + f.length) with h8 | h8
            · have := (okFp_at ok (j := j - p) (by omega)).1
              rwa [show p + (j - p) = j by omega] at this
            · obtain rfl : j = p + f.length := by omega
              simp only [okBar, Bool.and_eq_true] at h6
              exact h6.1.1
end
theorem lex_start {P : Program} {Q : Exit → S → Prop} {s : S} {l : List Oper} (h : LexK P l.toArray (Q .normal) l s 0 []) {c : Ctx} {a : Act} {w : World} (g : Sat c s a w) : wpAnyIn Fence.wide 0 P .any l.toArray (fun e a' w' => ∃ s' c', Q e s' ∧ Sat c' s' a' w' ∧ Ext c s.own w c' s'.own w') l.toArray.size (Array.replicate l.toArray.size false) a { w with drawn := w.drawn + 1 } := by
  refine lex_any (P := P) (all := l.toArray) (K := Q .normal) (c0 := c) (own0 := s.own) (w0 := w) (fun s' c' a' w' k g' x' => ⟨s', c', k, g', x'⟩) (l.length + 1) l s 0 (by omega) (by simp) (by simp) h (fun j hj => absurd hj (Nat.not_lt_zero j)) _ _ c a _ (by simp) ?_ (fun i hi => absurd hi (Nat.not_lt_zero i)) ?_
    ⟨⟨g.conc.mem, g.conc.obj, g.conc.inj, g.conc.fin⟩, g.size, g.tmps, g.defers, g.wf⟩ ⟨rfl, rfl, rfl, Nat.le_refl _, fun _ _ _ => rfl, fun _ _ _ h => h, fun _ _ _ h => .inl h, fun _ _ h => h, fun i x b n h1 he h2 => .inr ⟨i, x, n, h1, he, h2⟩, rfl, fun k x h => .inl (by rw [h]; simp)⟩
  · simp
  · intro j hj; simp [Array.getElem?_replicate]; split <;> simp
theorem AW.draw {P : Program} {Q : Exit → S → Prop} {s : S} {id : Nat} {l : List Oper} (hm : P.follows .mixedOrders = true) (h : LexK P l.toArray (Q .normal) l s 0 []) : AW P (.region id l.toArray true) Q s := fun c a w g => (wpIn_wide (n := 0)).1 (wpIn_region_any hm (lex_start h g))
end Go.Proofs.Ytikcmjamioopbaa.E
/- Operations that only compute, or make memory of their own: what they yield. Plain theorems, for any program. -/
namespace Go.Proofs.Ytikcmjamioopbaa.E
open Go.RowKit
set_option linter.unusedVariables false

/-! ### worlds that grow -/
structure MemOk (c : Ctx) (w : World) : Prop where
  mem : ∀ b o u, c.μ b o = some u → w.cell? ⟨b, o, none⟩ = some u
  fin : ∃ N, ∀ k, N ≤ k → c.β k = none
structure Mk (c : Ctx) (w : World) (c' : Ctx) (w' : World) : Prop where
  os : w'.os = w.os
  tape : w'.tape = w.tape
  output : w'.output = w.output
  size : w.heap.size ≤ w'.heap.size
  blk : ∀ b, b < w.heap.size → w'.heap[b]? = w.heap[b]?
  mem : ∀ b o u, c.μ b o = some u → c'.μ b o = some u
  new : ∀ b o u, c'.μ b o = some u → c.μ b o = some u ∨ w.heap.size ≤ b
  ext : ∀ k p, c.β k = some p → c'.β k = some p
  lam : c'.lam = c.lam
  base : c'.base = c.base
  ok : MemOk c' w'
theorem Mk.refl {c : Ctx} {w : World} (h : MemOk c w) : Mk c w c w := ⟨rfl, rfl, rfl, Nat.le_refl _, fun _ _ => rfl, fun _ _ _ h => h, fun _ _ _ h => .inl h, fun _ _ h => h, rfl, rfl, h⟩
theorem Sat.memOk {c : Ctx} {s : S} {a : Act} {w : World} (g : Sat c s a w) : MemOk c w := ⟨g.conc.mem, by obtain ⟨N, h⟩ := g.conc.fin; exact ⟨N, fun k hk => (h k hk).1⟩⟩
theorem RepX.mono {c c' : Ctx} (h : ∀ b o u, c.μ b o = some u → c'.μ b o = some u) (hb : ∀ k p, c.β k = some p → c'.β k = some p) (hl : c'.lam = c.lam) {x : X} {v : Value} (r : RepX c x v) : RepX c' x v := by
  cases x with
  | c x => exact RepC.mono h hb r
  | tup l => obtain ⟨us, h1, h2⟩ := r; exact ⟨us, h1, h2.mono fun _ _ => RepC.mono h hb⟩
  | lp d off => have r : v = .pointer (some ⟨(c.lam d).1, off, none⟩) := r; show v = _; rw [hl]; exact r
  | lts d z sz es =>
    rcases r with r | r | ⟨r1, r2, r3⟩
    · exact .inl r
    · exact .inr (.inl r)
    · exact .inr (.inr ⟨r1, by rw [hl]; exact r2, r3.mono h⟩)
  | lmp d => have r : v = .map (some (c.lam d).1) := r; show v = _; rw [hl]; exact r
  | pc l => obtain ⟨b, off, h1, u, h2⟩ := r; exact ⟨b, off, h1, u, fun i x hx => ⟨h _ _ _ (h2 i x hx).1, (h2 i x hx).2.mono h⟩⟩
  | any => trivial
theorem ORep.lt {c : Ctx} {w : World} {x : AO} {b n : Nat} (h : ORep c w x b n) : b < w.heap.size := by
  have key : ∀ {y : Obj}, w.heap[b]? = some y → b < w.heap.size := fun h => (Array.getElem?_eq_some_iff.1 h).1
  cases x with
  | box => obtain ⟨_, _, h, _⟩ := h; exact key h
  | row => obtain ⟨_, h, _⟩ := h; exact key h
  | tip => obtain ⟨_, h, _⟩ := h; exact key h
  | new => obtain ⟨_, h, _⟩ := h; exact key h
  | map => obtain ⟨_, h, _⟩ := h; exact key h
  | iter => obtain ⟨_, _, _, h⟩ := h; exact key h
  | iter0 => exact key h
  | loop => exact key h.1
/-- an object's reading stays while its block stays, and no cell of it becomes common -/
theorem ORep.keep {c c' : Ctx} {w w' : World} {x : AO} {b n : Nat} (h : ORep c w x b n) (hb : w'.heap[b]? = w.heap[b]?) (hm : ∀ b o u, c.μ b o = some u → c'.μ b o = some u)
    (hn : ∀ o u, c'.μ b o = some u → c.μ b o = some u) (hx : ∀ k p, c.β k = some p → c'.β k = some p) : ORep c' w' x b n := by
  have nm : ∀ o, c.μ b o = none → c'.μ b o = none := fun o h => by
    cases h' : c'.μ b o with
    | none => rfl
    | some u => rw [hn o u h'] at h; cases h
  cases x with
  | box cs => obtain ⟨us, ty, h1, h2, h3⟩ := h; exact ⟨us, ty, hb.trans h1, h2.mono fun _ _ => RepA.mono hm hx, fun o => nm o (h3 o)⟩
  | row e sz cs => obtain ⟨us, h1, h4, h5, h2, h3⟩ := h; exact ⟨us, hb.trans h1, h4, h5, h2.mono fun _ _ => RepA.mono hm hx, fun o => nm o (h3 o)⟩
  | tip e sz m => obtain ⟨us, h1, h4, h5, h3⟩ := h; exact ⟨us, hb.trans h1, h4, h5, fun o ho => nm o (h3 o ho)⟩
  | new e sz => obtain ⟨us, h1, h4, h5, h3⟩ := h; exact ⟨us, hb.trans h1, h4, h5, fun o => nm o (h3 o)⟩
  | map kk es cl => obtain ⟨ents, h1, h2⟩ := h; exact ⟨ents, hb.trans h1, h2.len, fun i m e he hf => ⟨(h2.ent i m e he hf).1, (h2.ent i m e he hf).2.1, RepC.mono hm hx (h2.ent i m e he hf).2.2⟩, h2.key, h2.born, h2.nodup, h2.inj⟩
  | iter k since seen c0 => obtain ⟨bm, nm, h1, h2⟩ := h; exact ⟨bm, nm, hx _ _ h1, hb.trans h2⟩
  | iter0 => exact hb.trans h
  | loop => exact ⟨hb.trans h.1, fun i x hi => RepC.mono hm hx (h.2 i x hi)⟩
theorem Conc.grow {c c' : Ctx} {own : Own} {w w' : World} (g : Conc c own w) (m : Mk c w c' w') : Conc c' own w' ∧ Ext c own w c' own w' := by
  have pos' : ∀ i p, c.pos i = some p → c'.pos i = some p := fun i p h => by
    cases i with
    | e k => exact m.ext _ _ h
    | l d => simp only [Ctx.pos] at h ⊢; rw [m.lam]; exact h
  have posb : ∀ i x b n, own i = some x → ¬ x.empty → c'.pos i = some (b, n) → c.pos i = some (b, n) := fun i x b n h he hp => by
    obtain ⟨b', n', h1, h2⟩ := g.obj i x h he
    have := pos' i _ h1
    rw [hp] at this; injection this with this; rw [h1, this]
  refine ⟨⟨m.ok.mem, fun i x hi he => ?_, fun i j x y b n n' hi hj he hf hp hq => g.inj i j x y b n n' hi hj he hf (posb i x b n hi he hp) (posb j y b n' hj hf hq), ?_⟩, ⟨m.os, m.tape, m.output, m.size, fun b hb _ => m.blk b hb, m.mem, fun b o u h => (m.new b o u h).imp id .inl, m.ext, fun i x b n hi he hp => .inr ⟨i, x, n, hi, he, posb i x b n hi he hp⟩, m.base, fun k x h => .inl (by rw [h]; simp)⟩⟩
  · obtain ⟨b, n, h1, h2⟩ := g.obj i x hi he
    refine ⟨b, n, pos' i _ h1, h2.keep (m.blk b h2.lt) m.mem (fun o u h => ?_) m.ext⟩
    rcases m.new b o u h with h3 | h3
    · exact h3
    · have := h2.lt; omega
  · obtain ⟨N, h1⟩ := g.fin
    obtain ⟨N', h2⟩ := m.ok.fin
    exact ⟨max N N', fun k hk => ⟨h2 k (by omega), (h1 k (by omega)).2⟩⟩

theorem own_put (s : S) (d : Option Nat) (x : X) : (s.put d x).own = s.own := by
  funext i; cases d <;> cases i <;> rfl
theorem put_len (s : S) (d : Option Nat) (x : X) : Len (s.put d x) s := by cases d <;> rfl
def inB (d : Option Nat) (n : Nat) : Bool := match d with | some d => decide (d < n) | none => true
/-- a slot is written -/
theorem Sat.put {c : Ctx} {s : S} {a : Act} {w : World} (g : Sat c s a w) (d : Option Nat) {x : X} {v : Value} (hd : inB d s.n = true) (h : RepX c x v) (hw : ∀ d, x.loc = some d → s.L d ≠ none) : Sat c (s.put d x) (a.put d v) w := by
  cases d with
  | none => exact g
  | some d =>
    have hd : d < s.n := by simpa [inB] using hd
    refine ⟨by rw [own_put]; exact g.conc, by simp [Act.put, S.put, g.size], fun i => ?_, g.defers, fun i e hy => ?_⟩
    · simp only [S.put, Act.put, Array.getD_eq_getD_getElem?, Array.getElem?_setIfInBounds]
      by_cases hid : d = i
      · subst hid
        rw [upd_same, if_pos rfl, if_pos (by rw [g.size]; exact hd)]
        exact h
      · rw [upd_ne _ _ (Ne.symm hid), if_neg hid]
        have := g.tmps i
        rwa [Array.getD_eq_getD_getElem?] at this
    · simp only [S.put] at hy
      by_cases hid : d = i
      · subst hid
        rw [upd_same] at hy
        exact hw e hy
      · rw [upd_ne _ _ (Ne.symm hid)] at hy
        exact g.wf i e hy
theorem Sat.grow {c c' : Ctx} {s : S} {a : Act} {w w' : World} (g : Sat c s a w) (m : Mk c w c' w') : Sat c' s a w' ∧ Ext c s.own w c' s.own w' :=
  ⟨⟨(g.conc.grow m).1, g.size, fun i => (g.tmps i).mono m.mem m.ext m.lam, g.defers.ext g.conc (g.conc.grow m).2, g.wf⟩, (g.conc.grow m).2⟩

/-! ### operations that yield a value, and turn nothing -/
section
variable {P : Program} {all : Array Oper} {o : Oper} {s : S}
def QV (P : Program) (o : Oper) (s : S) (x : X) : Prop :=
  (∀ d, x.loc = some d → ∃ y, y ∈ o.op.operands ∧ (s.eval y).loc = some d) ∧
  ∀ (c : Ctx) (w : World) (a : Act), MemOk c w → (∀ y, y ∈ o.op.operands → RepX c (s.eval y) (a.eval y)) → o.wp P a w (fun a' w' => ∃ v c', a' = a.put o.dst v ∧ RepX c' x v ∧ Mk c w c' w') (fun _ _ _ => False)
theorem QV.of_run {x : X} (hl : ∀ d, x.loc = some d → ∃ y, y ∈ o.op.operands ∧ (s.eval y).loc = some d)
    (h : ∀ (c : Ctx) (w : World) (a : Act), MemOk c w → (∀ y, y ∈ o.op.operands → RepX c (s.eval y) (a.eval y)) → ∃ v w' c', (execOp a.eval o).run P w = .ok (.value v) w' ∧ RepX c' x v ∧ Mk c w c' w') : QV P o s x := by
  refine ⟨hl, fun c w a hm hr => ?_⟩
  obtain ⟨v, w', c', h1, h2, h3⟩ := h c w a hm hr
  unfold Oper.wp
  rw [h1]
  exact ⟨v, c', rfl, h2, h3⟩
/-- .. in the very world -/
theorem QV.of_same {x : X} (hl : ∀ d, x.loc = some d → ∃ y, y ∈ o.op.operands ∧ (s.eval y).loc = some d)
    (h : ∀ (c : Ctx) (w : World) (a : Act), MemOk c w → (∀ y, y ∈ o.op.operands → RepX c (s.eval y) (a.eval y)) → ∃ v, (execOp a.eval o).run P w = .ok (.value v) w ∧ RepX c x v) : QV P o s x :=
  .of_run hl fun c w a hm hr => by
    obtain ⟨v, h1, h2⟩ := h c w a hm hr
    exact ⟨v, w, c, h1, h2, .refl hm⟩
theorem nolp {x : C} {q : Prop} {d : Nat} (h : (X.c x).loc = some d) : q := by cases h
def lookT (all : Array Oper) (o : Oper) : List Loc := (o.looksAt all).map .t
def dstT (o : Oper) : List Loc := o.dst.toList.map .t
theorem eval_same {s s1 : S} (h : ∀ ℓ, ℓ ∈ lookT all o → Same ℓ s1 s) {y : Operand} (hy : y ∈ o.op.operands) : s1.eval y = s.eval y := by
  cases y with
  | tmp t =>
    have : Same (.t t) s1 s := h _ (by
      refine List.mem_map.2 ⟨t, ?_, rfl⟩
      exact List.mem_append_left _ (List.mem_filterMap.2 ⟨.tmp t, by simpa using hy, rfl⟩))
    simp only [Same] at this
    exact this
  | _ => rfl
theorem over_put {s1 s : S} {d : Option Nat} {x : X} : s1.over (d.toList.map .t) (s.put d x) = s1.put d x := by
  refine S.ext' (by cases d <;> rfl) fun ℓ => ?_
  cases d with
  | none => exact over_out (by simp)
  | some d =>
    by_cases h : ℓ = .t d
    · subst h
      refine (over_in (by simp)).trans ?_
      simp only [Same, S.put, upd_same]
    · refine (over_out (by simpa using h)).trans ?_
      cases ℓ with
      | t i =>
        have hdi : i ≠ d := fun e => h (by rw [e])
        simp [Same, S.put, upd_ne _ _ hdi]
      | _ => rfl
theorem put_out {s : S} {d : Option Nat} {x : X} {ℓ : Loc} (h : ℓ ∉ d.toList.map Loc.t) : Same ℓ (s.put d x) s := by
  cases d with
  | none => exact .refl _ _
  | some d =>
    cases ℓ with
    | t i =>
      have hdi : i ≠ d := fun e => h (by simp [e])
      simp [Same, S.put, upd_ne _ _ hdi]
    | _ => rfl
theorem lp_wf {c : Ctx} {s1 : S} {a : Act} {w : World} {y : Operand} {d : Nat} (g : Sat c s1 a w) (hy : (s1.eval y).loc = some d) : s1.L d ≠ none := by
  cases y with
  | tmp t => exact g.wf t d hy
  | const u => cases u <;> simp only [S.eval, constX] at hy <;> first | cases hy | (split at hy <;> cases hy)
  | _ => cases hy
theorem LOp.q {x : X} (h : QV P o s x) (hg : o.guard = none) (hd : inB o.dst s.n = true) : LOp P all o (lookT all o) (dstT o) s (s.put o.dst x) := by
  refine ⟨put_len _ _ _, fun ℓ hℓ => put_out hℓ, fun s1 hl hs => ?_⟩
  unfold dstT
  rw [over_put]
  intro c a w g
  unfold opRun
  rw [if_pos (by simp [Region.wanted, hg])]
  refine wp_weak (h.2 c w a g.memOk fun y hy => by rw [← eval_same hs hy]; exact g.eval y) ?_
  rintro a' w' ⟨v, c', rfl, hr, m⟩
  obtain ⟨g', x'⟩ := g.grow m
  refine ⟨_, c', rfl, g'.put _ (hl ▸ hd) hr fun d e => ?_, by rw [own_put]; exact x'⟩
  obtain ⟨y, hy, hy'⟩ := h.1 d e
  rw [← eval_same hs hy] at hy'
  exact lp_wf g hy'
/-- a guard that says yes, or no -/
theorem yield_of {c : Ctx} {a : Act} {w : World} {j t : Nat} {b : Bool} (g : Sat c s a w) (hj : (all[j]?).bind (·.dst) = some t) (hb : s.t t = tv (.bool b)) : yielded all a.tmps j = some b := by
  have h1 := g.tmps t
  rw [hb] at h1
  have h2 : a.tmps.getD t undef = .bool b := rep_tv h1
  unfold yielded
  rw [hj]
  have h3 : a.tmps[t]? = some (.bool b) := by
    rw [Array.getD_eq_getD_getElem?] at h2
    cases h4 : a.tmps[t]? with
    | none => rw [h4] at h2; cases h2
    | some z => rw [h4] at h2; simp at h2; rw [h2]
  simp [h3]
theorem LOp.on {x : X} {j t : Nat} {b : Bool} (h : QV P o s x) (hg : o.guard = some (j, b)) (hj : (all[j]?).bind (·.dst) = some t) (hb : s.t t = tv (.bool b)) (hd : inB o.dst s.n = true) : LOp P all o (lookT all o) (dstT o) s (s.put o.dst x) := by
  refine ⟨put_len _ _ _, fun ℓ hℓ => put_out hℓ, fun s1 hl hs => ?_⟩
  have hb1 : s1.t t = tv (.bool b) := by
    have : Same (.t t) s1 s := hs _ (List.mem_map.2 ⟨t, List.mem_append_right _ (by simp [hg, hj]), rfl⟩)
    exact Eq.trans this hb
  unfold dstT
  rw [over_put]
  intro c a w g
  unfold opRun
  rw [if_pos (by simp [Region.wanted, hg, yield_of g hj hb1])]
  refine wp_weak (h.2 c w a g.memOk fun y hy => by rw [← eval_same hs hy]; exact g.eval y) ?_
  rintro a' w' ⟨v, c', rfl, hr, m⟩
  obtain ⟨g', x'⟩ := g.grow m
  refine ⟨_, c', rfl, g'.put _ (hl ▸ hd) hr fun d e => ?_, by rw [own_put]; exact x'⟩
  obtain ⟨y, hy, hy'⟩ := h.1 d e
  rw [← eval_same hs hy] at hy'
  exact lp_wf g hy'
theorem LOp.off {j t : Nat} {b b' : Bool} (hg : o.guard = some (j, b)) (hj : (all[j]?).bind (·.dst) = some t) (hb : s.t t = tv (.bool b')) (hne : b' ≠ b) (hd : inB o.dst s.n = true) : LOp P all o (lookT all o) (dstT o) s (s.put o.dst (.tup [])) := by
  refine ⟨put_len _ _ _, fun ℓ hℓ => put_out hℓ, fun s1 hl hs => ?_⟩
  have hb1 : s1.t t = tv (.bool b') := by
    have : Same (.t t) s1 s := hs _ (List.mem_map.2 ⟨t, List.mem_append_right _ (by simp [hg, hj]), rfl⟩)
    exact Eq.trans this hb
  unfold dstT
  rw [over_put]
  intro c a w g
  unfold opRun
  rw [if_neg (by simp [Region.wanted, hg, yield_of g hj hb1, hne])]
  exact ⟨_, c, rfl, g.put _ (x := .tup []) (hl ▸ hd) ⟨#[], rfl, .nil⟩ (fun _ h => by cases h), by rw [own_put]; exact .refl _ _ _⟩

/-- what was left out yields nothing -/
theorem yield_un {c : Ctx} {a : Act} {w : World} {j t : Nat} (g : Sat c s a w) (hj : (all[j]?).bind (·.dst) = some t) (hb : s.t t = .tup []) : yielded all a.tmps j = none := by
  have h1 := g.tmps t
  rw [hb] at h1
  obtain ⟨us, h2, h3⟩ := h1
  have h4 : us = #[] := by have := h3.1; exact Array.eq_empty_of_size_eq_zero (by simpa using this.symm)
  subst h4
  unfold yielded
  rw [hj]
  simp only [Option.bind_some]
  cases h5 : a.tmps[t]? with
  | none => rfl
  | some z => rw [Array.getD_eq_getD_getElem?, h5] at h2; simp at h2; rw [h2]
theorem LOp.offU {j t : Nat} {b : Bool} (hg : o.guard = some (j, b)) (hj : (all[j]?).bind (·.dst) = some t) (hb : s.t t = .tup []) (hd : inB o.dst s.n = true) : LOp P all o (lookT all o) (dstT o) s (s.put o.dst (.tup [])) := by
  refine ⟨put_len _ _ _, fun ℓ hℓ => put_out hℓ, fun s1 hl hs => ?_⟩
  have hb1 : s1.t t = .tup [] := by
    have : Same (.t t) s1 s := hs _ (List.mem_map.2 ⟨t, List.mem_append_right _ (by simp [hg, hj]), rfl⟩)
    exact Eq.trans this hb
  unfold dstT
  rw [over_put]
  intro c a w g
  unfold opRun
  rw [if_neg (by simp [Region.wanted, hg, yield_un g hj hb1])]
  exact ⟨_, c, rfl, g.put _ (x := .tup []) (hl ▸ hd) ⟨#[], rfl, .nil⟩ (fun _ h => by cases h), by rw [own_put]; exact .refl _ _ _⟩

/-! ### the plain ones -/
abbrev iX (k : IntKind) (n : Int) : X := tv (.int k n)
abbrev bX (b : Bool) : X := tv (.bool b)
abbrev sX (s : ByteArray) : X := tv (.string s)
theorem q_move {y : Operand} (ho : o.op = .move y) : QV P o s (s.eval y) :=
  .of_same (fun d h => ⟨y, by rw [ho]; simp [Op.operands], h⟩) fun c w a hm hr => ⟨a.eval y, by simp [execOp, ho], hr y (by rw [ho]; simp [Op.operands])⟩
theorem q_assign {y : Operand} (ho : o.op = .assign y) : QV P o s (s.eval y) :=
  .of_same (fun d h => ⟨y, by rw [ho]; simp [Op.operands], h⟩) fun c w a hm hr => ⟨a.eval y, by simp [execOp, ho], hr y (by rw [ho]; simp [Op.operands])⟩
theorem q_pick {q y z : Operand} (b : Bool) (ho : o.op = .pick q y z) (hq : s.eval q = bX b) : QV P o s (bif b then s.eval y else s.eval z) :=
  .of_same (fun d h => by
    cases b
    · exact ⟨z, by rw [ho]; simp [Op.operands], h⟩
    · exact ⟨y, by rw [ho]; simp [Op.operands], h⟩) fun c w a hm hr => by
    have h0 := hr q (by rw [ho]; simp [Op.operands])
    rw [hq] at h0
    have h0 := rep_tv h0
    cases b
    · exact ⟨a.eval z, by simp [execOp, ho, h0, asBool], hr z (by rw [ho]; simp [Op.operands])⟩
    · exact ⟨a.eval y, by simp [execOp, ho, h0, asBool], hr y (by rw [ho]; simp [Op.operands])⟩
/-- a binary operator over two plain values -/
theorem q_bin {op : BinOp} {t u : TypeId} {x y : Operand} {a b r : Value} (ho : o.op = .binOp op t x y u) (hx : s.eval x = tv a) (hy : s.eval y = tv b) (h1 : r.oneCell' = true)
    (h : ∀ w, (do eqGuard op t x y a b; binOp op t a b : Sem Value).run P w = .ok r w) : QV P o s (tv r) :=
  .of_same (fun _ => nolp) fun c w f hm hr => by
    have ha := hr x (by rw [ho]; simp [Op.operands])
    have hb := hr y (by rw [ho]; simp [Op.operands])
    rw [hx] at ha
    rw [hy] at hb
    have ha := rep_tv ha
    have hb := rep_tv hb
    have h2 := h w
    rw [Sem.run_bind] at h2
    refine ⟨r, ?_, tv_rep h1⟩
    simp only [execOp, ho, ha, hb, Sem.run_bind]
    cases h3 : (eqGuard op t x y a b).run P w with
    | ok _ w1 => rw [h3] at h2; simp only [Result.andThen_ok] at h2 ⊢; rw [h2]; rfl
    | halt _ _ => rw [h3] at h2; cases h2
theorem str_eq (p q : ByteArray) : (p.data == q.data) = decide (p = q) := by rw [Bool.eq_iff_iff]; simp [ByteArray.ext_iff]
theorem eqg {op : BinOp} {t : TypeId} {x y : Operand} {k k' : IntKind} {a b : Int} {w : World} : (eqGuard op t x y (.int k a) (.int k' b)).run P w = .ok () w := by
  unfold eqGuard; split <;> rfl
theorem eqgS {op : BinOp} {t : TypeId} {x y : Operand} {a b : ByteArray} {w : World} : (eqGuard op t x y (.string a) (.string b)).run P w = .ok () w := by
  unfold eqGuard; split <;> rfl
section
variable {t u : TypeId} {x y : Operand} {k : IntKind} {a b : Int}
theorem q_add (r : Int) (ho : o.op = .binOp .add t x y u) (hx : s.eval x = iX k a) (hy : s.eval y = iX k b) (hr : k.wrap (a + b) = r) : QV P o s (iX k r) :=
  q_bin ho hx hy rfl fun w => by rw [Sem.run_bind, eqg]; simp [binOp, Op.intArith, hr]
theorem q_sub (r : Int) (ho : o.op = .binOp .sub t x y u) (hx : s.eval x = iX k a) (hy : s.eval y = iX k b) (hr : k.wrap (a - b) = r) : QV P o s (iX k r) :=
  q_bin ho hx hy rfl fun w => by rw [Sem.run_bind, eqg]; simp [binOp, Op.intArith, hr]
theorem q_mul (r : Int) (ho : o.op = .binOp .mul t x y u) (hx : s.eval x = iX k a) (hy : s.eval y = iX k b) (hr : k.wrap (a * b) = r) : QV P o s (iX k r) :=
  q_bin ho hx hy rfl fun w => by rw [Sem.run_bind, eqg]; simp [binOp, Op.intArith, hr]
theorem q_quo (r : Int) (ho : o.op = .binOp .quo t x y u) (hx : s.eval x = iX k a) (hy : s.eval y = iX k b) (h0 : b ≠ 0) (hr : k.wrap (a.tdiv b) = r) : QV P o s (iX k r) :=
  q_bin ho hx hy rfl fun w => by rw [Sem.run_bind, eqg]; simp [binOp, Op.intDiv, hr, h0]
theorem q_rem (ho : o.op = .binOp .rem t x y u) (hx : s.eval x = iX k a) (hy : s.eval y = iX k b) (h0 : b ≠ 0) : QV P o s (iX k (a.tmod b)) :=
  q_bin ho hx hy rfl fun w => by rw [Sem.run_bind, eqg]; simp [binOp, Op.intDiv, h0]
theorem q_eql (ho : o.op = .binOp .eql t x y u) (hx : s.eval x = iX k a) (hy : s.eval y = iX k b) : QV P o s (bX (decide (a = b))) :=
  q_bin ho hx hy rfl fun w => by rw [Sem.run_bind, eqg]; simp [binOp, Op.intCmp]; rfl
theorem q_neq (ho : o.op = .binOp .neq t x y u) (hx : s.eval x = iX k a) (hy : s.eval y = iX k b) : QV P o s (bX (decide (a ≠ b))) :=
  q_bin ho hx hy rfl fun w => by rw [Sem.run_bind, eqg]; simp [binOp, Op.intCmp]; rfl
theorem q_lss (ho : o.op = .binOp .lss t x y u) (hx : s.eval x = iX k a) (hy : s.eval y = iX k b) : QV P o s (bX (decide (a < b))) :=
  q_bin ho hx hy rfl fun w => by rw [Sem.run_bind, eqg]; simp [binOp, Op.intCmp]
theorem q_leq (ho : o.op = .binOp .leq t x y u) (hx : s.eval x = iX k a) (hy : s.eval y = iX k b) : QV P o s (bX (decide (a ≤ b))) :=
  q_bin ho hx hy rfl fun w => by rw [Sem.run_bind, eqg]; simp [binOp, Op.intCmp]
theorem q_gtr (ho : o.op = .binOp .gtr t x y u) (hx : s.eval x = iX k a) (hy : s.eval y = iX k b) : QV P o s (bX (decide (b < a))) :=
  q_bin ho hx hy rfl fun w => by rw [Sem.run_bind, eqg]; simp [binOp, Op.intCmp]
theorem q_geq (ho : o.op = .binOp .geq t x y u) (hx : s.eval x = iX k a) (hy : s.eval y = iX k b) : QV P o s (bX (decide (b ≤ a))) :=
  q_bin ho hx hy rfl fun w => by rw [Sem.run_bind, eqg]; simp [binOp, Op.intCmp]
variable {p q : ByteArray}
theorem q_eqlS (ho : o.op = .binOp .eql t x y u) (hx : s.eval x = sX p) (hy : s.eval y = sX q) : QV P o s (bX (decide (p = q))) :=
  q_bin ho hx hy rfl fun w => by rw [Sem.run_bind, eqgS]; simp [binOp, Op.stringOp, ByteArray.toList_eq, str_eq]
theorem q_not {b : Bool} (ho : o.op = .unOp .not t x) (hx : s.eval x = bX b) : QV P o s (bX (!b)) :=
  .of_same (fun _ => nolp) fun c w f hm hr => by
    have ha := hr x (by rw [ho]; simp [Op.operands])
    rw [hx] at ha
    have ha := rep_tv ha
    exact ⟨.bool (!b), by simp [execOp, ho, ha, Op.unary], tv_rep rfl⟩
theorem q_neg (r : Int) (ho : o.op = .unOp .neg t x) (hx : s.eval x = iX k a) (hr : k.wrap (0 - a) = r) : QV P o s (iX k r) :=
  .of_same (fun _ => nolp) fun c w f hm hrr => by
    have ha := hrr x (by rw [ho]; simp [Op.operands])
    rw [hx] at ha
    have ha := rep_tv ha
    exact ⟨.int k r, by simp [execOp, ho, ha, Op.unary, Op.intArith] at hr ⊢; exact hr, tv_rep rfl⟩
end
end
end Go.Proofs.Ytikcmjamioopbaa.E
/- Memory: objects made, read and written; addresses; fields; loads and stores. Plain theorems, for any program. -/
namespace Go.Proofs.Ytikcmjamioopbaa.E
open Go.RowKit
set_option linter.unusedVariables false

/-! ### facts on types, each a Bool that the kernel reckons -/
def tyB (P : Program) (t : TypeId) (agg : Bool) (n : Nat) : Bool :=
  match P.underlying t, P.info? t with
  | some d, some i => (d.isRow == agg) && (i.size == n) && (agg || n == 1)
  | _, _ => false
theorem tyB_get {P : Program} {t : TypeId} {agg : Bool} {n : Nat} (h : tyB P t agg n = true) : ∃ d i, P.underlying t = some d ∧ P.info? t = some i ∧ d.isRow = agg ∧ i.size = n ∧ (agg = false → n = 1) := by
  unfold tyB at h
  split at h
  · rename_i d i h1 h2
    simp only [Bool.and_eq_true, beq_iff_eq, Bool.or_eq_true] at h
    exact ⟨d, i, h1, h2, h.1.1, h.1.2, fun e => by rcases h.2 with h3 | h3 <;> simp_all⟩
  · cases h
def fldB (P : Program) (t : TypeId) (i off : Nat) : Bool :=
  match P.underlying t with
  | some (.struct fs) => match fs[i]? with
    | some f => (f.offset == off) && (match P.info? f.type with | some j => j.size != 0 | none => false)
    | none => false
  | _ => false
theorem fldB_get {P : Program} {t : TypeId} {i off : Nat} (h : fldB P t i off = true) : ∃ fs f j, P.underlying t = some (.struct fs) ∧ fs[i]? = some f ∧ f.offset = off ∧ P.info? f.type = some j ∧ j.size ≠ 0 := by
  unfold fldB at h
  split at h
  · rename_i fs h1
    split at h
    · rename_i f h2
      simp only [Bool.and_eq_true, beq_iff_eq] at h
      split at h
      · rename_i j h3; exact ⟨fs, f, j, h1, h2, h.1, h3, by simpa using h.2⟩
      · simp at h
    · cases h
  · cases h
def slB (P : Program) (t e : TypeId) (sz : Nat) : Bool :=
  match P.underlying t, P.info? e with
  | some (.slice e'), some i => (e' == e) && (i.size == sz) && (sz != 0)
  | _, _ => false
theorem slB_get {P : Program} {t e : TypeId} {sz : Nat} (h : slB P t e sz = true) : ∃ i, P.underlying t = some (.slice e) ∧ P.info? e = some i ∧ i.size = sz ∧ sz ≠ 0 := by
  unfold slB at h
  split at h
  · rename_i e' i h1 h2
    simp only [Bool.and_eq_true, beq_iff_eq, bne_iff_ne, ne_eq] at h
    obtain ⟨⟨rfl, h3⟩, h4⟩ := h
    exact ⟨i, h1, h2, h3, h4⟩
  · cases h
def arB (P : Program) (t : TypeId) (len : Nat) (e : TypeId) (sz : Nat) : Bool :=
  match P.underlying t, P.info? e with
  | some (.array n e'), some i => (n == len) && (e' == e) && (i.size == sz) && (sz != 0)
  | _, _ => false
theorem arB_get {P : Program} {t e : TypeId} {len sz : Nat} (h : arB P t len e sz = true) : ∃ i, P.underlying t = some (.array len e) ∧ P.info? e = some i ∧ i.size = sz ∧ sz ≠ 0 := by
  unfold arB at h
  split at h
  · rename_i n e' i h1 h2
    simp only [Bool.and_eq_true, beq_iff_eq, bne_iff_ne, ne_eq] at h
    obtain ⟨⟨⟨rfl, rfl⟩, h3⟩, h4⟩ := h
    exact ⟨i, h1, h2, h3, h4⟩
  · cases h

/-! ### an object is written, made -/
def S.setOwn (s : S) (i : Id) (x : AO) : S :=
  match i with
  | .e k => { s with H := upd s.H k (some x) }
  | .l d => { s with L := upd s.L d (some x) }
theorem setOwn_same (s : S) (i : Id) (x : AO) : (s.setOwn i x).own i = some x := by
  cases i <;> simp [S.setOwn, S.own, upd_same]
theorem setOwn_ne (s : S) {i j : Id} (x : AO) (h : j ≠ i) : (s.setOwn i x).own j = s.own j := by
  cases i <;> cases j <;> simp only [S.setOwn, S.own] <;> exact upd_ne _ _ (fun e => h (by rw [e]))
theorem setOwn_t (s : S) (i : Id) (x : AO) : (s.setOwn i x).t = s.t ∧ (s.setOwn i x).n = s.n := by cases i <;> exact ⟨rfl, rfl⟩
/-- an object's block is written: its reading turns, and its cells may become common -/
theorem Sat.write {c c' : Ctx} {s : S} {a : Act} {w w' : World} {i : Id} {x x' : AO} {b n : Nat} (g : Sat c s a w) (hi : s.own i = some x) (hx : ¬ x.empty) (hp : c.pos i = some (b, n))
    (hos : w'.os = w.os) (htape : w'.tape = w.tape) (hout : w'.output = w.output) (hsz : w'.heap.size = w.heap.size) (hblk : ∀ k, k ≠ b → w'.heap[k]? = w.heap[k]?)
    (hβ : c'.β = c.β) (hlam : c'.lam = c.lam) (hμ : ∀ b o u, c.μ b o = some u → c'.μ b o = some u) (hnew : ∀ b' o u, c'.μ b' o = some u → c.μ b' o = some u ∨ b' = b)
    (hmem : ∀ o u, c'.μ b o = some u → w'.cell? ⟨b, o, none⟩ = some u) (ho : ORep c' w' x' b n) (hbase : c'.base = c.base := by rfl) :
    Sat c' (s.setOwn i x') a w' ∧ Ext c s.own w c' (s.setOwn i x').own w' := by
  have pos : ∀ j, c'.pos j = c.pos j := fun j => by cases j <;> simp only [Ctx.pos, hβ, hlam]
  have hbl : b < w.heap.size := by
    obtain ⟨b', n', h1, h2⟩ := g.conc.obj i x hi hx
    rw [hp] at h1; injection h1 with h1; injection h1 with h1; subst h1; exact h2.lt
  have hnd : ∀ D : Nat, w.heap[D]? = some (Obj.deferred (some [])) → w'.heap[D]? = w.heap[D]? := fun D hD => hblk D fun e => by
    obtain ⟨b', n', h1, h2⟩ := g.conc.obj i x hi hx
    rw [hp] at h1; injection h1 with h1; injection h1 with h1; subst h1; subst e
    exact h2.nd hD
  have own' : ∀ j y, (s.setOwn i x').own j = some y → (j = i ∧ y = x') ∨ (j ≠ i ∧ s.own j = some y) := fun j y h => by
    by_cases hj : j = i
    · subst hj; rw [setOwn_same] at h; exact .inl ⟨rfl, by injection h with h; exact h.symm⟩
    · rw [setOwn_ne _ _ hj] at h; exact .inr ⟨hj, h⟩
  refine ⟨⟨⟨fun b' o u h => ?_, fun j y hj hy => ?_, fun j k y z b1 n1 n2 hj hk hy hz h1 h2 => ?_, ?_⟩, by rw [g.size, (setOwn_t s i x').2], fun j => ?_, by rw [hbase]; exact g.defers.blk (by omega) hnd, fun j d h => ?_⟩, ⟨hos, htape, hout, by omega, fun b' hb' hn => hblk b' fun e => hn i x n hi hx (by rw [e]; exact hp), hμ, fun b' o u h => ?_, fun k p h => by rw [hβ]; exact h, fun j y b1 n1 hj hy h1 => ?_, hbase, fun k y hk => .inl (by
    rcases own' _ y hk with ⟨rfl, _⟩ | ⟨_, h'⟩
    · rw [hi]; simp
    · rw [h']; simp)⟩⟩
  · rcases hnew b' o u h with h1 | rfl
    · by_cases hb : b' = b
      · subst hb; exact hmem o u h
      · have := g.conc.mem b' o u h1
        unfold World.cell? at this ⊢
        rw [hblk b' hb]; exact this
    · exact hmem o u h
  · rcases own' j y hj with ⟨rfl, rfl⟩ | ⟨hne, hj'⟩
    · exact ⟨b, n, by rw [pos]; exact hp, ho⟩
    · obtain ⟨b1, n1, h1, h2⟩ := g.conc.obj j y hj' hy
      have hb1 : b1 ≠ b := fun e => hne (g.conc.inj j i y x b n1 n hj' hi hy hx (by rw [← e]; exact h1) hp)
      exact ⟨b1, n1, by rw [pos]; exact h1, h2.keep (hblk b1 hb1) hμ (fun o u h => (hnew b1 o u h).resolve_right hb1) (fun k p h => by rw [hβ]; exact h)⟩
  · have key : ∀ j y b1 n1, (s.setOwn i x').own j = some y → ¬ y.empty → c'.pos j = some (b1, n1) → ∃ y', s.own j = some y' ∧ ¬ y'.empty ∧ c.pos j = some (b1, n1) := fun j y b1 n1 h hy h1 => by
      rw [pos] at h1
      rcases own' j y h with ⟨rfl, _⟩ | ⟨_, h'⟩
      · exact ⟨x, hi, hx, h1⟩
      · exact ⟨y, h', hy, h1⟩
    obtain ⟨y', a1, a2, a3⟩ := key j y b1 n1 hj hy h1
    obtain ⟨z', b1', b2, b3⟩ := key k z b1 n2 hk hz h2
    exact g.conc.inj j k y' z' b1 n1 n2 a1 b1' a2 b2 a3 b3
  · obtain ⟨N, hN⟩ := g.conc.fin
    have hne : ∀ k, N ≤ k → Id.e k ≠ i := fun k hk e => by subst e; rw [(hN k hk).2] at hi; cases hi
    exact ⟨N, fun k hk => ⟨by rw [hβ]; exact (hN k hk).1, by rw [setOwn_ne _ _ (hne k hk)]; exact (hN k hk).2⟩⟩
  · rw [(setOwn_t s i x').1]
    exact (g.tmps j).mono hμ (fun k p h => by rw [hβ]; exact h) hlam
  · rw [(setOwn_t s i x').1] at h
    have := g.wf j d h
    cases i with
    | e k => exact this
    | l d' =>
      simp only [S.setOwn]
      by_cases hd : d = d'
      · subst hd; rw [upd_same]; simp
      · rw [upd_ne _ _ hd]; exact this
  · rcases hnew b' o u h with h1 | rfl
    · exact .inl h1
    · exact .inr (.inr ⟨i, x, n, hi, hx, hp⟩)
  · rw [pos] at h1
    rcases own' j y hj with ⟨rfl, _⟩ | ⟨_, hj'⟩
    · exact .inr ⟨j, x, n1, hi, hx, h1⟩
    · exact .inr ⟨j, y, n1, hj', hy, h1⟩
/-- a variable of the call's own is made -/
theorem Sat.newL {c c1 : Ctx} {s : S} {a : Act} {w w1 : World} {d : Nat} {x : AO} {b n : Nat} (g : Sat c s a w) (m : Mk c w c1 w1) (hd : s.L d = none) (hb : w.heap.size ≤ b) (ho : ORep c1 w1 x b n) :
    Sat { c1 with lam := upd c1.lam d (b, n) } (s.setOwn (.l d) x) a w1 ∧ Ext c s.own w { c1 with lam := upd c1.lam d (b, n) } (s.setOwn (.l d) x).own w1 := by
  obtain ⟨g1, x1⟩ := g.grow m
  have pne : ∀ j, j ≠ Id.l d → ({ c1 with lam := upd c1.lam d (b, n) } : Ctx).pos j = c1.pos j := fun j hj => by
    cases j with
    | e k => rfl
    | l d' => simp only [Ctx.pos]; rw [upd_ne]; exact fun e => hj (by rw [e])
  have psame : ({ c1 with lam := upd c1.lam d (b, n) } : Ctx).pos (.l d) = some (b, n) := by simp only [Ctx.pos, upd_same]
  have oldlt : ∀ j y b1 n1, s.own j = some y → ¬ y.empty → c1.pos j = some (b1, n1) → b1 < w.heap.size := fun j y b1 n1 hj hy h1 => by
    obtain ⟨b2, n2, h2, h3⟩ := g.conc.obj j y hj hy
    obtain ⟨b3, n3, h4, h5⟩ := g1.conc.obj j y hj hy
    have e1 : c1.pos j = some (b2, n2) := by
      cases j with
      | e k => exact m.ext _ _ h2
      | l d' => simp only [Ctx.pos] at h2 ⊢; rw [m.lam]; exact h2
    rw [h1] at e1; injection e1 with e1; injection e1 with e1; subst e1; exact h3.lt
  have own' : ∀ j y, (s.setOwn (.l d) x).own j = some y → (j = .l d ∧ y = x) ∨ (j ≠ .l d ∧ s.own j = some y) := fun j y h => by
    by_cases hj : j = .l d
    · subst hj; rw [setOwn_same] at h; exact .inl ⟨rfl, by injection h with h; exact h.symm⟩
    · rw [setOwn_ne _ _ hj] at h; exact .inr ⟨hj, h⟩
  have repk : ∀ {y b1 n1}, ORep c1 w1 y b1 n1 → ORep { c1 with lam := upd c1.lam d (b, n) } w1 y b1 n1 := fun h => h.keep rfl (fun _ _ _ h => h) (fun _ _ h => h) (fun _ _ h => h)
  refine ⟨⟨⟨g1.conc.mem, fun j y hj hy => ?_, fun j k y z b1 n1 n2 hj hk hy hz h1 h2 => ?_, ?_⟩, by rw [g.size, (setOwn_t s _ x).2], fun j => ?_, g1.defers, fun j e h => ?_⟩, ⟨x1.os, x1.tape, x1.output, x1.size, x1.blk, x1.mem, x1.new, x1.ext, fun j y b1 n1 hj hy h1 => ?_, x1.base, fun k y hk => .inl (by
    rcases own' _ y hk with ⟨h', _⟩ | ⟨_, h'⟩
    · cases h'
    · rw [h']; simp)⟩⟩
  · rcases own' j y hj with ⟨rfl, rfl⟩ | ⟨hne, hj'⟩
    · exact ⟨b, n, psame, repk ho⟩
    · obtain ⟨b1, n1, h1, h2⟩ := g1.conc.obj j y hj' hy
      exact ⟨b1, n1, by rw [pne j hne]; exact h1, repk h2⟩
  · rcases own' j y hj with ⟨rfl, rfl⟩ | ⟨hne, hj'⟩
    · rcases own' k z hk with ⟨rfl, rfl⟩ | ⟨hnk, hk'⟩
      · rfl
      · rw [psame] at h1
        rw [pne k hnk] at h2
        have := oldlt k z b1 n2 hk' hz h2
        injection h1 with h1; injection h1 with h1; omega
    · rw [pne j hne] at h1
      rcases own' k z hk with ⟨rfl, rfl⟩ | ⟨hnk, hk'⟩
      · rw [psame] at h2
        have := oldlt j y b1 n1 hj' hy h1
        injection h2 with h2; injection h2 with h2; omega
      · rw [pne k hnk] at h2
        exact g1.conc.inj j k y z b1 n1 n2 hj' hk' hy hz h1 h2
  · obtain ⟨N, hN⟩ := g1.conc.fin
    exact ⟨N, fun k hk => ⟨(hN k hk).1, by rw [setOwn_ne _ _ (by simp)]; exact (hN k hk).2⟩⟩
  · rw [(setOwn_t s _ x).1]
    have h := g1.tmps j
    have hl : (s.t j).loc ≠ some d := fun e => g.wf j d e hd
    generalize s.t j = y at h hl
    cases y with
    | lp d' off => have hd' : d' ≠ d := fun e => hl (by rw [e]; rfl)
                   simp only [RepX, upd_ne _ _ hd'] at h ⊢; exact h
    | lts d' z sz es => have hd' : d' ≠ d := fun e => hl (by rw [e]; rfl)
                        simp only [RepX, upd_ne _ _ hd'] at h ⊢; exact h
    | lmp d' => have hd' : d' ≠ d := fun e => hl (by rw [e]; rfl)
                simp only [RepX, upd_ne _ _ hd'] at h ⊢; exact h
    | _ => exact h
  · rw [(setOwn_t s _ x).1] at h
    have := g.wf j e h
    simp only [S.setOwn]
    by_cases he : e = d
    · subst he; rw [upd_same]; simp
    · rw [upd_ne _ _ he]; exact this
  · rcases own' j y hj with ⟨rfl, rfl⟩ | ⟨hne, hj'⟩
    · rw [psame] at h1; injection h1 with h1; injection h1 with h1; exact .inl (by omega)
    · rw [pne j hne] at h1
      exact x1.own j y b1 n1 hj' hy h1
/-- an object is made, under whatever name is free -/
theorem Sat.newE {c c1 : Ctx} {s : S} {a : Act} {w w1 : World} {x : AO} {b n : Nat} (g : Sat c s a w) (m : Mk c w c1 w1) (hb : w.heap.size ≤ b) (ho : ORep c1 w1 x b n) :
    ∃ k, s.H k = none ∧ c1.β k = none ∧ Sat { c1 with β := upd c1.β k (some (b, n)) } (s.setOwn (.e k) x) a w1 ∧ Ext c s.own w { c1 with β := upd c1.β k (some (b, n)) } (s.setOwn (.e k) x).own w1 := by
  obtain ⟨g1, x1⟩ := g.grow m
  obtain ⟨N, hN⟩ := g1.conc.fin
  refine ⟨N, (hN N (Nat.le_refl _)).2, (hN N (Nat.le_refl _)).1, ?_⟩
  have hk0 := (hN N (Nat.le_refl _)).1
  have hH0 : s.own (.e N) = none := (hN N (Nat.le_refl _)).2
  have hext : ∀ k p, c1.β k = some p → upd c1.β N (some (b, n)) k = some p := fun k p h => by
    by_cases e : k = N
    · subst e; rw [hk0] at h; cases h
    · rw [upd_ne _ _ e]; exact h
  have pne : ∀ j, j ≠ Id.e N → ({ c1 with β := upd c1.β N (some (b, n)) } : Ctx).pos j = c1.pos j := fun j hj => by
    cases j with
    | l d => rfl
    | e k => simp only [Ctx.pos]; rw [upd_ne]; exact fun e => hj (by rw [e])
  have psame : ({ c1 with β := upd c1.β N (some (b, n)) } : Ctx).pos (.e N) = some (b, n) := by simp only [Ctx.pos, upd_same]
  have oldlt : ∀ j y b1 n1, s.own j = some y → ¬ y.empty → c1.pos j = some (b1, n1) → b1 < w.heap.size := fun j y b1 n1 hj hy h1 => by
    obtain ⟨b2, n2, h2, h3⟩ := g.conc.obj j y hj hy
    have e1 : c1.pos j = some (b2, n2) := by
      cases j with
      | e k => exact m.ext _ _ h2
      | l d' => simp only [Ctx.pos] at h2 ⊢; rw [m.lam]; exact h2
    rw [h1] at e1; injection e1 with e1; injection e1 with e1; subst e1; exact h3.lt
  have own' : ∀ j y, (s.setOwn (.e N) x).own j = some y → (j = .e N ∧ y = x) ∨ (j ≠ .e N ∧ s.own j = some y) := fun j y h => by
    by_cases hj : j = .e N
    · subst hj; rw [setOwn_same] at h; exact .inl ⟨rfl, by injection h with h; exact h.symm⟩
    · rw [setOwn_ne _ _ hj] at h; exact .inr ⟨hj, h⟩
  have repk : ∀ {y b1 n1}, ORep c1 w1 y b1 n1 → ORep { c1 with β := upd c1.β N (some (b, n)) } w1 y b1 n1 := fun h => h.keep rfl (fun _ _ _ h => h) (fun _ _ h => h) hext
  refine ⟨⟨⟨g1.conc.mem, fun j y hj hy => ?_, fun j k y z b1 n1 n2 hj hk hy hz h1 h2 => ?_, ?_⟩, by rw [g.size, (setOwn_t s _ x).2], fun j => ?_, g1.defers, fun j e h => ?_⟩, ⟨x1.os, x1.tape, x1.output, x1.size, x1.blk, x1.mem, x1.new, fun k p h => hext k p (x1.ext k p h), fun j y b1 n1 hj hy h1 => ?_, x1.base, fun k y hk => by
    rcases own' _ y hk with ⟨h', _⟩ | ⟨_, h'⟩
    · injection h' with h'; subst h'
      refine .inr ?_
      cases h2 : c.β k with
      | none => rfl
      | some p => rw [m.ext k p h2] at hk0; cases hk0
    · exact .inl (by rw [h']; simp)⟩⟩
  · rcases own' j y hj with ⟨rfl, rfl⟩ | ⟨hne, hj'⟩
    · exact ⟨b, n, psame, repk ho⟩
    · obtain ⟨b1, n1, h1, h2⟩ := g1.conc.obj j y hj' hy
      exact ⟨b1, n1, by rw [pne j hne]; exact h1, repk h2⟩
  · rcases own' j y hj with ⟨rfl, rfl⟩ | ⟨hne, hj'⟩
    · rcases own' k z hk with ⟨rfl, rfl⟩ | ⟨hnk, hk'⟩
      · rfl
      · rw [psame] at h1
        rw [pne k hnk] at h2
        have := oldlt k z b1 n2 hk' hz h2
        injection h1 with h1; injection h1 with h1; omega
    · rw [pne j hne] at h1
      rcases own' k z hk with ⟨rfl, rfl⟩ | ⟨hnk, hk'⟩
      · rw [psame] at h2
        have := oldlt j y b1 n1 hj' hy h1
        injection h2 with h2; injection h2 with h2; omega
      · rw [pne k hnk] at h2
        exact g1.conc.inj j k y z b1 n1 n2 hj' hk' hy hz h1 h2
  · refine ⟨N + 1, fun k hk => ⟨?_, ?_⟩⟩
    · show upd c1.β N (some (b, n)) k = none
      rw [upd_ne _ _ (by omega)]; exact (hN k (by omega)).1
    · rw [setOwn_ne _ _ (fun e => by injection e with e; omega)]; exact (hN k (by omega)).2
  · rw [(setOwn_t s _ x).1]
    exact RepX.mono (c := c1) (c' := { c1 with β := upd c1.β N (some (b, n)) }) (fun _ _ _ h => h) hext rfl (g1.tmps j)
  · rw [(setOwn_t s _ x).1] at h; exact g.wf j e h
  · rcases own' j y hj with ⟨rfl, rfl⟩ | ⟨hne, hj'⟩
    · rw [psame] at h1; injection h1 with h1; injection h1 with h1; exact .inl (by omega)
    · rw [pne j hne] at h1
      exact x1.own j y b1 n1 hj' hy h1
end Go.Proofs.Ytikcmjamioopbaa.E
/- Memory, operation by operation. Plain theorems, for any program. -/
namespace Go.Proofs.Ytikcmjamioopbaa.E
open Go.RowKit
set_option linter.unusedVariables false

section
variable {P : Program} {all : Array Oper} {o : Oper} {s s' : S}
/-- as QV, where something is known of memory -/
def QR (P : Program) (o : Oper) (s : S) (pre : Ctx → World → Prop) (x : X) : Prop :=
  (∀ d, x.loc = some d → ∃ y, y ∈ o.op.operands ∧ (s.eval y).loc = some d) ∧
  ∀ (c : Ctx) (w : World) (a : Act), MemOk c w → pre c w → (∀ y, y ∈ o.op.operands → RepX c (s.eval y) (a.eval y)) → o.wp P a w (fun a' w' => ∃ v c', a' = a.put o.dst v ∧ RepX c' x v ∧ Mk c w c' w') (fun _ _ _ => False)
theorem QR.of_same {pre : Ctx → World → Prop} {x : X} (hl : ∀ d, x.loc = some d → ∃ y, y ∈ o.op.operands ∧ (s.eval y).loc = some d)
    (h : ∀ (c : Ctx) (w : World) (a : Act), MemOk c w → pre c w → (∀ y, y ∈ o.op.operands → RepX c (s.eval y) (a.eval y)) → ∃ v, (execOp a.eval o).run P w = .ok (.value v) w ∧ RepX c x v) : QR P o s pre x :=
  ⟨hl, fun c w a hm hp hr => by
    obtain ⟨v, h1, h2⟩ := h c w a hm hp hr
    unfold Oper.wp
    rw [h1]
    exact ⟨v, c, rfl, h2, .refl hm⟩⟩
/-- an operation that is carried out, and turns the places W -/
structure LR (P : Program) (o : Oper) (R W : List Loc) (s s' : S) : Prop where
  len : Len s' s
  out : ∀ ℓ, ℓ ∉ W → Same ℓ s' s
  run : ∀ s1, Len s1 s → (∀ ℓ, ℓ ∈ R → Same ℓ s1 s) → ∀ (c : Ctx) (a : Act) (w : World), Sat c s1 a w → o.wp P a w (fun a' w' => ∃ c', Sat c' (s1.over W s') a' w' ∧ Ext c s1.own w c' (s1.over W s').own w') (fun _ _ _ => False)
theorem LOp.r {R W : List Loc} (h : LR P o R W s s') (hg : o.guard = none) : LOp P all o R W s s' :=
  ⟨h.len, h.out, fun s1 hl hs c a w g => by
    unfold opRun
    rw [if_pos (by simp [Region.wanted, hg])]
    exact wp_weak (h.run s1 hl hs c a w g) fun _ _ ⟨c', g', x'⟩ => ⟨_, c', rfl, g', x'⟩⟩
theorem LOp.rOn {R W : List Loc} {j t : Nat} {b : Bool} (h : LR P o R W s s') (hg : o.guard = some (j, b)) (hj : (all[j]?).bind (·.dst) = some t) (hb : s.t t = tv (.bool b)) : LOp P all o (.t t :: R) W s s' :=
  ⟨h.len, h.out, fun s1 hl hs c a w g => by
    have hb1 : s1.t t = tv (.bool b) := Eq.trans (hs (.t t) (by simp)) hb
    unfold opRun
    rw [if_pos (by simp [Region.wanted, hg, yield_of g hj hb1])]
    exact wp_weak (h.run s1 hl (fun ℓ h => hs ℓ (by simp [h])) c a w g) fun _ _ ⟨c', g', x'⟩ => ⟨_, c', rfl, g', x'⟩⟩
/-- a value that is read off memory -/
theorem LR.q {pre : Ctx → World → Prop} {x : X} {R : List Loc} (h : QR P o s pre x) (hR : ∀ ℓ, ℓ ∈ (o.looksAt #[]).map Loc.t → ℓ ∈ R) (hd : inB o.dst s.n = true)
    (hpre : ∀ s1, (∀ ℓ, ℓ ∈ R → Same ℓ s1 s) → ∀ (c : Ctx) (a : Act) (w : World), Sat c s1 a w → pre c w) : LR P o R (dstT o) s (s.put o.dst x) := by
  refine ⟨put_len _ _ _, fun ℓ hℓ => put_out hℓ, fun s1 hl hs c a w g => ?_⟩
  unfold dstT
  rw [over_put]
  have hev : ∀ y, y ∈ o.op.operands → s1.eval y = s.eval y := fun y hy => by
    cases y with
    | tmp t =>
      exact hs (.t t) (hR _ (List.mem_map.2 ⟨t, List.mem_append_left _ (List.mem_filterMap.2 ⟨.tmp t, by simpa using hy, rfl⟩), rfl⟩))
    | _ => rfl
  refine wp_weak0 (h.2 c w a g.memOk (hpre s1 hs c a w g) fun y hy => by rw [← hev y hy]; exact g.eval y) ?_
  rintro a' w' ⟨v, c', rfl, hr, m⟩
  obtain ⟨g', x'⟩ := g.grow m
  refine ⟨c', g'.put _ (hl ▸ hd) hr fun d e => ?_, by rw [own_put]; exact x'⟩
  obtain ⟨y, hy, hy'⟩ := h.1 d e
  rw [← hev y hy] at hy'
  exact lp_wf g hy'
abbrev lk (o : Oper) : List Loc := (o.looksAt #[]).map Loc.t

/-! ### cells of an object -/
def CellsAt (c : Ctx) (w : World) (b : Nat) (l : List A) : Prop := ∃ us ty, w.heap[b]? = some (.cells us ty (0, 0)) ∧ Reps (RepA c.μ c.β) l (us.toList.take l.length)
theorem CellsAt.box {c : Ctx} {w : World} {b n : Nat} {l : List A} (h : ORep c w (.box l) b n) : CellsAt c w b l := by
  obtain ⟨us, ty, h1, h2, h3⟩ := h
  exact ⟨us, ty, h1, by rw [h2.1, List.take_length]; exact h2⟩
theorem CellsAt.row {c : Ctx} {w : World} {b n sz : Nat} {e : TypeId} {l : List A} (h : ORep c w (.row e sz l) b n) : CellsAt c w b l := by
  obtain ⟨us, h1, _, _, h2, h3⟩ := h
  exact ⟨us, e, h1, h2⟩
theorem CellsAt.range {c : Ctx} {w : World} {b : Nat} {l : List A} (h : CellsAt c w b l) (off n : Nat) (hn : off + n ≤ l.length) : ∃ cs : List Value, cs.length = n ∧ Reps (RepA c.μ c.β) ((l.drop off).take n) cs ∧ w.rangeAt b off cs := by
  obtain ⟨us, ty, h1, h2⟩ := h
  have h3 := (h2.drop off).take n
  refine ⟨_, ?_, h3, fun j v hv => ?_⟩
  · have := h2.1
    simp at this ⊢; omega
  · rw [List.getElem?_take] at hv
    split at hv
    · rw [List.getElem?_drop, List.getElem?_take] at hv
      split at hv
      · simp only [World.cell?, h1]; simpa using hv
      · cases hv
    · cases hv
def mkC (agg : Bool) (l : List A) : C :=
  match agg, l with
  | false, [x] => .a x
  | _, l => .g l
/-- a load, of cells in a row -/
theorem load_run {t : TypeId} {agg : Bool} {n : Nat} (ty : tyB P t agg n = true) {w : World} {b off : Nat} {cs : List Value} (hc : w.rangeAt b off cs) (hl : cs.length = n) {μ : Mem} {β : Pos} {l : List A} (hr : Reps (RepA μ β) l cs) :
    ∃ v, (Instr.loadAt t (.pointer (some ⟨b, off, none⟩))).run P w = .ok v w ∧ RepC μ β (mkC agg l) v := by
  obtain ⟨d, i, h1, h2, h3, h4, h5⟩ := tyB_get ty
  cases agg with
  | true =>
    refine ⟨.agg cs.toArray, run_loadAt_mid w b off t cs d hc h1 h3 (by rw [h2]; simp [h4, hl]), cs.toArray, ?_⟩
    exact ⟨rfl, by simpa using hr⟩
  | false =>
    have hn := h5 rfl
    subst hn
    match cs, hl, l, hr.1 with
    | [v], _, [x], _ =>
      have hcell := hc 0 v rfl
      refine ⟨v, ?_, hr.2 0 x v rfl rfl⟩
      have hagg : (isAgg t).run P w = .ok false w := by
        unfold isAgg
        rw [Sem.run_bind, run_underlying h1 w]
        cases d <;> simp_all
      simp only [Nat.add_zero] at hcell
      simp [Instr.loadAt, Instr.sureAddr, loadVar, hagg, hcell]
theorem r_load {t : TypeId} {y : Operand} {agg : Bool} {n b off : Nat} (ho : o.op = .load t y) (ty : tyB P t agg n = true) (cells : List A) (pre : Ctx → World → Prop) (hp : ∀ (c : Ctx) (w : World) (v : Value), MemOk c w → pre c w → RepX c (s.eval y) v → ∃ b, v = .pointer (some ⟨b, off, none⟩) ∧ CellsAt c w b cells)
    (r : C) (hn : off + n ≤ cells.length) (hr : mkC agg ((cells.drop off).take n) = r) : QR P o s pre (.c r) :=
  .of_same (fun _ => nolp) fun c w a hm hpre hrep => by
    obtain ⟨b, hv, hc⟩ := hp c w _ hm hpre (hrep y (by rw [ho]; simp [Op.operands]))
    obtain ⟨cs, h1, h2, h3⟩ := hc.range off n hn
    obtain ⟨v, h4, h5⟩ := load_run ty h3 h1 h2
    refine ⟨v, by simp [execOp, ho, hv, h4], ?_⟩
    show RepC _ _ r v
    rw [← hr]; exact h5
/-- a variable of the call's own -/
theorem l_load {t : TypeId} {y : Operand} {agg : Bool} {n d off : Nat} {cells : List A} (r : C) (ho : o.op = .load t y) (ty : tyB P t agg n = true) (hy : s.eval y = .lp d off) (hL : s.L d = some (.box cells)) (hr : mkC agg ((cells.drop off).take n) = r) (hn : Nat.ble (off + n) cells.length = true) (hd : inB o.dst s.n = true) :
    LR P o (.b d :: lk o) (dstT o) s (s.put o.dst (.c r)) :=
  .q (pre := fun c w => ORep c w (.box cells) (c.lam d).1 (c.lam d).2) (r_load (b := 0) (off := off) ho ty cells _ (fun c w v hm hp hv => ⟨(c.lam d).1, by rw [hy] at hv; exact hv, .box hp⟩) r (Nat.le_of_ble_eq_true hn) hr) (fun ℓ h => by simp [lk, h]) hd
    fun s1 hs c a w g => by
      have hb : s1.L d = some (.box cells) := Eq.trans (hs (.b d) (by simp)) hL
      obtain ⟨b, n, h1, h2⟩ := g.conc.obj (.l d) (.box cells) hb (by simp [AO.empty])
      injection h1 with h1
      rw [h1]; exact h2
/-- an object's cells, through a pointer -/
theorem h_load {t : TypeId} {y : Operand} {agg : Bool} {n k off : Nat} {cells : List A} (r : C) (ho : o.op = .load t y) (ty : tyB P t agg n = true) (hy : s.eval y = .c (.a (.bp k off))) (hH : s.H k = some (.box cells)) (hr : mkC agg ((cells.drop off).take n) = r) (hn : Nat.ble (off + n) cells.length = true) (hd : inB o.dst s.n = true) :
    LR P o (.h :: lk o) (dstT o) s (s.put o.dst (.c r)) :=
  .q (pre := fun c w => ∃ b n, c.β k = some (b, n) ∧ ORep c w (.box cells) b n) (r_load (b := 0) (off := off) ho ty cells _ (fun c w v hm ⟨b, n, hb, hp⟩ hv => ⟨b, by rw [hy] at hv; cases hv with | bp h => rw [hb] at h; cases h; rfl, .box hp⟩) r (Nat.le_of_ble_eq_true hn) hr) (fun ℓ h => by simp [lk, h]) hd
    fun s1 hs c a w g => by
      have hb : s1.H k = some (.box cells) := Eq.trans (congrFun (hs .h (by simp)) k) hH
      exact g.conc.obj (.e k) (.box cells) hb (by simp [AO.empty])
theorem h_loadR {t e : TypeId} {y : Operand} {agg : Bool} {n k off sz : Nat} {cells : List A} (r : C) (ho : o.op = .load t y) (ty : tyB P t agg n = true) (hy : s.eval y = .c (.a (.bp k off))) (hH : s.H k = some (.row e sz cells)) (hr : mkC agg ((cells.drop off).take n) = r) (hn : off + n ≤ cells.length) (h0 : 0 < n) (hd : inB o.dst s.n = true) :
    LR P o (.h :: lk o) (dstT o) s (s.put o.dst (.c r)) :=
  .q (pre := fun c w => ∃ b n, c.β k = some (b, n) ∧ ORep c w (.row e sz cells) b n) (r_load (b := 0) (off := off) ho ty cells _ (fun c w v hm ⟨b, n, hb, hp⟩ hv => ⟨b, by rw [hy] at hv; cases hv with | bp h => rw [hb] at h; cases h; rfl, .row hp⟩) r hn hr) (fun ℓ h => by simp [lk, h]) hd
    fun s1 hs c a w g => by
      have hb : s1.H k = some (.row e sz cells) := Eq.trans (congrFun (hs .h (by simp)) k) hH
      exact g.conc.obj (.e k) (.row e sz cells) hb (fun e => by simp only [AO.empty] at e; subst e; simp at hn; omega)
/-- common memory, through a pointer -/
theorem q_load {t : TypeId} {y : Operand} {agg : Bool} {n : Nat} {l : List T} (r : C) (ho : o.op = .load t y) (ty : tyB P t agg n = true) (hy : s.eval y = .pc l) (hr : mkC agg ((l.take n).map .t) = r) (hnb : Nat.ble n l.length = true) : QV P o s (.c r) :=
  have hn := Nat.le_of_ble_eq_true hnb
  .of_same (fun _ => nolp) fun c w a hm hrep => by
    have h0 := hrep y (by rw [ho]; simp [Op.operands])
    rw [hy] at h0
    obtain ⟨b, off, hv, u, hu⟩ := h0
    obtain ⟨v, h4, h5⟩ := load_run (P := P) ty (w := w) (b := b) (off := off) (cs := (List.range n).map u) (fun j v hj => by
        have hlt : j < n := by
          rcases Nat.lt_or_ge j n with h | h
          · exact h
          · rw [List.getElem?_eq_none (by simpa using h)] at hj; cases hj
        rw [List.getElem?_map, List.getElem?_range hlt] at hj
        injection hj with hj; subst hj
        exact hm.mem _ _ _ (hu j l[j] (List.getElem?_eq_getElem (by omega))).1) (by simp) (μ := c.μ) (β := c.β) (l := (l.take n).map .t) ⟨by simp [Nat.min_eq_left hn], fun i x v h1 h2 => by
        rw [List.getElem?_map, List.getElem?_take] at h1
        obtain ⟨z, hz, rfl⟩ := Option.map_eq_some_iff.1 h1
        split at hz
        · rename_i hlt
          rw [List.getElem?_map, List.getElem?_range hlt] at h2
          injection h2 with h2; subst h2
          exact .t (hu i z hz).2
        · cases hz⟩
    refine ⟨v, by simp [execOp, ho, hv, h4], ?_⟩
    show RepC _ _ r v
    rw [← hr]; exact h5

/-! ### addresses -/
theorem add_mid (b off j : Nat) : (⟨b, off, none⟩ : Addr).add j = ⟨b, off + j, none⟩ := Addr.add_mid b off j
theorem field_run {t : TypeId} {i fo : Nat} (hf : fldB P t i fo = true) (w : World) (b off : Nat) : (Instr.fieldAt t (.pointer (some ⟨b, off, none⟩)) i).run P w = .ok (.pointer (some ⟨b, off + fo, none⟩)) w := by
  obtain ⟨fs, f, j, h1, h2, h3, h4, h5⟩ := fldB_get hf
  simp [Instr.fieldAt, run_underlying h1, h2, Instr.sureAddr, fieldPlace, sizeOf, typeInfo, h4, h5, h3, add_mid]
theorem q_fieldL {t : TypeId} {y : Operand} {i fo d off : Nat} (r : Nat) (ho : o.op = .fieldAddr t y i) (hf : fldB P t i fo = true) (hy : s.eval y = .lp d off) (hr : off + fo = r) : QV P o s (.lp d r) :=
  .of_same (fun d' h => ⟨y, by rw [ho]; simp [Op.operands], by rw [hy]; exact h⟩) fun c w a hm hrep => by
    have h0 := hrep y (by rw [ho]; simp [Op.operands])
    rw [hy] at h0
    have h0 : a.eval y = .pointer (some ⟨(c.lam d).1, off, none⟩) := h0
    exact ⟨_, by simp [execOp, ho, h0, field_run hf, hr], rfl⟩
theorem q_fieldH {t : TypeId} {y : Operand} {i fo k off : Nat} (r : Nat) (ho : o.op = .fieldAddr t y i) (hf : fldB P t i fo = true) (hy : s.eval y = .c (.a (.bp k off))) (hr : off + fo = r) : QV P o s (.c (.a (.bp k r))) :=
  .of_same (fun _ => nolp) fun c w a hm hrep => by
    have h0 := hrep y (by rw [ho]; simp [Op.operands])
    rw [hy] at h0
    generalize hv : a.eval y = v at h0
    cases h0 with
    | bp hk => exact ⟨_, by simp [execOp, ho, hv, field_run hf, hr], .bp hk⟩
theorem q_fieldP {t : TypeId} {y : Operand} {i fo : Nat} {l : List T} (r : List T) (ho : o.op = .fieldAddr t y i) (hf : fldB P t i fo = true) (hy : s.eval y = .pc l) (hr : l.drop fo = r) : QV P o s (.pc r) :=
  .of_same (fun _ h => by cases h) fun c w a hm hrep => by
    have h0 := hrep y (by rw [ho]; simp [Op.operands])
    rw [hy] at h0
    obtain ⟨b, off, hv, u, hu⟩ := h0
    refine ⟨_, by simp [execOp, ho, hv, field_run hf], b, off + fo, rfl, fun i => u (fo + i), fun i x hx => ?_⟩
    rw [← hr, List.getElem?_drop] at hx
    have := hu _ x hx
    rw [Nat.add_assoc]; exact this
theorem q_nilL {y : Operand} {d off : Nat} (ho : o.op = .nilCheck y) (hy : s.eval y = .lp d off) : QV P o s (.lp d off) :=
  .of_same (fun d' h => ⟨y, by rw [ho]; simp [Op.operands], by rw [hy]; exact h⟩) fun c w a hm hrep => by
    have h0 := hrep y (by rw [ho]; simp [Op.operands])
    rw [hy] at h0
    have h0 : a.eval y = .pointer (some ⟨(c.lam d).1, off, none⟩) := h0
    exact ⟨_, by simp [execOp, ho, h0], rfl⟩
theorem q_nilH {y : Operand} {k off : Nat} (ho : o.op = .nilCheck y) (hy : s.eval y = .c (.a (.bp k off))) : QV P o s (.c (.a (.bp k off))) :=
  .of_same (fun _ => nolp) fun c w a hm hrep => by
    have h0 := hrep y (by rw [ho]; simp [Op.operands])
    rw [hy] at h0
    generalize hv : a.eval y = v at h0
    cases h0 with
    | bp hk => exact ⟨_, by simp [execOp, ho, hv], .bp hk⟩
theorem q_nilP {y : Operand} {l : List T} (ho : o.op = .nilCheck y) (hy : s.eval y = .pc l) : QV P o s (.pc l) :=
  .of_same (fun _ h => by cases h) fun c w a hm hrep => by
    have h0 := hrep y (by rw [ho]; simp [Op.operands])
    rw [hy] at h0
    obtain ⟨b, off, hv, u, hu⟩ := h0
    exact ⟨_, by simp [execOp, ho, hv], b, off, rfl, u, hu⟩
/-- an element of a slice that is common memory -/
theorem sl_at {μ : Mem} {z : Nz} {sz : Nat} {es : List (List T)} {v : Value} (h : RepT μ (.sl z sz es) v) {i : Nat} {e : List T} (he : es[i]? = some e) : ∃ b off c, v = .slice (some ⟨b, off, none⟩) es.length c ∧ e.length = sz ∧ ∃ u : Nat → Value, ∀ (j : Nat) (x : T), e[j]? = some x → μ b (off + i * sz + j) = some (u j) ∧ RepT μ x (u j) := by
  cases h with
  | nil => simp at he
  | emp => simp at he
  | @sl _ _ _ b off n c u ne hn hc len mem rep => exact ⟨b, off, c, by rw [hn], len i e he, fun j => u i j, fun j x hx => ⟨by rw [Nat.add_assoc]; exact mem i e j x he hx, rep i e j x he hx⟩⟩
theorem index_run {t e : TypeId} {sz : Nat} (ty : slB P t e sz = true) (w : World) (b off n c : Nat) (k : IntKind) (i : Int) (h0 : 0 ≤ i) (h1 : i.toNat < n) : (Instr.indexAt t (.slice (some ⟨b, off, none⟩) n c) (.int k i)).run P w = .ok (.pointer (some ⟨b, off + i.toNat * sz, none⟩)) w := by
  obtain ⟨j, h2, h3, h4, h5⟩ := slB_get ty
  have h6 : i < (n : Int) := by omega
  simp [Instr.indexAt, asIntOf, run_underlying h2, h0, h6, sizeOf, typeInfo, h3, h4, add_mid]
theorem q_index {t e : TypeId} {x y : Operand} {z : Nz} {sz : Nat} {es : List (List T)} {k : IntKind} {i : Int} (r : List T) (ho : o.op = .indexAddr t x y) (ty : slB P t e sz = true) (hx : s.eval x = .c (.a (.t (.sl z sz es)))) (hy : s.eval y = iX k i) (h0 : 0 ≤ i) (hr : es[i.toNat]? = some r) : QV P o s (.pc r) :=
  .of_same (fun _ h => by cases h) fun c w a hm hrep => by
    have ha := hrep x (by rw [ho]; simp [Op.operands])
    have hb := hrep y (by rw [ho]; simp [Op.operands])
    rw [hx] at ha
    rw [hy] at hb
    have hb := rep_tv hb
    generalize hv : a.eval x = v at ha
    cases ha with
    | t ha =>
      obtain ⟨b, off, c', rfl, hlen, u, hu⟩ := sl_at ha hr
      have hlt : i.toNat < es.length := (List.getElem?_eq_some_iff.1 hr).1
      exact ⟨_, by simp [execOp, ho, hv, hb, index_run ty w b off es.length c' k i h0 hlt], b, off + i.toNat * sz, rfl, u, hu⟩
theorem q_indexTs {t e : TypeId} {x y : Operand} {q : Nat} {z : Nz} {sz : Nat} {es : List (List T)} {k : IntKind} {i : Int} (r : List T) (ho : o.op = .indexAddr t x y) (ty : slB P t e sz = true) (hx : s.eval x = .c (.a (.ts q z sz es))) (hy : s.eval y = iX k i) (h0 : 0 ≤ i) (hr : es[i.toNat]? = some r) : QV P o s (.pc r) :=
  .of_same (fun _ h => by cases h) fun c w a hm hrep => by
    have ha := hrep x (by rw [ho]; simp [Op.operands])
    have hb := hrep y (by rw [ho]; simp [Op.operands])
    rw [hx] at ha
    rw [hy] at hb
    have hb := rep_tv hb
    generalize hv : a.eval x = v at ha
    cases ha with
    | ts0 => simp at hr
    | tsE => simp at hr
    | ts hk hne hn ha =>
      obtain ⟨b, off, c', hv', hlen, u, hu⟩ := sl_at ha hr
      have hlt : i.toNat < es.length := (List.getElem?_eq_some_iff.1 hr).1
      rw [hv'] at hv
      exact ⟨_, by simp [execOp, ho, hv, hb, index_run ty w b off es.length c' k i h0 hlt], b, off + i.toNat * sz, rfl, u, hu⟩
theorem q_indexOs {t e : TypeId} {x y : Operand} {q off n sz : Nat} {k : IntKind} {i : Int} (r : Nat) (ho : o.op = .indexAddr t x y) (ty : slB P t e sz = true) (hx : s.eval x = .c (.a (.os q off n sz))) (hy : s.eval y = iX k i) (h0 : 0 ≤ i) (h1 : i.toNat < n) (hr : off + i.toNat * sz = r) : QV P o s (.c (.a (.bp q r))) :=
  .of_same (fun _ => nolp) fun c w a hm hrep => by
    have ha := hrep x (by rw [ho]; simp [Op.operands])
    have hb := hrep y (by rw [ho]; simp [Op.operands])
    rw [hx] at ha
    rw [hy] at hb
    have hb := rep_tv hb
    generalize hv : a.eval x = v at ha
    cases ha with
    | os0 => omega
    | os hk _ => exact ⟨_, by simp [execOp, ho, hv, hb, index_run ty w _ _ _ _ k i h0 h1, ← hr], .bp hk⟩
    | osub hk _ => exact ⟨_, by simp [execOp, ho, hv, hb, index_run ty w _ _ _ _ k i h0 h1, ← hr], .bp hk⟩
/-- an element of an array that is a variable -/
theorem q_indexL {t e : TypeId} {x y : Operand} {d off len sz : Nat} {k : IntKind} {i : Int} (r : Nat) (ho : o.op = .indexAddr t x y) (ty : arB P t len e sz = true) (hx : s.eval x = .lp d off) (hy : s.eval y = iX k i) (h0 : 0 ≤ i) (h1 : i.toNat < len) (hr : off + i.toNat * sz = r) : QV P o s (.lp d r) :=
  .of_same (fun d' h => ⟨x, by rw [ho]; simp [Op.operands], by rw [hx]; exact h⟩) fun c w a hm hrep => by
    have ha := hrep x (by rw [ho]; simp [Op.operands])
    have hb := hrep y (by rw [ho]; simp [Op.operands])
    rw [hx] at ha
    rw [hy] at hb
    have hb := rep_tv hb
    have ha : a.eval x = .pointer (some ⟨(c.lam d).1, off, none⟩) := ha
    obtain ⟨j, h2, h3, h4, h5⟩ := arB_get ty
    have h6 : i < (len : Int) := by omega
    exact ⟨_, by simp [execOp, ho, ha, hb, Instr.indexAt, asIntOf, run_underlying h2, Instr.sureAddr, h0, h6, sizeOf, typeInfo, h3, h4, add_mid, hr], rfl⟩
theorem q_indexP {t e : TypeId} {x y : Operand} {len sz : Nat} {l : List T} {k : IntKind} {i : Int} (r : List T) (ho : o.op = .indexAddr t x y) (ty : arB P t len e sz = true) (hx : s.eval x = .pc l) (hy : s.eval y = iX k i) (h0 : 0 ≤ i) (h1 : i.toNat < len) (hr : l.drop (i.toNat * sz) = r) : QV P o s (.pc r) :=
  .of_same (fun _ h => by cases h) fun c w a hm hrep => by
    have ha := hrep x (by rw [ho]; simp [Op.operands])
    have hb := hrep y (by rw [ho]; simp [Op.operands])
    rw [hx] at ha
    rw [hy] at hb
    have hb := rep_tv hb
    obtain ⟨b, off, hv, u, hu⟩ := ha
    obtain ⟨j, h2, h3, h4, h5⟩ := arB_get ty
    have h6 : i < (len : Int) := by omega
    refine ⟨.pointer (some ⟨b, off + i.toNat * sz, none⟩), by simp [execOp, ho, hv, hb, Instr.indexAt, asIntOf, run_underlying h2, Instr.sureAddr, h0, h6, sizeOf, typeInfo, h3, h4, add_mid], b, _, rfl, fun q => u (i.toNat * sz + q), fun q x hx => ?_⟩
    rw [← hr, List.getElem?_drop] at hx
    have := hu _ x hx
    rw [Nat.add_assoc]; exact this

/-! ### parts of values -/
theorem q_extract {y : Operand} {i : Nat} {l : List C} (r : C) (ho : o.op = .extract y i) (hy : s.eval y = .tup l) (hr : l[i]? = some r) : QV P o s (.c r) :=
  .of_same (fun _ => nolp) fun c w a hm hrep => by
    have h0 := hrep y (by rw [ho]; simp [Op.operands])
    rw [hy] at h0
    obtain ⟨us, hv, h1⟩ := h0
    obtain ⟨v, h2, h3⟩ := h1.get hr
    have h4 : us[i]? = some v := by simpa using h2
    exact ⟨v, by simp [execOp, ho, hv, Instr.extract, h4], h3⟩
theorem part_run {t : TypeId} {agg : Bool} {n off : Nat} (ty : tyB P t agg n = true) (w : World) {μ : Mem} {β : Pos} {l : List A} {us : Array Value} (hr : Reps (RepA μ β) l us.toList) (hn : off + n ≤ l.length) :
    ∃ v, (part t us off).run P w = .ok v w ∧ RepC μ β (mkC agg ((l.drop off).take n)) v := by
  obtain ⟨d, i, h1, h2, h3, h4, h5⟩ := tyB_get ty
  have hsz : us.size = l.length := by have := hr.1; simpa using this.symm
  cases agg with
  | true =>
    refine ⟨.agg (us.extract off (off + n)), ?_, us.extract off (off + n), rfl, ?_⟩
    · have hagg : (isAgg t).run P w = .ok true w := by
        unfold isAgg
        rw [Sem.run_bind, run_underlying h1 w]
        cases d <;> simp_all
      simp [part, hagg, sizeOf, typeInfo, h2, h4]
    · have := (hr.drop off).take n
      rw [Array.toList_extract]
      simpa [List.extract_eq_take_drop] using this
  | false =>
    have hn1 := h5 rfl
    subst hn1
    have hlt : off < l.length := by omega
    obtain ⟨v, h6, h7⟩ := hr.get (List.getElem?_eq_getElem hlt)
    have h6 : us[off]? = some v := by simpa using h6
    refine ⟨v, ?_, ?_⟩
    · have hagg : (isAgg t).run P w = .ok false w := by
        unfold isAgg
        rw [Sem.run_bind, run_underlying h1 w]
        cases d <;> simp_all
      simp [part, hagg, h6]
    · rw [List.drop_eq_getElem_cons hlt]
      exact h7
theorem q_field {t ft : TypeId} {y : Operand} {i fo : Nat} {agg : Bool} {n : Nat} {l : List A} (r : C) (ho : o.op = .field t y i) (hf : fldB P t i fo = true) (hft : ∃ fs f, P.underlying t = some (.struct fs) ∧ fs[i]? = some f ∧ f.type = ft) (ty : tyB P ft agg n = true)
    (hy : s.eval y = .c (.g l)) (hr : mkC agg ((l.drop fo).take n) = r) (hnb : Nat.ble (fo + n) l.length = true) : QV P o s (.c r) :=
  have hn := Nat.le_of_ble_eq_true hnb
  .of_same (fun _ => nolp) fun c w a hm hrep => by
    have h0 := hrep y (by rw [ho]; simp [Op.operands])
    rw [hy] at h0
    obtain ⟨us, hv, h1⟩ := h0
    obtain ⟨fs, f, j, h2, h3, h4, h5, h6⟩ := fldB_get hf
    obtain ⟨fs', f', h7, h8, h9⟩ := hft
    rw [h2] at h7; injection h7 with h7; injection h7 with h7; subst h7
    rw [h3] at h8; injection h8 with h8; subst h8
    obtain ⟨v, h10, h11⟩ := part_run (P := P) (off := fo) ty w h1 hn
    refine ⟨v, by simp [execOp, ho, hv, Instr.field, run_underlying h2, h3, asAgg, h4, h9, h10], ?_⟩
    show RepC _ _ r v
    rw [← hr]; exact h11
theorem q_indexA {t e : TypeId} {x y : Operand} {len sz : Nat} {agg : Bool} {l : List A} {k : IntKind} {i : Int} (r : C) (ho : o.op = .index t x y) (ta : arB P t len e sz = true) (ty : tyB P e agg sz = true) (hx : s.eval x = .c (.g l)) (hy : s.eval y = iX k i) (h0 : 0 ≤ i) (h1 : i.toNat < len)
    (hr : mkC agg ((l.drop (i.toNat * sz)).take sz) = r) (hn : i.toNat * sz + sz ≤ l.length) : QV P o s (.c r) :=
  .of_same (fun _ => nolp) fun c w a hm hrep => by
    have ha := hrep x (by rw [ho]; simp [Op.operands])
    have hb := hrep y (by rw [ho]; simp [Op.operands])
    rw [hx] at ha
    rw [hy] at hb
    have hb := rep_tv hb
    obtain ⟨us, hv, h2⟩ := ha
    obtain ⟨j, h3, h4, h5, h6⟩ := arB_get ta
    have h7 : i < (len : Int) := by omega
    obtain ⟨v, h10, h11⟩ := part_run (P := P) (off := i.toNat * sz) ty w h2 hn
    refine ⟨v, by simp [execOp, ho, hv, hb, Instr.index, asIntOf, run_underlying h3, h0, h7, sizeOf, typeInfo, h4, h5, h10], ?_⟩
    show RepC _ _ r v
    rw [← hr]; exact h11
theorem q_indexS {t : TypeId} {x y : Operand} {st : ByteArray} {k : IntKind} {i : Int} (b : UInt8) (ho : o.op = .index t x y) (ty : P.underlying t = some .string) (hx : s.eval x = sX st) (hy : s.eval y = iX k i) (h0 : 0 ≤ i) (hr : st.data.toList[i.toNat]? = some b) : QV P o s (iX .u8 (b.toNat : Int)) :=
  .of_same (fun _ => nolp) fun c w a hm hrep => by
    have ha := hrep x (by rw [ho]; simp [Op.operands])
    have hb := hrep y (by rw [ho]; simp [Op.operands])
    rw [hx] at ha
    rw [hy] at hb
    have ha := rep_tv ha
    have hb := rep_tv hb
    have h1 : st[i.toNat]? = some b := by
      have hlt : i.toNat < st.data.size := by simpa using (List.getElem?_eq_some_iff.1 hr).1
      have : st.data[i.toNat]? = some b := by simpa using hr
      rw [Array.getElem?_eq_getElem hlt] at this
      injection this with this
      rw [getElem?_pos st i.toNat hlt]
      rw [← this]; rfl
    exact ⟨_, by simp [execOp, ho, ha, hb, Instr.index, asIntOf, run_underlying ty, h0, h1], tv_rep rfl⟩
/-! ### lengths -/
theorem len_run {t : TypeId} {e : TypeId} (ty : P.underlying t = some (.slice e)) (u : TypeId) (w : World) (a : Option Addr) (n c : Nat) : (Builtin.len_ #[t] u #[.slice a n c]).run P w = .ok (.int .i64 n) w := by
  simp [Builtin.len_, run_underlying ty, goInt]
theorem q_lenC {y : Operand} {t u : TypeId} {n : Nat} {x : C} (ho : o.op = .call { callee := .builtin .len, args := #[y], argTypes := #[t] }) (hy : s.eval y = .c x)
    (h : ∀ (c : Ctx) (w : World) (v : Value), RepC c.μ c.β x v → (Builtin.len_ #[t] o.type #[v]).run P w = .ok (.int .i64 n) w) : QV P o s (iX .i64 n) :=
  .of_same (fun _ => nolp) fun c w a hm hrep => by
    have h0 := hrep y (by rw [ho]; simp [Op.operands, Call.operands])
    rw [hy] at h0
    exact ⟨_, by simp [execOp, ho, resolve, invoke, builtin, h c w _ h0], tv_rep rfl⟩
theorem q_lenS {y : Operand} {t : TypeId} {st : ByteArray} (ho : o.op = .call { callee := .builtin .len, args := #[y], argTypes := #[t] }) (ty : P.underlying t = some .string) (hy : s.eval y = sX st) : QV P o s (iX .i64 (st.size : Nat)) :=
  .of_same (fun _ => nolp) fun c w a hm hrep => by
    have h0 := hrep y (by rw [ho]; simp [Op.operands, Call.operands])
    rw [hy] at h0
    have h0 := rep_tv h0
    exact ⟨_, by simp [execOp, ho, h0, resolve, invoke, builtin, Builtin.len_, run_underlying ty, goInt], tv_rep rfl⟩
theorem q_len {y : Operand} {t e : TypeId} {z : Nz} {sz : Nat} {es : List (List T)} (ho : o.op = .call { callee := .builtin .len, args := #[y], argTypes := #[t] }) (ty : P.underlying t = some (.slice e)) (hy : s.eval y = .c (.a (.t (.sl z sz es)))) : QV P o s (iX .i64 (es.length : Nat)) :=
  q_lenC (u := 0) ho hy fun c w v h => by
    cases h with
    | t h => cases h with
      | nil => exact len_run ty _ w _ _ _
      | emp => exact len_run ty _ w _ _ _
      | sl u ne hn => rw [hn]; exact len_run ty _ w _ _ _
theorem q_lenTs {y : Operand} {t e : TypeId} {q : Nat} {z : Nz} {sz : Nat} {es : List (List T)} (ho : o.op = .call { callee := .builtin .len, args := #[y], argTypes := #[t] }) (ty : P.underlying t = some (.slice e)) (hy : s.eval y = .c (.a (.ts q z sz es))) : QV P o s (iX .i64 (es.length : Nat)) :=
  q_lenC (u := 0) ho hy fun c w v h => by
    cases h with
    | ts0 => exact len_run ty _ w _ _ _
    | tsE => exact len_run ty _ w _ _ _
    | ts hk hz hn h => rw [hn]; exact len_run ty _ w _ _ _
theorem q_lenOs {y : Operand} {t e : TypeId} {q off n sz : Nat} (ho : o.op = .call { callee := .builtin .len, args := #[y], argTypes := #[t] }) (ty : P.underlying t = some (.slice e)) (hy : s.eval y = .c (.a (.os q off n sz))) : QV P o s (iX .i64 (n : Nat)) :=
  q_lenC (u := 0) ho hy fun c w v h => by
    cases h with
    | os0 => exact len_run ty _ w _ _ _
    | os hk _ => exact len_run ty _ w _ _ _
    | osub hk _ => exact len_run ty _ w _ _ _
theorem q_lenN {y : Operand} {t e : TypeId} (ho : o.op = .call { callee := .builtin .len, args := #[y], argTypes := #[t] }) (ty : P.underlying t = some (.slice e)) (hy : s.eval y = tv (.slice none 0 0)) : QV P o s (iX .i64 (0 : Nat)) :=
  q_lenC (u := 0) ho hy fun c w v h => by
    cases h with
    | t h => cases h; exact len_run ty _ w _ _ _
end
end Go.Proofs.Ytikcmjamioopbaa.E
/- Memory written and made, operation by operation. Plain theorems, for any program. -/
namespace Go.Proofs.Ytikcmjamioopbaa.E
open Go.RowKit
set_option linter.unusedVariables false

section
variable {P : Program} {all : Array Oper} {o : Oper} {s s' : S}
/-- l, with v from off on -/
def splice {α : Type} (l : List α) (off : Nat) (v : List α) : List α := l.take off ++ v ++ l.drop (off + v.length)
theorem splice_len {α : Type} {l v : List α} {off : Nat} (h : off + v.length ≤ l.length) : (splice l off v).length = l.length := by simp [splice]; omega
theorem splice_get {α : Type} {l v : List α} {off : Nat} (h : off + v.length ≤ l.length) (i : Nat) : (splice l off v)[i]? = if i < off then l[i]? else if i < off + v.length then v[i - off]? else l[i]? := by
  unfold splice
  by_cases h1 : i < off
  · rw [if_pos h1, List.getElem?_append_left (by simp; omega), List.getElem?_append_left (by simp; omega), List.getElem?_take, if_pos h1]
  · rw [if_neg h1]
    by_cases h2 : i < off + v.length
    · rw [if_pos h2, List.getElem?_append_left (by simp; omega), List.getElem?_append_right (by simp; omega)]
      congr 1
      simp; omega
    · rw [if_neg h2, List.getElem?_append_right (by simp; omega), List.getElem?_drop]
      congr 1
      simp; omega
theorem take_splice {α : Type} {l v : List α} {off m : Nat} (h : off + v.length ≤ m) (hm : m ≤ l.length) : (splice l off v).take m = splice (l.take m) off v := by
  apply List.ext_getElem?
  intro i
  rw [List.getElem?_take, splice_get (by omega), splice_get (by simp; omega), List.getElem?_take]
  by_cases hi : i < m
  · simp [hi]
  · rw [if_neg hi, if_neg hi, if_neg (by omega), if_neg (by omega)]
theorem Reps.splice {α : Type} {R : α → Value → Prop} {l v : List α} {cs vs : List Value} {off : Nat} (h : Reps R l cs) (hv : Reps R v vs) : Reps R (splice l off v) (splice cs off vs) := by
  unfold E.splice
  rw [← hv.1]
  exact ((h.take off).append hv).append (h.drop _)

/-! ### stores -/
theorem store_run {t : TypeId} {agg : Bool} {n : Nat} (ty : tyB P t agg n = true) {w : World} {b off : Nat} {us : Array Value} {e : TypeId} (hb : w.heap[b]? = some (.cells us e (0, 0))) {v : Value} (hv : v.cells.size = n) (h1 : ∀ u ∈ v.cells.toList, u.oneCell' = true) (hn : off + n ≤ us.size) :
    (Instr.storeAt t (.pointer (some ⟨b, off, none⟩)) v).run P w = .ok () (w.setRow b (splice us.toList off v.cells.toList).toArray) := by
  obtain ⟨d, i, _, h3, _, h5, _⟩ := tyB_get ty
  have h6 := run_storeCells_at P b off e v.cells.toList 0 us w hb (by simp; omega) h1
  have h7 : ¬ v.cells.size ≠ i.size := by rw [hv, h5]; simp
  simp only [Instr.storeAt, Instr.sureAddr, storeVar, sizeOf, typeInfo, Sem.run_bind, Sem.run_pure, Result.andThen_ok, run_program, h3, if_neg h7, h6]
  simp [splice]
theorem cells_one {μ : Mem} {β : Pos} {x : C} {v : Value} (h : RepC μ β x v) : ∀ u ∈ v.cells.toList, u.oneCell' = true := h.cells.one fun _ _ => RepA.one
theorem ORep.storeBox {c : Ctx} {w : World} {b n off : Nat} {cells new : List A} {us : Array Value} {ty : TypeId} {vs : List Value} (h1 : w.heap[b]? = some (.cells us ty (0, 0))) (h2 : Reps (RepA c.μ c.β) cells us.toList) (h3 : ∀ o, c.μ b o = none) (hv : Reps (RepA c.μ c.β) new vs) :
    ORep c (w.setRow b (splice us.toList off vs).toArray) (.box (splice cells off new)) b n :=
  ⟨_, ty, setRow_heap w b us _ ty (0, 0) h1, by simpa using h2.splice (off := off) hv, h3⟩
/-- over two places -/
theorem over_two {s1 s : S} {d e : Option Nat} {W : List Loc} {x : X} : True := trivial
theorem over_L {s1 s : S} {d : Nat} {x : AO} : s1.over [.b d] (s.setOwn (.l d) x) = s1.setOwn (.l d) x := by
  refine S.ext' rfl fun ℓ => ?_
  cases ℓ with
  | b i =>
    by_cases h : i = d
    · subst h; simp [Same, S.over, S.setOwn, upd_same]
    · simp [Same, S.over, S.setOwn, upd_ne _ _ h, h]
  | _ => simp [Same, S.over, S.setOwn]
theorem over_H {s1 s : S} {k : Nat} {x : AO} (h : s1.H = s.H) : s1.over [.h] (s.setOwn (.e k) x) = s1.setOwn (.e k) x := by
  refine S.ext' rfl fun ℓ => ?_
  cases ℓ <;> simp [Same, S.over, S.setOwn, h]
theorem l_store {t : TypeId} {y z : Operand} {agg : Bool} {n d off : Nat} {cells : List A} {x : C} (r : List A) (ho : o.op = .store t y z) (hdst : o.dst = none) (ty : tyB P t agg n = true) (hy : s.eval y = .lp d off) (hz : s.eval z = .c x) (hL : s.L d = some (.box cells)) (hr : splice cells off x.cells = r) (hx : x.cells.length = n) (hnb : Nat.ble (off + n) cells.length = true) :
    LR P o (.b d :: lk o) [.b d] s (s.setOwn (.l d) (.box r)) := by
  have hn := Nat.le_of_ble_eq_true hnb
  refine ⟨(setOwn_t s (.l d) (.box r)).2, fun ℓ hℓ => ?_, fun s1 hl hs c a w g => ?_⟩
  · cases ℓ with
    | b i =>
      have hi : i ≠ d := fun e => hℓ (by simp [e])
      simp [Same, S.setOwn, upd_ne _ _ hi]
    | _ => simp [Same, S.setOwn]
  rw [over_L]
  have hb : s1.own (.l d) = some (.box cells) := Eq.trans (hs (.b d) (by simp)) hL
  have ev : ∀ u, u ∈ o.op.operands → s1.eval u = s.eval u := fun u hu => by
    cases u with
    | tmp t => exact hs (.t t) (List.mem_cons_of_mem _ (List.mem_map.2 ⟨t, List.mem_append_left _ (List.mem_filterMap.2 ⟨.tmp t, by simpa using hu, rfl⟩), rfl⟩))
    | _ => rfl
  have hy1 := g.eval y
  rw [ev y (by rw [ho]; simp [Op.operands]), hy] at hy1
  have hz1 := g.eval z
  rw [ev z (by rw [ho]; simp [Op.operands]), hz] at hz1
  have hy1 : a.eval y = .pointer (some ⟨(c.lam d).1, off, none⟩) := hy1
  have hz1 : RepC c.μ c.β x (a.eval z) := hz1
  obtain ⟨b, m, h1, h2⟩ := g.conc.obj (.l d) _ hb (by simp [AO.empty])
  have hbm : c.lam d = (b, m) := by injection h1
  rw [hbm] at hy1
  obtain ⟨us, e, h3, h4, h5⟩ := h2
  have hcs : (a.eval z).cells.size = n := by have := hz1.cells.1; rw [← hx, this]; simp
  have hus : us.size = cells.length := by have := h4.1; simpa using this.symm
  have hrun := store_run (P := P) ty h3 hcs (cells_one hz1) (by omega : off + n ≤ us.size)
  unfold Oper.wp execOp
  simp only [ho, hy1, Sem.run_bind, hrun, Result.andThen_ok, Sem.run_pure, Oper.upon, hdst, Act.put]
  have hblt : b < w.heap.size := (Array.getElem?_eq_some_iff.1 h3).1
  obtain ⟨g', x'⟩ := g.write (c' := c) (w' := w.setRow b (splice us.toList off (a.eval z).cells.toList).toArray) (i := .l d) (x' := .box r) hb (by simp [AO.empty]) h1 rfl rfl rfl (by simp) (fun k hk => setRow_other w b k _ hk) rfl rfl (fun _ _ _ h => h) (fun _ _ _ h => .inl h) (fun o u h => by rw [h5 o] at h; cases h)
    (by rw [← hr]; exact ORep.storeBox h3 h4 h5 hz1.cells)
  exact ⟨c, g', x'⟩
theorem h_store {t : TypeId} {y z : Operand} {agg : Bool} {n k off : Nat} {cells : List A} {x : C} (r : List A) (ho : o.op = .store t y z) (hdst : o.dst = none) (ty : tyB P t agg n = true) (hy : s.eval y = .c (.a (.bp k off))) (hz : s.eval z = .c x) (hH : s.H k = some (.box cells)) (hr : splice cells off x.cells = r) (hx : x.cells.length = n) (hnb : Nat.ble (off + n) cells.length = true) :
    LR P o (.h :: lk o) [.h] s (s.setOwn (.e k) (.box r)) := by
  have hn := Nat.le_of_ble_eq_true hnb
  refine ⟨(setOwn_t s (.e k) (.box r)).2, fun ℓ hℓ => ?_, fun s1 hl hs c a w g => ?_⟩
  · cases ℓ with
    | h => exact absurd (by simp) hℓ
    | _ => simp [Same, S.setOwn]
  have hHH : s1.H = s.H := hs .h (by simp)
  rw [over_H hHH]
  have hb : s1.own (.e k) = some (.box cells) := Eq.trans (congrFun hHH k) hH
  have ev : ∀ u, u ∈ o.op.operands → s1.eval u = s.eval u := fun u hu => by
    cases u with
    | tmp t => exact hs (.t t) (List.mem_cons_of_mem _ (List.mem_map.2 ⟨t, List.mem_append_left _ (List.mem_filterMap.2 ⟨.tmp t, by simpa using hu, rfl⟩), rfl⟩))
    | _ => rfl
  have hy1 := g.eval y
  rw [ev y (by rw [ho]; simp [Op.operands]), hy] at hy1
  have hz1 := g.eval z
  rw [ev z (by rw [ho]; simp [Op.operands]), hz] at hz1
  have hz1 : RepC c.μ c.β x (a.eval z) := hz1
  obtain ⟨b, m, h1, h2⟩ := g.conc.obj (.e k) _ hb (by simp [AO.empty])
  have hy1 : a.eval y = .pointer (some ⟨b, off, none⟩) := by
    generalize a.eval y = v at hy1
    cases hy1 with
    | bp h => have h1 : c.β k = some (b, m) := h1
              rw [h1] at h; cases h; rfl
  obtain ⟨us, e, h3, h4, h5⟩ := h2
  have hcs : (a.eval z).cells.size = n := by have := hz1.cells.1; rw [← hx, this]; simp
  have hus : us.size = cells.length := by have := h4.1; simpa using this.symm
  have hrun := store_run (P := P) ty h3 hcs (cells_one hz1) (by omega : off + n ≤ us.size)
  unfold Oper.wp execOp
  simp only [ho, hy1, Sem.run_bind, hrun, Result.andThen_ok, Sem.run_pure, Oper.upon, hdst, Act.put]
  obtain ⟨g', x'⟩ := g.write (c' := c) (w' := w.setRow b (splice us.toList off (a.eval z).cells.toList).toArray) (i := .e k) (x' := .box r) hb (by simp [AO.empty]) h1 rfl rfl rfl (by simp) (fun k hk => setRow_other w b k _ hk) rfl rfl (fun _ _ _ h => h) (fun _ _ _ h => .inl h) (fun o u h => by rw [h5 o] at h; cases h)
    (by rw [← hr]; exact ORep.storeBox h3 h4 h5 hz1.cells)
  exact ⟨c, g', x'⟩
theorem h_storeR {t et : TypeId} {y z : Operand} {agg : Bool} {n k off sz : Nat} {cells : List A} {x : C} (r : List A) (ho : o.op = .store t y z) (hdst : o.dst = none) (ty : tyB P t agg n = true) (hy : s.eval y = .c (.a (.bp k off))) (hz : s.eval z = .c x) (hH : s.H k = some (.row et sz cells)) (hr : splice cells off x.cells = r) (hx : x.cells.length = n) (hn : off + n ≤ cells.length) (h0 : 0 < n) :
    LR P o (.h :: lk o) [.h] s (s.setOwn (.e k) (.row et sz r)) := by
  refine ⟨(setOwn_t s (.e k) (.row et sz r)).2, fun ℓ hℓ => ?_, fun s1 hl hs c a w g => ?_⟩
  · cases ℓ with
    | h => exact absurd (by simp) hℓ
    | _ => simp [Same, S.setOwn]
  have hHH : s1.H = s.H := hs .h (by simp)
  rw [over_H hHH]
  have hne : ¬ (AO.row et sz cells).empty := fun e => by simp only [AO.empty] at e; subst e; simp at hn; omega
  have hb : s1.own (.e k) = some (.row et sz cells) := Eq.trans (congrFun hHH k) hH
  have ev : ∀ u, u ∈ o.op.operands → s1.eval u = s.eval u := fun u hu => by
    cases u with
    | tmp t => exact hs (.t t) (List.mem_cons_of_mem _ (List.mem_map.2 ⟨t, List.mem_append_left _ (List.mem_filterMap.2 ⟨.tmp t, by simpa using hu, rfl⟩), rfl⟩))
    | _ => rfl
  have hy1 := g.eval y
  rw [ev y (by rw [ho]; simp [Op.operands]), hy] at hy1
  have hz1 := g.eval z
  rw [ev z (by rw [ho]; simp [Op.operands]), hz] at hz1
  have hz1 : RepC c.μ c.β x (a.eval z) := hz1
  obtain ⟨b, m, h1, h2⟩ := g.conc.obj (.e k) _ hb hne
  have hy1 : a.eval y = .pointer (some ⟨b, off, none⟩) := by
    generalize a.eval y = v at hy1
    cases hy1 with
    | bp h => have h1 : c.β k = some (b, m) := h1
              rw [h1] at h; cases h; rfl
  obtain ⟨us, h3, h6, h6', h4, h5⟩ := h2
  have hcs : (a.eval z).cells.size = n := by have := hz1.cells.1; rw [← hx, this]; simp
  have hus : cells.length ≤ us.size := by have := h4.1; simp at this; omega
  have hrun := store_run (P := P) ty h3 hcs (cells_one hz1) (by omega : off + n ≤ us.size)
  unfold Oper.wp execOp
  simp only [ho, hy1, Sem.run_bind, hrun, Result.andThen_ok, Sem.run_pure, Oper.upon, hdst, Act.put]
  obtain ⟨g', x'⟩ := g.write (c' := c) (w' := w.setRow b (splice us.toList off (a.eval z).cells.toList).toArray) (i := .e k) (x' := .row et sz r) hb hne h1 rfl rfl rfl (by simp) (fun k hk => setRow_other w b k _ hk) rfl rfl (fun _ _ _ h => h) (fun _ _ _ h => .inl h) (fun o u h => by rw [h5 o] at h; cases h)
    (by
      rw [← hr]
      have hvl : (a.eval z).cells.toList.length = n := by simpa using hcs
      have hlen : (splice us.toList off (a.eval z).cells.toList).length = us.size := by rw [splice_len (by simp; omega)]; simp
      refine ⟨_, setRow_heap w b us _ et (0, 0) h3, by simp only [List.size_toArray, hlen]; exact h6, h6', ?_, h5⟩
      have h7 := h4.splice (off := off) hz1.cells
      rw [splice_len (by omega)]
      have h8 : (splice us.toList off (a.eval z).cells.toList).take cells.length = splice (us.toList.take cells.length) off (a.eval z).cells.toList := take_splice (by omega) (by simpa using hus)
      rw [h8]; exact h7)
  exact ⟨c, g', x'⟩
end
end Go.Proofs.Ytikcmjamioopbaa.E
/- Values made: variables, structs, slices; append; calls. Plain theorems, for any program. -/
namespace Go.Proofs.Ytikcmjamioopbaa.E
open Go.RowKit
set_option linter.unusedVariables false

/-! ### slices as one list of cells -/
theorem flat_at {α : Type} {sz : Nat} : ∀ (es : List (List α)) (i j : Nat), (∀ e ∈ es, e.length = sz) → j < sz → es.flatten[i * sz + j]? = es[i]?.bind (·[j]?)
  | [], i, j, _, _ => by simp
  | e :: es, 0, j, h, hj => by
    have := h e (by simp)
    simp [List.getElem?_append, this, hj]
  | e :: es, i + 1, j, h, hj => by
    have h1 := h e (by simp)
    have h2 : (i + 1) * sz + j = e.length + (i * sz + j) := by rw [h1, Nat.add_mul]; omega
    rw [List.flatten_cons, h2, List.getElem?_append_right (by omega), Nat.add_sub_cancel_left, flat_at es i j (fun c hc => h c (by simp [hc])) hj]
    simp
theorem flat_length {α : Type} {sz : Nat} : ∀ (es : List (List α)), (∀ e ∈ es, e.length = sz) → es.flatten.length = es.length * sz
  | [], _ => by simp
  | e :: es, h => by
    rw [List.flatten_cons, List.length_append, h e (by simp), flat_length es (fun c hc => h c (by simp [hc])), List.length_cons, Nat.add_mul]; omega
theorem sl_flat {μ : Mem} {z : Nz} {sz : Nat} {es : List (List T)} {v : Value} (h : RepT μ (.sl z sz es) v) (hne : es ≠ []) (h0 : 0 < sz) : ∃ b off c cs, v = .slice (some ⟨b, off, none⟩) es.length c ∧ es.length ≤ c ∧ (∀ e ∈ es, e.length = sz) ∧ Reps (RepT μ) es.flatten cs ∧ ∀ (j : Nat) (u : Value), cs[j]? = some u → μ b (off + j) = some u := by
  cases h with
  | nil => exact absurd rfl hne
  | emp => exact absurd rfl hne
  | @sl _ _ _ b off n c u ne hn hc len mem rep =>
    have hl : ∀ e ∈ es, e.length = sz := fun e he => by
      obtain ⟨i, hi⟩ := List.getElem?_of_mem he
      exact len i e hi
    have key : ∀ q x, es.flatten[q]? = some x → ∃ i e j, es[i]? = some e ∧ e[j]? = some x ∧ q = i * sz + j ∧ i = q / sz ∧ j = q % sz := fun q x hq => by
      have e1 : q / sz * sz + q % sz = q := Nat.div_add_mod' q sz
      have hm := Nat.mod_lt q h0
      rw [← e1, flat_at es _ _ hl hm] at hq
      cases he : es[q / sz]? with
      | none => rw [he] at hq; cases hq
      | some e => rw [he] at hq; exact ⟨_, e, _, he, hq, e1.symm, rfl, rfl⟩
    refine ⟨b, off, c, (List.range (es.length * sz)).map fun q => u (q / sz) (q % sz), by rw [hn], by omega, hl, ⟨by simp [flat_length es hl], fun q x v h1 h2 => ?_⟩, fun q v h2 => ?_⟩
    · obtain ⟨i, e, j, h3, h4, h5, rfl, rfl⟩ := key q x h1
      have hlt : q < es.length * sz := by
        have := (List.getElem?_eq_some_iff.1 h1).1
        rwa [flat_length es hl] at this
      rw [List.getElem?_map, List.getElem?_range hlt] at h2
      injection h2 with h2; subst h2
      exact rep _ e _ x h3 h4
    · have hlt : q < es.length * sz := by
        have := (List.getElem?_eq_some_iff.1 h2).1
        simpa using this
      rw [List.getElem?_map, List.getElem?_range hlt] at h2
      injection h2 with h2; subst h2
      have hlt' : q < es.flatten.length := by rw [flat_length es hl]; exact hlt
      obtain ⟨i, e, j, h3, h4, h5, rfl, rfl⟩ := key q _ (List.getElem?_eq_getElem hlt')
      have := mem _ e _ _ h3 h4
      rwa [← h5] at this
theorem flat_sl {μ : Mem} {z : Nz} {sz : Nat} {es : List (List T)} {b off c : Nat} {cs : List Value} (hne : es ≠ []) (hc : es.length ≤ c) (hl : ∀ e ∈ es, e.length = sz) (hr : Reps (RepT μ) es.flatten cs) (hm : ∀ (j : Nat) (u : Value), cs[j]? = some u → μ b (off + j) = some u) : RepT μ (.sl z sz es) (.slice (some ⟨b, off, none⟩) es.length c) := by
  have at_ : ∀ (i : Nat) (e : List T) (j : Nat) (x : T), es[i]? = some e → e[j]? = some x → es.flatten[i * sz + j]? = some x := fun i e j x h1 h2 => by
    have he := hl e (List.mem_of_getElem? h1)
    have hj : j < sz := by have := (List.getElem?_eq_some_iff.1 h2).1; omega
    rw [flat_at es i j hl hj, h1]; exact h2
  refine .sl (fun i j => cs.getD (i * sz + j) undef) hne rfl hc (fun i e he => hl e (List.mem_of_getElem? he)) (fun i e j x h1 h2 => ?_) (fun i e j x h1 h2 => ?_)
  · obtain ⟨v, h3, h4⟩ := hr.get (at_ i e j x h1 h2)
    simp only [List.getD, h3, Option.getD_some]
    exact hm _ _ h3
  · obtain ⟨v, h3, h4⟩ := hr.get (at_ i e j x h1 h2)
    simp only [List.getD, h3, Option.getD_some]
    exact h4
theorem Reps.monoT {μ μ' : Mem} (h : ∀ b o u, μ b o = some u → μ' b o = some u) {l : List T} {cs : List Value} (hr : Reps (RepT μ) l cs) : Reps (RepT μ') l cs := hr.mono fun _ _ => RepT.mono h

/-! ### memory that becomes common -/
def Mem.add (μ : Mem) (b : Nat) (cs : List Value) : Mem := fun b' o => if b' = b then (if o < cs.length then cs[o]? else μ b' o) else μ b' o
theorem Mem.add_in {μ : Mem} {b : Nat} {cs : List Value} {o : Nat} {u : Value} (h : cs[o]? = some u) : μ.add b cs b o = some u := by
  have hlt := (List.getElem?_eq_some_iff.1 h).1
  unfold Mem.add; rw [if_pos rfl, if_pos hlt]; exact h
theorem Mem.add_new {μ : Mem} {b : Nat} {cs : List Value} {b' o : Nat} {u : Value} (h : μ.add b cs b' o = some u) : μ b' o = some u ∨ (b' = b ∧ cs[o]? = some u) := by
  unfold Mem.add at h
  split at h
  · rename_i hb
    split at h
    · exact .inr ⟨hb, h⟩
    · exact .inl h
  · exact .inl h
theorem Mem.add_ext {μ : Mem} {b : Nat} {cs : List Value} (h : ∀ o u, μ b o = some u → o < cs.length → cs[o]? = some u) : ∀ b' o u, μ b' o = some u → μ.add b cs b' o = some u := fun b' o u hu => by
  unfold Mem.add
  split
  · rename_i hb; subst hb
    split
    · rename_i hlt; exact h o u hu hlt
    · exact hu
  · exact hu
/-- a block was made (and nothing else turned); its cells become common -/
theorem Mk.block {c : Ctx} {w w1 : World} (hm : MemOk c w) (hos : w1.os = w.os) (ht : w1.tape = w.tape) (hout : w1.output = w.output) (hs : w.heap.size ≤ w1.heap.size) (hblk : ∀ b, b < w.heap.size → w1.heap[b]? = w.heap[b]?) {b : Nat} {cs : List Value} (hb : w.heap.size ≤ b) (hcs : ∀ (o : Nat) (u : Value), cs[o]? = some u → w1.cell? ⟨b, o, none⟩ = some u) :
    Mk c w { c with μ := c.μ.add b cs } w1 := by
  have none : ∀ o, c.μ b o = none := fun o => by
    cases h : c.μ b o with
    | none => rfl
    | some u => have := World.block_lt_of_cell? w _ (hm.mem b o u h); simp at this; omega
  refine ⟨hos, ht, hout, hs, hblk, Mem.add_ext (fun o u h => by rw [none o] at h; cases h), fun b' o u h => ?_, fun _ _ h => h, rfl, rfl, ⟨fun b' o u h => ?_, hm.fin⟩⟩
  · rcases Mem.add_new h with h | ⟨rfl, _⟩
    · exact .inl h
    · exact .inr hb
  · rcases Mem.add_new h with h | ⟨rfl, h2⟩
    · have h1 := hm.mem b' o u h
      have hlt := World.block_lt_of_cell? w _ h1
      unfold World.cell? at h1 ⊢
      rw [hblk b' hlt]; exact h1
    · exact hcs o u h2
theorem Mk.grew {c : Ctx} {w w1 : World} (hm : MemOk c w) (hos : w1.os = w.os) (ht : w1.tape = w.tape) (hout : w1.output = w.output) (hs : w.heap.size ≤ w1.heap.size) (hblk : ∀ b, b < w.heap.size → w1.heap[b]? = w.heap[b]?) : Mk c w c w1 :=
  ⟨hos, ht, hout, hs, hblk, fun _ _ _ h => h, fun _ _ _ h => .inl h, fun _ _ h => h, rfl, rfl, ⟨fun b o u h => by
    have h1 := hm.mem b o u h
    have hlt := World.block_lt_of_cell? w _ h1
    unfold World.cell? at h1 ⊢
    rw [hblk b hlt]; exact h1, hm.fin⟩⟩
theorem Mk.alloc {c : Ctx} {w : World} (hm : MemOk c w) (x : Obj) : Mk c w c (w.alloc x) :=
  .grew hm rfl rfl rfl (by simp) fun b hb => Below.heap_alloc w x b hb
theorem heap_new (w : World) (x : Obj) : (w.alloc x).heap[w.heap.size]? = some x := by show (w.heap.push x)[w.heap.size]? = _; simp

section
variable {P : Program} {all : Array Oper} {o : Oper} {s s' : S} {K : S → Prop}
/-! ### variables -/
theorem over_new {s1 s : S} {d : Nat} {x : AO} {y : X} : s1.over [.t d, .b d] ((s.setOwn (.l d) x).put (some d) y) = (s1.setOwn (.l d) x).put (some d) y := by
  refine S.ext' rfl fun ℓ => ?_
  cases ℓ with
  | t i =>
    by_cases h : i = d
    · subst h; simp [Same, S.over, S.setOwn, S.put, upd_same]
    · simp [Same, S.over, S.setOwn, S.put, upd_ne _ _ h, h]
  | b i =>
    by_cases h : i = d
    · subst h; simp [Same, S.over, S.setOwn, S.put, upd_same]
    · simp [Same, S.over, S.setOwn, S.put, upd_ne _ _ h, h]
  | h => simp [Same, S.over, S.setOwn, S.put]
theorem new_out {s : S} {d : Nat} {x : AO} {y : X} : ∀ ℓ, ℓ ∉ [Loc.t d, Loc.b d] → Same ℓ ((s.setOwn (.l d) x).put (some d) y) s := fun ℓ hℓ => by
  cases ℓ with
  | t i => have h : i ≠ d := fun e => hℓ (by simp [e])
           simp [Same, S.setOwn, S.put, upd_ne _ _ h]
  | b i => have h : i ≠ d := fun e => hℓ (by simp [e])
           simp [Same, S.setOwn, S.put, upd_ne _ _ h]
  | h => simp [Same, S.setOwn, S.put]
theorem evs {s1 s : S} {l : List Loc} (hs : ∀ ℓ, ℓ ∈ l → Same ℓ s1 s) (hl : ∀ ℓ, ℓ ∈ lk o → ℓ ∈ l) {u : Operand} (hu : u ∈ o.op.operands) : s1.eval u = s.eval u := by
  cases u with
  | tmp t => exact hs (.t t) (hl _ (List.mem_map.2 ⟨t, List.mem_append_left _ (List.mem_filterMap.2 ⟨.tmp t, by simpa using hu, rfl⟩), rfl⟩))
  | _ => rfl
/-- a variable of the call's own is made -/
theorem l_new {d : Nat} {x : AO} {y : X} (hdst : o.dst = some d) (hL : s.L d = none) (hd : inB o.dst s.n = true) (hy : y.loc = some d)
    (h : ∀ (c : Ctx) (w : World) (a : Act), MemOk c w → (∀ y, y ∈ o.op.operands → RepX c (s.eval y) (a.eval y)) → ∃ v w1 c1 b n, (execOp a.eval o).run P w = .ok (.value v) w1 ∧ Mk c w c1 w1 ∧ w.heap.size ≤ b ∧ ORep c1 w1 x b n ∧ RepX { c1 with lam := upd c1.lam d (b, n) } y v) :
    LR P o (.b d :: lk o) [.t d, .b d] s ((s.setOwn (.l d) x).put (some d) y) := by
  refine ⟨(setOwn_t s (.l d) x).2, new_out, fun s1 hl hs c a w g => ?_⟩
  rw [over_new]
  have hL1 : s1.L d = none := Eq.trans (hs (.b d) (by simp)) hL
  obtain ⟨v, w1, c1, b, n, h1, h2, h3, h4, h5⟩ := h c w a g.memOk fun u hu => by rw [← evs hs (fun _ h => List.mem_cons_of_mem _ h) hu]; exact g.eval u
  unfold Oper.wp
  rw [h1]
  simp only [Oper.upon, hdst]
  obtain ⟨g', x'⟩ := g.newL h2 hL1 h3 h4
  exact ⟨_, g'.put (some d) (by rw [hdst] at hd; have e : s1.n = s.n := hl; simpa [S.setOwn, e] using hd) h5 (fun d' e => by rw [hy] at e; injection e with e; subst e; simp [S.setOwn, upd_same]), by rw [own_put]; exact x'⟩
theorem boxes {c : Ctx} {w : World} {vs : List Value} {cs : List A} (e : TypeId) (hm : MemOk c w) (hr : Reps (RepA c.μ c.β) cs vs) : ORep c (w.alloc (.cells vs.toArray e)) (.box cs) w.heap.size 0 := by
  refine ⟨vs.toArray, e, heap_new w _, by simpa using hr, fun o => ?_⟩
  cases h : c.μ w.heap.size o with
  | none => rfl
  | some u => have := World.block_lt_of_cell? w _ (hm.mem _ o u h); simp at this
theorem l_box {e : TypeId} {y : Operand} {d : Nat} {x : C} (r : List A) (ho : o.op = .box e y) (hdst : o.dst = some d) (hy : s.eval y = .c x) (hr : x.cells = r) (hL : s.L d = none) (hd : inB o.dst s.n = true) :
    LR P o (.b d :: lk o) [.t d, .b d] s ((s.setOwn (.l d) (.box r)).put (some d) (.lp d 0)) :=
  l_new hdst hL hd rfl fun c w a hm hrep => by
    have h0 := hrep y (by rw [ho]; simp [Op.operands])
    rw [hy] at h0
    have h0 : RepC c.μ c.β x (a.eval y) := h0
    refine ⟨.pointer (some ⟨w.heap.size, 0, none⟩), w.alloc (.cells (a.eval y).cells e), c, w.heap.size, 0, by simp [execOp, ho, Instr.box, newVar, newRow], Mk.alloc hm _, Nat.le_refl _, ?_, ?_⟩
    · rw [← hr]
      have := boxes (vs := (a.eval y).cells.toList) e hm h0.cells
      simpa using this
    · simp [RepX, upd_same]
def zeroIs (P : Program) (t : TypeId) (z : Value) : Prop := (P.info? t).bind (·.zero) = some z
theorem zero_run {t : TypeId} {z : Value} (h : zeroIs P t z) (w : World) : (zeroValue t).run P w = .ok z w := by
  unfold zeroIs at h
  cases hi : P.info? t with
  | none => rw [hi] at h; cases h
  | some i => rw [hi] at h; simp only [Option.bind_some] at h; simp [zeroValue, typeInfo, hi, h]
def litA (u : Value) : A := .t (.v u)
theorem lits {c : Ctx} : ∀ (l : List Value), (l.all Value.oneCell') = true → Reps (RepA c.μ c.β) (l.map litA) l
  | [], _ => .nil
  | u :: l, h => by
    simp only [List.all_cons, Bool.and_eq_true] at h
    exact .cons (.t (.v h.1)) (lits l h.2)
theorem l_alloc {e : TypeId} {d : Nat} {z : Value} (r : List A) (ho : o.op = .alloc e) (hdst : o.dst = some d) (hz : zeroIs P e z) (h1 : z.cells.toList.all Value.oneCell' = true) (hr : z.cells.toList.map litA = r) (hL : s.L d = none) (hd : inB o.dst s.n = true) :
    LR P o (.b d :: lk o) [.t d, .b d] s ((s.setOwn (.l d) (.box r)).put (some d) (.lp d 0)) :=
  l_new hdst hL hd rfl fun c w a hm hrep => by
    refine ⟨.pointer (some ⟨w.heap.size, 0, none⟩), w.alloc (.cells z.cells e), c, w.heap.size, 0, by simp [execOp, ho, Instr.alloc, zero_run hz, newVar, newRow], Mk.alloc hm _, Nat.le_refl _, ?_, ?_⟩
    · rw [← hr]
      have := boxes (c := c) (vs := z.cells.toList) e hm (lits _ h1)
      simpa using this
    · simp [RepX, upd_same]
/-- .. or under whatever name is free -/
theorem e_new {x : AO} {y : Nat → X} (hg : o.guard = none) (hd : inB o.dst s.n = true) (hy : ∀ k, (y k).loc = none)
    (h : ∀ (c : Ctx) (w : World) (a : Act), MemOk c w → (∀ y, y ∈ o.op.operands → RepX c (s.eval y) (a.eval y)) → ∃ v w1 c1 b n, (execOp a.eval o).run P w = .ok (.value v) w1 ∧ Mk c w c1 w1 ∧ w.heap.size ≤ b ∧ ORep c1 w1 x b n ∧ ∀ k, c1.β k = none → RepX { c1 with β := upd c1.β k (some (b, n)) } (y k) v)
    (hk : ∀ k, s.H k = none → K ((s.setOwn (.e k) x).put o.dst (y k))) : OpW P all o K s := by
  intro c a w g
  unfold opRun
  rw [if_pos (by simp [Region.wanted, hg])]
  refine wp_to ?_
  obtain ⟨v, w1, c1, b, n, h1, h2, h3, h4, h5⟩ := h c w a g.memOk fun u hu => g.eval u
  unfold Oper.wp
  rw [h1]
  simp only [Oper.upon]
  obtain ⟨k, k1, k2, g', x'⟩ := g.newE h2 h3 h4
  exact ⟨_, _, hk k k1, g'.put o.dst hd (h5 k k2) (fun d' e => by rw [hy] at e; cases e), by rw [own_put]; exact x'⟩
theorem e_box {e : TypeId} {y : Operand} {x : C} (r : List A) (hg : o.guard = none) (ho : o.op = .box e y) (hy : s.eval y = .c x) (hr : x.cells = r) (hd : inB o.dst s.n = true)
    (hk : ∀ k, s.H k = none → K ((s.setOwn (.e k) (.box r)).put o.dst (.c (.a (.bp k 0))))) : OpW P all o K s :=
  e_new (y := fun k => .c (.a (.bp k 0))) hg hd (fun _ => rfl) (fun c w a hm hrep => by
    have h0 := hrep y (by rw [ho]; simp [Op.operands])
    rw [hy] at h0
    have h0 : RepC c.μ c.β x (a.eval y) := h0
    refine ⟨.pointer (some ⟨w.heap.size, 0, none⟩), w.alloc (.cells (a.eval y).cells e), c, w.heap.size, 0, by simp [execOp, ho, Instr.box, newVar, newRow], Mk.alloc hm _, Nat.le_refl _, ?_, fun k _ => ?_⟩
    · rw [← hr]
      have := boxes (vs := (a.eval y).cells.toList) e hm h0.cells
      simpa using this
    · exact RepA.bp (c := 0) (upd_same _ _ _)) hk
theorem e_alloc {e : TypeId} {z : Value} (r : List A) (hg : o.guard = none) (ho : o.op = .alloc e) (hz : zeroIs P e z) (h1 : z.cells.toList.all Value.oneCell' = true) (hr : z.cells.toList.map litA = r) (hd : inB o.dst s.n = true)
    (hk : ∀ k, s.H k = none → K ((s.setOwn (.e k) (.box r)).put o.dst (.c (.a (.bp k 0))))) : OpW P all o K s :=
  e_new (y := fun k => .c (.a (.bp k 0))) hg hd (fun _ => rfl) (fun c w a hm hrep => by
    refine ⟨.pointer (some ⟨w.heap.size, 0, none⟩), w.alloc (.cells z.cells e), c, w.heap.size, 0, by simp [execOp, ho, Instr.alloc, zero_run hz, newVar, newRow], Mk.alloc hm _, Nat.le_refl _, ?_, fun k _ => ?_⟩
    · rw [← hr]
      have := boxes (c := c) (vs := z.cells.toList) e hm (lits _ h1)
      simpa using this
    · exact RepA.bp (c := 0) (upd_same _ _ _)) hk
theorem mapRep0 {c : Ctx} {kk : KK} : MapRep c kk [] 0 #[] := ⟨rfl, fun i m e h => by simp at h, fun _ h => by simp at h, fun _ h => by simp at h, by simp, by simp⟩
theorem e_makeMap {t : TypeId} (kk : KK) (hg : o.guard = none) (ho : o.op = .makeMap t none) (hd : inB o.dst s.n = true)
    (hk : ∀ k, s.H k = none → K ((s.setOwn (.e k) (.map kk [] 0)).put o.dst (.c (.a (.mp k))))) : OpW P all o K s :=
  e_new (y := fun k => .c (.a (.mp k))) hg hd (fun _ => rfl) (fun c w a hm hrep => by
    refine ⟨.map (some w.heap.size), w.alloc (.map #[] 0), c, w.heap.size, 0, by simp [execOp, ho, Instr.makeMap], Mk.alloc hm _, Nat.le_refl _, ⟨#[], heap_new w _, mapRep0⟩, fun k _ => ?_⟩
    exact RepA.mp (c := 0) (upd_same _ _ _)) hk
theorem l_makeMap {t : TypeId} {d : Nat} (kk : KK) (ho : o.op = .makeMap t none) (hdst : o.dst = some d) (hL : s.L d = none) (hd : inB o.dst s.n = true) :
    LR P o (.b d :: lk o) [.t d, .b d] s ((s.setOwn (.l d) (.map kk [] 0)).put (some d) (.lmp d)) :=
  l_new hdst hL hd rfl fun c w a hm hrep => by
    refine ⟨.map (some w.heap.size), w.alloc (.map #[] 0), c, w.heap.size, 0, by simp [execOp, ho, Instr.makeMap], Mk.alloc hm _, Nat.le_refl _, ⟨#[], heap_new w _, mapRep0⟩, ?_⟩
    simp [RepX, upd_same]
end
end Go.Proofs.Ytikcmjamioopbaa.E
/- Structs and slices built; slices of slices; append; strings. Plain theorems, for any program. -/
namespace Go.Proofs.Ytikcmjamioopbaa.E
open Go.RowKit
set_option linter.unusedVariables false

section
variable {P : Program} {all : Array Oper} {o : Oper} {s s' : S} {K : S → Prop}
/-! ### a struct, an array, built of parts -/
theorem foldl_splice : ∀ (v : List Value) (j off : Nat) (cs : Array Value), off + j + v.length ≤ cs.size → ((v.zipIdx j).foldl (fun (cs : Array Value) (x : Value × Nat) => cs.setIfInBounds (off + x.2) x.1) cs).toList = splice cs.toList (off + j) v
  | [], j, off, cs, _ => by simp [splice]
  | u :: v, j, off, cs, h => by
    rw [List.zipIdx_cons, List.foldl_cons, foldl_splice v (j + 1) off _ (by simp at h ⊢; omega)]
    apply List.ext_getElem?
    intro i
    rw [splice_get (by simp at h ⊢; omega), splice_get (by simp at h ⊢; omega)]
    simp only [Array.toList_setIfInBounds, List.getElem?_set, List.length_cons]
    by_cases h1 : i < off + j
    · rw [if_pos (by omega), if_neg (by omega), if_pos h1]
    · rw [if_neg h1]
      by_cases h2 : i = off + j
      · subst h2
        rw [if_pos (by omega), if_pos rfl, if_pos (by simp at h ⊢; omega), if_pos (by omega)]
        simp
      · by_cases h3 : i < off + j + (v.length + 1)
        · rw [if_neg (by omega), if_pos (by omega), if_pos h3]
          rw [show i - (off + j) = (i - (off + (j + 1))) + 1 by omega]
          simp
        · rw [if_neg (by omega), if_neg (by omega), if_neg (by omega), if_neg h3]
/-- the parts' cells put in place -/
def fillA {α : Type} (pl : List (Nat × Nat)) (cells : List α) : List (Nat × List α) → Option (List α)
  | [] => some cells
  | (i, v) :: rest => match pl[i]? with
    | none => none
    | some (off, size) => if v.length = size ∧ off + v.length ≤ cells.length then fillA pl (splice cells off v) rest else none
inductive PartsRep (μ : Mem) (β : Pos) : List (Nat × List A) → List (Nat × Value) → Prop
  | nil : PartsRep μ β [] []
  | cons {i : Nat} {l : List A} {v : Value} {r : List (Nat × List A)} {r' : List (Nat × Value)} (h : Reps (RepA μ β) l v.cells.toList) (t : PartsRep μ β r r') : PartsRep μ β ((i, l) :: r) ((i, v) :: r')
theorem fill_run {μ : Mem} {β : Pos} {pl : List (Nat × Nat)} {place : Nat → Option (Nat × Nat)} (hp : ∀ i x, pl[i]? = some x → place i = some x) : ∀ {ps : List (Nat × List A)} {vs : List (Nat × Value)} {cells : List A} {cs : Array Value} {r : List A}, PartsRep μ β ps vs → Reps (RepA μ β) cells cs.toList → fillA pl cells ps = some r → ∃ us, Instr.fill place cs vs = some us ∧ Reps (RepA μ β) r us.toList := by
  intro ps
  induction ps with
  | nil => intro vs cells cs r h hc hr; cases h; cases hr; exact ⟨cs, rfl, hc⟩
  | cons p ps ih =>
    intro vs cells cs r h hc hr
    cases h with
    | @cons i l v _ r' hl ht =>
      simp only [fillA] at hr
      split at hr
      · cases hr
      · rename_i off size hpl
        split at hr
        · rename_i hcond
          have hvs : v.cells.size = l.length := by have := hl.1; simpa using this.symm
          have hcs : cs.size = cells.length := by have := hc.1; simpa using this.symm
          have hsp := foldl_splice v.cells.toList 0 off cs (by simp; omega)
          have := hc.splice (off := off) hl
          obtain ⟨us, h1, h2⟩ := ih (cs := v.cells.zipIdx.foldl (fun cs (x : Value × Nat) => cs.setIfInBounds (off + x.2) x.1) cs) ht (by
            rw [← Array.foldl_toList, Array.toList_zipIdx, hsp]; exact this) hr
          refine ⟨us, ?_, h2⟩
          simp only [Instr.fill, hp i _ hpl]
          rw [if_neg (by simp [hvs]; omega)]
          exact h1
        · cases hr
def bplB (P : Program) (t : TypeId) (pl : List (Nat × Nat)) : Bool :=
  match P.underlying t with
  | some (.struct fs) => fs.toList.mapM (fun f => (P.info? f.type).map fun i => (f.offset, i.size)) == some pl
  | some (.array n e) => match P.info? e with
    | some i => (List.range n).map (fun j => (j * i.size, i.size)) == pl
    | none => false
  | _ => false
theorem built_of {t : TypeId} {z : Value} {pl : List (Nat × Nat)} (hz : zeroIs P t z) (hp : bplB P t pl = true) : ∃ place, (∀ i x, pl[i]? = some x → place i = some x) ∧ ∀ vs, P.built t vs = Instr.fill place z.cells vs := by
  unfold zeroIs at hz
  unfold bplB at hp
  cases hi : P.info? t with
  | none => rw [hi] at hz; cases hz
  | some it =>
    rw [hi] at hz
    simp only [Option.bind_some] at hz
    split at hp
    · rename_i fs hu
      refine ⟨(pl.toArray[·]?), fun i x h => by simpa using h, fun vs => ?_⟩
      simp only [Program.built, hi, hu, hz, eq_of_beq hp]
    · rename_i n e hu
      split at hp
      · rename_i ie hie
        refine ⟨fun i => some (i * ie.size, ie.size), fun i x h => ?_, fun vs => by simp only [Program.built, hi, hu, hz, hie]⟩
        rw [← eq_of_beq hp, List.getElem?_map] at h
        obtain ⟨j, hj, rfl⟩ := Option.map_eq_some_iff.1 h
        have : j = i := by
          rw [List.getElem?_eq_some_iff] at hj
          obtain ⟨h1, h2⟩ := hj
          simpa using h2.symm
        rw [this]
      · cases hp
    · cases hp
def partsX (s : S) : List (Nat × Operand) → Option (List (Nat × List A))
  | [] => some []
  | (i, y) :: r => match s.eval y, partsX s r with
    | .c x, some l => some ((i, x.cells) :: l)
    | _, _ => none
theorem parts_rep {c : Ctx} {f : Operand → Value} : ∀ {ps : List (Nat × Operand)} {l : List (Nat × List A)}, partsX s ps = some l → (∀ p ∈ ps, RepX c (s.eval p.2) (f p.2)) → PartsRep c.μ c.β l (ps.map fun p => (p.1, f p.2))
  | [], l, h, _ => by cases h; exact .nil
  | (i, y) :: ps, l, h, hr => by
    simp only [partsX] at h
    split at h
    · rename_i x l' h1 h2
      cases h
      have h3 := hr (i, y) (by simp)
      rw [h1] at h3
      have h3 : RepC c.μ c.β x (f y) := h3
      exact .cons h3.cells (parts_rep h2 fun p hp => hr p (by simp [hp]))
    · cases h
theorem q_build {t : TypeId} {parts : Array (Nat × Operand)} {z : Value} (pl : List (Nat × Nat)) (ps : List (Nat × List A)) (r : List A) (ho : o.op = .build t parts) (hz : zeroIs P t z) (h1 : z.cells.toList.all Value.oneCell' = true) (hp : bplB P t pl = true)
    (hps : partsX s parts.toList = some ps) (hr : fillA pl (z.cells.toList.map litA) ps = some r) : QV P o s (.c (.g r)) :=
  .of_same (fun _ => nolp) fun c w a hm hrep => by
    obtain ⟨place, h2, h3⟩ := built_of hz hp
    obtain ⟨us, h4, h5⟩ := fill_run (β := c.β) h2 (parts_rep (c := c) (f := a.eval) hps fun p hp => hrep p.2 (by rw [ho]; simp [Op.operands]; exact ⟨p.1, by simpa using hp⟩)) (cs := z.cells) (lits (c := c) _ h1) hr
    refine ⟨.agg us, ?_, us, rfl, h5⟩
    have h6 := h3 (parts.map fun (i, x) => (i, a.eval x)).toList
    have h7 : (parts.map fun (i, x) => (i, a.eval x)).toList = parts.toList.map fun p => (p.1, a.eval p.2) := by simp
    rw [h7] at h6
    have h8 := run_build (P := P) w t (parts.map fun (i, x) => (i, a.eval x)) us (by rw [h7, h6, h4])
    simp only [execOp, ho, Sem.run_bind, h8]; rfl
/-! ### a slice built of parts -/
def untA : List A → Option (List T)
  | [] => some []
  | .t x :: r => (untA r).map (x :: ·)
  | _ :: _ => none
theorem untA_map (l : List T) : untA (l.map .t) = some l := by
  induction l with
  | nil => rfl
  | cons x l ih => simp [untA, ih]
theorem untA_rep {μ : Mem} {β : Pos} : ∀ {l : List A} {r : List T} {cs : List Value}, untA l = some r → Reps (RepA μ β) l cs → Reps (RepT μ) r cs
  | [], r, cs, h, hr => by
    cases h
    have := hr.1
    cases cs with
    | nil => exact .nil
    | cons => cases this
  | .t x :: l, r, cs, h, hr => by
    simp only [untA] at h
    obtain ⟨r', h1, rfl⟩ := Option.map_eq_some_iff.1 h
    cases cs with
    | nil => exact absurd hr.1 (by simp)
    | cons v cs =>
      have h2 := hr.2 0 _ v rfl rfl
      cases h2 with
      | t h2 => exact .cons h2 (untA_rep h1 ⟨by simpa using hr.1, fun i y u h3 h4 => hr.2 (i + 1) y u (by simpa using h3) (by simpa using h4)⟩)
  | .bp .. :: _, _, _, h, _ | .mp .. :: _, _, _, h, _ | .ts .. :: _, _, _, h, _ | .os .. :: _, _, _, h, _ | .fn .. :: _, _, _, h, _ => by cases h
/-- all elements, in order -/
def elemsX (s : S) (sz : Nat) : Nat → List (Nat × Operand) → Option (List (List T))
  | _, [] => some []
  | k, (i, y) :: r => match s.eval y, elemsX s sz (k + 1) r with
    | .c x, some l => match untA x.cells with
      | some e => if i = k ∧ e.length = sz then some (e :: l) else none
      | none => none
    | _, _ => none
theorem elems_fill {c : Ctx} {f : Operand → Value} {sz : Nat} : ∀ {ps : List (Nat × Operand)} {k : Nat} {es : List (List T)} {cs : Array Value}, elemsX s sz k ps = some es → (∀ p ∈ ps, RepX c (s.eval p.2) (f p.2)) → cs.size = (k + ps.length) * sz →
    ∃ us, Instr.fill (fun i => some (i * sz, sz)) cs (ps.map fun p => (p.1, f p.2)) = some us ∧ us.size = cs.size ∧ us.toList.take (k * sz) = cs.toList.take (k * sz) ∧ Reps (RepT c.μ) es.flatten (us.toList.drop (k * sz)) ∧ (∀ e ∈ es, e.length = sz) ∧ es.length = ps.length
  | [], k, es, cs, h, _, hs => by
    cases h
    refine ⟨cs, rfl, rfl, rfl, ?_, by simp, rfl⟩
    rw [List.drop_eq_nil_of_le (by simp at hs ⊢; omega)]
    exact .nil
  | (i, y) :: ps, k, es, cs, h, hr, hs => by
    simp only [elemsX] at h
    split at h
    · rename_i x l h1 h2
      split at h
      · rename_i e h3
        split at h
        · rename_i hc
          cases h
          obtain ⟨rfl, hel⟩ := hc
          have h4 := hr (i, y) (by simp)
          rw [h1] at h4
          have h4 : RepC c.μ c.β x (f y) := h4
          have h5 := untA_rep h3 h4.cells
          have hvs : (f y).cells.size = sz := by have := h5.1; simp at this; omega
          have hsz : i * sz + sz + ps.length * sz = cs.size := by
            rw [hs, show i + ((i, y) :: ps).length = i + 1 + ps.length by simp; omega, Nat.add_mul, Nat.add_mul]; omega
          have hsp := foldl_splice (f y).cells.toList 0 (i * sz) cs (by simp; omega)
          have hsl : ((f y).cells.zipIdx.foldl (fun cs (x : Value × Nat) => cs.setIfInBounds (i * sz + x.2) x.1) cs).toList = splice cs.toList (i * sz) (f y).cells.toList := by
            rw [← Array.foldl_toList, Array.toList_zipIdx, hsp]; rfl
          have hlen : ((f y).cells.zipIdx.foldl (fun cs (x : Value × Nat) => cs.setIfInBounds (i * sz + x.2) x.1) cs).size = cs.size := by
            rw [← Array.length_toList, hsl, splice_len (by simp; omega)]; simp
          obtain ⟨us, g1, g2, g3, g4, g5, g6⟩ := elems_fill (c := c) (f := f) (k := i + 1) (cs := (f y).cells.zipIdx.foldl (fun cs (x : Value × Nat) => cs.setIfInBounds (i * sz + x.2) x.1) cs) h2 (fun p hp => hr p (by simp [hp])) (by
            rw [hlen, hs]; congr 1; simp; omega)
          have hval : ∀ q, q < i * sz + sz → us.toList[q]? = if q < i * sz then cs.toList[q]? else (f y).cells.toList[q - i * sz]? := fun q hq => by
            have e1 : us.toList[q]? = (us.toList.take ((i + 1) * sz))[q]? := by rw [List.getElem?_take, if_pos (by rw [Nat.add_mul]; omega)]
            rw [e1, g3, List.getElem?_take, if_pos (by rw [Nat.add_mul]; omega), hsl, splice_get (by simp; omega)]
            split
            · rfl
            · rw [if_pos (by simp; omega)]
          refine ⟨us, ?_, by rw [g2, hlen], ?_, ?_, ?_, by simp [g6]⟩
          · simp only [List.map_cons, Instr.fill]
            rw [if_neg (by simp [hvs]; omega)]
            exact g1
          · apply List.ext_getElem?
            intro q
            rw [List.getElem?_take, List.getElem?_take]
            split
            · rename_i hq; rw [hval q (by omega), if_pos hq]
            · rfl
          · have e2 : us.toList.drop (i * sz) = (f y).cells.toList ++ us.toList.drop ((i + 1) * sz) := by
              apply List.ext_getElem?
              intro q
              rw [List.getElem?_drop]
              by_cases hq : q < sz
              · rw [hval _ (by omega), if_neg (by omega), List.getElem?_append_left (by simp; omega)]
                congr 1; omega
              · rw [List.getElem?_append_right (by simp; omega), List.getElem?_drop]
                congr 1
                simp [hvs, Nat.add_mul]; omega
            rw [e2, List.flatten_cons]
            exact h5.append g4
          · intro e' he'
            rcases List.mem_cons.1 he' with rfl | he'
            · exact hel
            · exact g5 e' he'
        · cases h
      · cases h
    · cases h
end
end Go.Proofs.Ytikcmjamioopbaa.E
/- Slices made, cut and appended to; strings; calls. Plain theorems, for any program. -/
namespace Go.Proofs.Ytikcmjamioopbaa.E
open Go.RowKit
set_option linter.unusedVariables false

/-- an element's type: its cells, its bytes, its zero -/
def elB (P : Program) (t e : TypeId) (sz bytes : Nat) : Bool :=
  match P.underlying t, P.info? e with
  | some (.slice e'), some i => (e' == e) && (i.size == sz) && (sz != 0) && (i.bytes == bytes) && (match i.zero with | some z => z.cells.size == sz | none => false)
  | _, _ => false
theorem elB_get {P : Program} {t e : TypeId} {sz bytes : Nat} (h : elB P t e sz bytes = true) : ∃ i z, P.underlying t = some (.slice e) ∧ P.info? e = some i ∧ i.size = sz ∧ sz ≠ 0 ∧ i.bytes = bytes ∧ i.zero = some z ∧ z.cells.size = sz := by
  unfold elB at h
  split at h
  · rename_i e' i h1 h2
    simp only [Bool.and_eq_true, beq_iff_eq, bne_iff_ne, ne_eq] at h
    obtain ⟨⟨⟨⟨rfl, h3⟩, h4⟩, h5⟩, h6⟩ := h
    split at h6
    · rename_i z hz; exact ⟨i, z, h1, h2, h3, h4, h5, hz, by simpa using h6⟩
    · cases h6
  · cases h

section
variable {P : Program} {all : Array Oper} {o : Oper} {s s' : S} {K : S → Prop}
theorem q_buildSlice {t e : TypeId} {n sz bytes : Nat} {parts : Array (Nat × Operand)} (es : List (List T)) (ho : o.op = .buildSlice t n parts) (ty : elB P t e sz bytes = true) (hn : parts.size = n) (hsm : n * sz ≤ 16777216) (he : elemsX s sz 0 parts.toList = some es) : QV P o s (.c (.a (.t (.sl .nn sz es)))) :=
  .of_run (fun _ => nolp) fun c w a hm hrep => by
    obtain ⟨i, z, h1, h2, h3, h4, h5, h6, h7⟩ := elB_get ty
    have h7' : (parts.map fun (i, x) => (i, a.eval x)).toList = parts.toList.map fun p => (p.1, a.eval p.2) := by simp
    by_cases h0 : n = 0
    · subst h0
      have hp : parts = #[] := by simpa using hn
      subst hp
      simp only [elemsX, Option.some.injEq] at he
      subst he
      refine ⟨.slice (some ⟨w.heap.size, 0, none⟩) 0 0, w.alloc (.cells #[] e), c, ?_, .t (.emp (by simp)), .alloc hm _⟩
      have e0 : Array.map (fun x : Nat => (default : Value)) (Array.range 0) = #[] := by simp
      simp [execOp, ho, Instr.buildSlice, run_underlying h1, sizeOf, typeInfo, h2, newRow, Instr.fill, e0]
    · have hpos : 0 < n * sz := Nat.mul_pos (by omega) (by omega)
      have hlen : parts.toList.length = n := by simpa using hn
      obtain ⟨us, g1, g2, _, g4, g5, g6⟩ := elems_fill (s := s) (c := c) (f := a.eval) (sz := sz) (ps := parts.toList) (k := 0) (cs := (Array.range (n * sz)).map (z.cells[· % z.cells.size]!)) he (fun p hp => hrep p.2 (by rw [ho]; simp [Op.operands]; exact ⟨p.1, by simpa using hp⟩)) (by simp [hn])
      have hrun := run_buildSlice (P := P) w t e n (parts.map fun (i, x) => (i, a.eval x)) us i z h1 h2 h6 (by rw [h3]; omega) (by rw [h3]; omega) (by rw [h3, h7']; exact g1)
      have hus : us.toList.length = n * sz := by simp [g2]
      have hes : es ≠ [] := fun e => by subst e; simp at g6; omega
      refine ⟨.slice (some ⟨w.heap.size, 0, none⟩) n n, w.alloc (.cells us e), { c with μ := c.μ.add w.heap.size us.toList }, by simp only [execOp, ho, Sem.run_bind, hrun]; rfl, ?_, Mk.block (w1 := w.alloc (.cells us e)) hm rfl rfl rfl (by simp) (fun b hb => Below.heap_alloc w (.cells us e) b hb) (Nat.le_refl _) fun o u hu => ?_⟩
      · simp only [Nat.zero_mul, List.drop_zero] at g4
        have hm' : ∀ b o u, c.μ b o = some u → c.μ.add w.heap.size us.toList b o = some u := (Mk.block (w1 := w.alloc (.cells us e)) hm rfl rfl rfl (by simp) (fun b hb => Below.heap_alloc w (.cells us e) b hb) (Nat.le_refl _) (fun o u hu => by rw [World.cell?_alloc_new]; simpa using hu)).mem
        have := flat_sl (z := .nn) (c := n) (b := w.heap.size) (off := 0) hes (by omega) g5 (g4.monoT hm') (fun j u hu => by rw [Nat.zero_add]; exact Mem.add_in hu)
        rw [g6, hlen] at this
        exact .t this
      · rw [World.cell?_alloc_new]; simpa using hu
/-! ### a slice cut -/
theorem sl_cut {μ : Mem} {z : Nz} {sz : Nat} {es : List (List T)} {v : Value} (h0 : 0 < sz) (h : RepT μ (.sl z sz es) v) (l m : Nat) (hlm : l ≤ m) (hm : m ≤ es.length) : ∃ a n c, v = .slice a n c ∧ n = es.length ∧ n ≤ c ∧ RepT μ (.sl .un sz ((es.take m).drop l)) (sliced a l m c sz) := by
  by_cases hne : es = []
  · subst hne
    have hl : l = 0 := by simp at hm; omega
    have hm0 : m = 0 := by simp at hm; omega
    subst hl hm0
    cases h with
    | nil => exact ⟨none, 0, 0, rfl, rfl, Nat.le_refl _, .nil (by simp)⟩
    | @emp _ _ c a => 
      refine ⟨some a, 0, c, rfl, rfl, Nat.zero_le _, ?_⟩
      have : sliced (some a) 0 0 c sz = .slice (some a) 0 c := by simp [sliced, Addr.add]
      rw [this]; exact .emp (by simp)
    | sl u ne => exact absurd rfl ne
  · obtain ⟨b, off, c, cs, rfl, hc, hl, hr, hmem⟩ := sl_flat h hne h0
    refine ⟨_, _, c, rfl, rfl, hc, ?_⟩
    by_cases hcut : (es.take m).drop l = []
    · have hml : m - l = 0 := by
        have := congrArg List.length hcut
        simp at this; omega
      rw [hcut]
      unfold sliced
      rw [hml]
      split
      · exact .emp (by simp)
      · exact .emp (by simp)
    · have hne' : l < m := by
        rcases Nat.lt_or_ge l m with h' | h'
        · exact h'
        · exact absurd (List.drop_eq_nil_of_le (by simp; omega)) hcut
      have e1 : sliced (some ⟨b, off, none⟩) l m c sz = .slice (some ⟨b, off + l * sz, none⟩) (m - l) (c - l) := by
        unfold sliced
        rw [if_neg (by omega)]
        simp [add_mid]
      have e2 : ((es.take m).drop l).length = m - l := by simp; omega
      rw [e1, ← e2]
      have hl' : ∀ e ∈ (es.take m).drop l, e.length = sz := fun e he => hl e (List.mem_of_mem_take (List.mem_of_mem_drop he))
      have e3 : es.flatten = (es.take l).flatten ++ ((es.take m).drop l).flatten ++ (es.drop m).flatten := by
        rw [← List.flatten_append, ← List.flatten_append]
        congr 1
        have : es.take l = (es.take m).take l := by rw [List.take_take, Nat.min_eq_left hlm]
        rw [this, List.take_append_drop, List.take_append_drop]
      have e4 : ((es.take l).flatten).length = l * sz := by rw [flat_length _ fun e he => hl e (List.mem_of_mem_take he), List.length_take, Nat.min_eq_left (by omega)]
      have e5 : (((es.take m).drop l).flatten).length = (m - l) * sz := by rw [flat_length _ hl', e2]
      have hr2 := (hr.drop (l * sz)).take ((m - l) * sz)
      have e6 : (es.flatten.drop (l * sz)).take ((m - l) * sz) = ((es.take m).drop l).flatten := by
        rw [e3, List.append_assoc, List.drop_left' e4, List.take_left' e5]
      rw [e6] at hr2
      refine flat_sl hcut (by omega) hl' hr2 fun j u hu => ?_
      rw [List.getElem?_take] at hu
      split at hu
      · rw [List.getElem?_drop] at hu
        rw [Nat.add_assoc]; exact hmem _ _ hu
      · cases hu
theorem cut_run {t : TypeId} {e : TypeId} (ht : P.underlying t = some (.slice e)) (w : World) (x : Value) (lo hi mx : Option Value) : (Instr.sliceAt t x lo hi mx).run P w = (Instr.slice t x lo hi mx).run P w := by
  simp [Instr.sliceAt, run_underlying ht]
theorem elem_of {t e : TypeId} (ht : P.underlying t = some (.slice e)) : P.underlying t = some (.slice (P.elem t)) := by
  have : P.elem t = e := by simp [Program.elem, ht]
  rw [this]; exact ht
theorem elem_eq {t e : TypeId} (ht : P.underlying t = some (.slice e)) : P.elem t = e := by simp [Program.elem, ht]
/-- s[l:], s[:h], s[l:h] -/
theorem q_cut {t e : TypeId} {x : Operand} {lo hi : Option Operand} {z : Nz} {sz : Nat} {es : List (List T)} (l m : Nat) (r : List (List T)) (ho : o.op = .slice t x lo hi none) (ty : slB P t e sz = true) (hx : s.eval x = .c (.a (.t (.sl z sz es))))
    (hlo : match lo with | none => l = 0 | some y => ∃ k, s.eval y = iX k (l : Int)) (hhi : match hi with | none => m = es.length | some y => ∃ k, s.eval y = iX k (m : Int)) (hlm : l ≤ m) (hm : m ≤ es.length) (hr : (es.take m).drop l = r) : QV P o s (.c (.a (.t (.sl .un sz r)))) :=
  .of_same (fun _ => nolp) fun c w a hmo hrep => by
    obtain ⟨i, h1, h2, h3, h4⟩ := slB_get ty
    have ha := hrep x (by rw [ho]; simp [Op.operands])
    rw [hx] at ha
    generalize hv : a.eval x = v at ha
    cases ha with
    | t ha =>
      obtain ⟨ad, n, cp, rfl, rfl, hc, hr'⟩ := sl_cut (by omega) ha l m hlm hm
      have hsz : (sizeOf (P.elem t)).run P w = .ok sz w := by simp [sizeOf, typeInfo, elem_eq h1, h2, h3]
      refine ⟨_, ?_, by rw [← hr]; exact .t hr'⟩
      cases lo with
      | none =>
        simp only at hlo
        subst hlo
        cases hi with
        | none =>
          simp only at hhi
          subst hhi
          simp [execOp, ho, hv, cut_run h1, run_slice_all w t ad _ cp (elem_of h1), hsz]
        | some y =>
          obtain ⟨k, hy⟩ := hhi
          have hb := hrep y (by rw [ho]; simp [Op.operands])
          rw [hy] at hb
          have hb := rep_tv hb
          simp [execOp, ho, hv, hb, cut_run h1, run_slice_h w t ad es.length cp (elem_of h1) k m (by omega) (by omega), hsz]
      | some y =>
        obtain ⟨k, hy⟩ := hlo
        have hb := hrep y (by rw [ho]; simp [Op.operands])
        rw [hy] at hb
        have hb := rep_tv hb
        cases hi with
        | none =>
          simp only at hhi
          subst hhi
          simp [execOp, ho, hv, hb, cut_run h1, run_slice_l w t ad es.length cp (elem_of h1) k l (by omega) (by omega), hsz]
        | some y' =>
          obtain ⟨k', hy'⟩ := hhi
          have hb' := hrep y' (by rw [ho]; simp [Op.operands])
          rw [hy'] at hb'
          have hb' := rep_tv hb'
          simp [execOp, ho, hv, hb, hb', cut_run h1, run_slice_lh w t ad es.length cp (elem_of h1) k k' l m (by omega) (by omega) (by omega), hsz]
/-- a string cut -/
theorem q_cutS {t : TypeId} {x : Operand} {lo hi : Option Operand} {st : ByteArray} (l m : Nat) (r : ByteArray) (ho : o.op = .slice t x lo hi none) (ty : P.underlying t = some .string) (hx : s.eval x = sX st)
    (hlo : match lo with | none => l = 0 | some y => ∃ k, s.eval y = iX k (l : Int)) (hhi : match hi with | none => m = st.size | some y => ∃ k, s.eval y = iX k (m : Int)) (hlm : l ≤ m) (hm : m ≤ st.size) (hr : st.extract l m = r) : QV P o s (sX r) :=
  .of_same (fun _ => nolp) fun c w a hmo hrep => by
    have ha := hrep x (by rw [ho]; simp [Op.operands])
    rw [hx] at ha
    have ha := rep_tv ha
    refine ⟨.string r, ?_, tv_rep rfl⟩
    subst hr
    cases lo with
    | none =>
      simp only at hlo
      subst hlo
      cases hi with
      | none =>
        simp only at hhi
        subst hhi
        simp [execOp, ho, ha, Instr.sliceAt, Instr.slice, run_underlying ty, Instr.sliceBounds]
      | some y =>
        obtain ⟨k, hy⟩ := hhi
        have hb := hrep y (by rw [ho]; simp [Op.operands])
        rw [hy] at hb
        have hb := rep_tv hb
        simp [execOp, ho, ha, hb, Instr.sliceAt, Instr.slice, run_underlying ty, Instr.sliceBounds, run_sliceBound w k (m : Int) st.size _ (by omega) (by omega)]
    | some y =>
      obtain ⟨k, hy⟩ := hlo
      have hb := hrep y (by rw [ho]; simp [Op.operands])
      rw [hy] at hb
      have hb := rep_tv hb
      cases hi with
      | none =>
        simp only at hhi
        subst hhi
        simp [execOp, ho, ha, hb, Instr.sliceAt, Instr.slice, run_underlying ty, Instr.sliceBounds, run_sliceBound w k (l : Int) st.size _ (by omega) (by omega)]
      | some y' =>
        obtain ⟨k', hy'⟩ := hhi
        have hb' := hrep y' (by rw [ho]; simp [Op.operands])
        rw [hy'] at hb'
        have hb' := rep_tv hb'
        simp [execOp, ho, ha, hb, hb', Instr.sliceAt, Instr.slice, run_underlying ty, Instr.sliceBounds, run_sliceBound w k' (m : Int) st.size _ (by omega) (by omega), run_sliceBound w k (l : Int) m _ (by omega) (by omega)]
/-! ### strings -/
section
variable {t u : TypeId} {x y : Operand} {p q : ByteArray}
theorem q_addS (ho : o.op = .binOp .add t x y u) (hx : s.eval x = sX p) (hy : s.eval y = sX q) (hl : p.size + q.size ≤ 9223372036854775807) : QV P o s (sX (p ++ q)) :=
  q_bin ho hx hy rfl fun w => by rw [Sem.run_bind, eqgS]; simp [binOp, Op.stringOp, IntKind.max, IntKind.signed, IntKind.bits]; omega
theorem q_neqS (ho : o.op = .binOp .neq t x y u) (hx : s.eval x = sX p) (hy : s.eval y = sX q) : QV P o s (bX (decide (p ≠ q))) :=
  q_bin ho hx hy rfl fun w => by rw [Sem.run_bind, eqgS]; simp [binOp, Op.stringOp, ByteArray.toList_eq, str_eq]
abbrev strLt (p q : ByteArray) : Bool := Op.bytesLess p.data.toList q.data.toList
theorem q_lssS (ho : o.op = .binOp .lss t x y u) (hx : s.eval x = sX p) (hy : s.eval y = sX q) : QV P o s (bX (strLt p q)) :=
  q_bin ho hx hy rfl fun w => by rw [Sem.run_bind, eqgS]; simp [binOp, Op.stringOp, ByteArray.toList_eq, strLt]
theorem q_leqS (ho : o.op = .binOp .leq t x y u) (hx : s.eval x = sX p) (hy : s.eval y = sX q) : QV P o s (bX (strLt p q || decide (p = q))) :=
  q_bin ho hx hy rfl fun w => by rw [Sem.run_bind, eqgS]; simp [binOp, Op.stringOp, ByteArray.toList_eq, strLt, str_eq]
theorem q_gtrS (ho : o.op = .binOp .gtr t x y u) (hx : s.eval x = sX p) (hy : s.eval y = sX q) : QV P o s (bX (!(strLt p q || decide (p = q)))) :=
  q_bin ho hx hy rfl fun w => by rw [Sem.run_bind, eqgS]; simp [binOp, Op.stringOp, ByteArray.toList_eq, strLt, str_eq]
theorem q_geqS (ho : o.op = .binOp .geq t x y u) (hx : s.eval x = sX p) (hy : s.eval y = sX q) : QV P o s (bX (!strLt p q)) :=
  q_bin ho hx hy rfl fun w => by rw [Sem.run_bind, eqgS]; simp [binOp, Op.stringOp, ByteArray.toList_eq, strLt]
theorem q_conv {k : IntKind} {a : Int} {k' : IntKind} (r : Int) (ho : o.op = .convert t u x) (ty : P.underlying u = some (.int k')) (hx : s.eval x = iX k a) (hr : k'.wrap a = r) (tt : ∃ d, P.underlying t = some d) : QV P o s (iX k' r) :=
  .of_same (fun _ => nolp) fun c w f hm hrep => by
    have ha := hrep x (by rw [ho]; simp [Op.operands])
    rw [hx] at ha
    have ha := rep_tv ha
    obtain ⟨d, hd⟩ := tt
    refine ⟨.int k' r, ?_, tv_rep rfl⟩
    simp [execOp, ho, ha, convert, run_underlying hd, run_underlying ty, Conv.intToInt, hr]
end
/-! ### calls -/
def argsX (s : S) : List Operand → Option (List C)
  | [] => some []
  | y :: r => match s.eval y, argsX s r with
    | .c x, some l => some (x :: l)
    | _, _ => none
theorem args_rep {c : Ctx} {f : Operand → Value} : ∀ {ys : List Operand} {l : List C}, argsX s ys = some l → (∀ y ∈ ys, RepX c (s.eval y) (f y)) → Reps (RepC c.μ c.β) l (ys.map f)
  | [], l, h, _ => by cases h; exact .nil
  | y :: ys, l, h, hr => by
    simp only [argsX] at h
    split at h
    · rename_i x l' h1 h2
      cases h
      have h3 := hr y (by simp)
      rw [h1] at h3
      exact .cons h3 (args_rep h2 fun p hp => hr p (by simp [hp]))
    · cases h
/-- a function that may be entered -/
def fnB (P : Program) (f : FuncId) : Bool := match P.funcs[f]? with | some fn => fn.body.isSome && fn.name != "runtime.NumGoroutine" | none => false
theorem enter_run {f : FuncId} (h : fnB P f = true) (args : Array Value) (w : World) : (callFunc f args).run P w = .ok (.enter f args) w := by
  unfold fnB at h
  split at h
  · rename_i fn hf
    simp only [Bool.and_eq_true, bne_iff_ne, ne_eq] at h
    have h1 : ¬ (fn.body.isNone = true) := by cases hb : fn.body <;> simp_all
    have h2 : ¬ ((fn.name == "runtime.NumGoroutine") = true) := by simpa using h.2
    simp only [callFunc, Sem.run_bind, run_program, Result.andThen_ok, hf, if_neg h1, if_neg h2, Sem.run_pure]
  · cases h
theorem RepX.relam {c : Ctx} {lam : Nat → Nat × Nat} {x : X} {v : Value} (h : RepX c x v) (hx : x.loc = none) : RepX { c with lam := lam } x v := by
  cases x <;> first | exact h | cases hx
def X.pure : X → Bool
  | .c (.a (.t _)) => true
  | .c (.g l) => (untA l).isSome
  | .tup l => l.all fun x => match x with | .a (.t _) => true | .g l => (untA l).isSome | _ => false
  | .any => true
  | _ => false
theorem q_call {f : FuncId} {ys : Array Operand} {ts : Array TypeId} (args : List C) {x : X} (ho : o.op = .call { callee := .value (.func f), args := ys, argTypes := ts }) (hf : fnB P f = true) (ha : argsX s ys.toList = some args) (h : Pure P f args x) (hx : x.loc = none) : QV P o s x := by
  refine ⟨fun d e => (by rw [hx] at e; cases e), fun c w a hm hrep => ?_⟩
  have hr : Reps (RepC c.μ c.β) args (ys.map a.eval).toList := by
    have := args_rep (c := c) (f := a.eval) ha fun y hy => hrep y (by rw [ho]; simp [Op.operands, Call.operands]; exact .inr (by simpa using hy))
    simpa using this
  have hc : Conc c (ownH fun _ => none) w := ⟨hm.mem, fun i x hi => (by cases i <;> cases hi), fun i j x y b n m hi => (by cases i <;> cases hi), by obtain ⟨N, hN⟩ := hm.fin; exact ⟨N, fun k hk => ⟨hN k hk, rfl⟩⟩⟩
  have hcall := h (fun _ => none) c w (ys.map a.eval) hc hr
  have hrun : (execOp a.eval o).run P w = .ok (.enter f (ys.map a.eval)) w := by
    simp [execOp, ho, resolve, Act.eval, Deferred.ofValue, invoke, enter_run hf]
  unfold Oper.wp
  rw [hrun, Oper.upon_enter]
  refine hcall.mono ?_
  rintro e w' ⟨v, y, H', c', rfl, ⟨rfl, rfl⟩, hrx, hc', hx'⟩
  refine ⟨v, { c' with lam := c.lam }, rfl, hrx.relam hx, ⟨hx'.os, hx'.tape, hx'.output, hx'.size, fun b hb => hx'.blk b hb fun i z n hi => (by cases i <;> cases hi), hx'.mem, fun b o u h => ?_, hx'.ext, rfl, hx'.base, ⟨hc'.mem, ?_⟩⟩⟩
  · rcases hx'.new b o u h with h1 | h1 | ⟨i, z, n, hi, _⟩
    · exact .inl h1
    · exact .inr h1
    · cases i <;> cases hi
  · obtain ⟨N, hN⟩ := hc'.fin
    exact ⟨N, fun k hk => (hN k hk).1⟩
end
end Go.Proofs.Ytikcmjamioopbaa.E
/- Steps of the proofs: ends, cuts, tests. Plain theorems, for any program. -/
namespace Go.Proofs.Ytikcmjamioopbaa.E
open Go.RowKit
set_option linter.unusedVariables false

/-! ### functions: what they begin with, and what they hand back -/
/-- a result that lies in a variable -/
def CellR (P : Program) (s : S) (b : Nat) (t : TypeId) (x : C) : Prop :=
  ∃ agg n off cells, tyB P t agg n = true ∧ off + n ≤ cells.length ∧ mkC agg ((cells.drop off).take n) = x ∧ ((∃ d, s.t b = .lp d off ∧ s.L d = some (.box cells)) ∨ (∃ k, s.t b = .c (.a (.bp k off)) ∧ s.H k = some (.box cells)))
def Res (P : Program) (s : S) : List ResultVar → List C → Prop
  | [], l => l = []
  | .tmp i :: r, l => ∃ x l', s.t i = .c x ∧ l = x :: l' ∧ Res P s r l'
  | .cell b t :: r, l => ∃ x l', CellR P s b t x ∧ l = x :: l' ∧ Res P s r l'
section
variable {P : Program} {s : S} {rs : List ResultVar} {l : List C} {i d k off n : Nat} {x : C} {cells : List A} {tt : TypeId} {agg : Bool}
theorem Res.nil : Res P s [] [] := rfl
theorem Res.tmp (h : s.t i = .c x) (r : Res P s rs l) : Res P s (.tmp i :: rs) (x :: l) := ⟨x, l, h, rfl, r⟩
theorem Res.cellL (h : s.t i = .lp d off) (hL : s.L d = some (.box cells)) (ty : tyB P tt agg n = true) (hr : mkC agg ((cells.drop off).take n) = x) (hn : Nat.ble (off + n) cells.length = true) (r : Res P s rs l) : Res P s (.cell i tt :: rs) (x :: l) :=
  ⟨x, l, ⟨agg, n, off, cells, ty, Nat.le_of_ble_eq_true hn, hr, .inl ⟨d, h, hL⟩⟩, rfl, r⟩
theorem Res.cellH (h : s.t i = .c (.a (.bp k off))) (hH : s.H k = some (.box cells)) (ty : tyB P tt agg n = true) (hr : mkC agg ((cells.drop off).take n) = x) (hn : Nat.ble (off + n) cells.length = true) (r : Res P s rs l) : Res P s (.cell i tt :: rs) (x :: l) :=
  ⟨x, l, ⟨agg, n, off, cells, ty, Nat.le_of_ble_eq_true hn, hr, .inr ⟨k, h, hH⟩⟩, rfl, r⟩
end
def resC : List C → X
  | [x] => .c x
  | l => .tup l
/-- a slice handed back is common memory, whoever may still append to it -/
def aw : A → A
  | .ts _ z sz es => .t (.sl z sz es)
  | x => x
def cw : C → C
  | .a x => .a (aw x)
  | .g l => .g (l.map aw)
theorem aw_rep {μ : Mem} {β : Pos} {x : A} {v : Value} (h : RepA μ β x v) : RepA μ β (aw x) v := by
  cases h with
  | ts0 => exact .t (.nil (by simp))
  | tsE => exact .t (.emp (by simp))
  | ts hk hne hn h => cases h with
    | sl u ne hn hc len mem rep => exact .t (.sl u ne hn hc len mem rep)
    | emp => exact absurd rfl hne
  | t h => exact .t h
  | bp h => exact .bp h
  | mp h => exact .mp h
  | os0 => exact .os0
  | os h h0 => exact .os h h0
  | osub h h0 => exact .osub h h0
  | yl h => exact .yl h
  | fn u hv h => exact .fn u hv h
theorem Reps.map {α : Type} {R R' : α → Value → Prop} {f : α → α} (hf : ∀ x v, R x v → R' (f x) v) {l : List α} {cs : List Value} (h : Reps R l cs) : Reps R' (l.map f) cs := by
  refine ⟨by simpa using h.1, fun i x v h1 h2 => ?_⟩
  rw [List.getElem?_map] at h1
  cases h3 : l[i]? with
  | none => rw [h3] at h1; cases h1
  | some y => rw [h3] at h1; injection h1 with h1; subst h1; exact hf _ _ (h.2 i y v h3 h2)
theorem cw_rep {μ : Mem} {β : Pos} {x : C} {v : Value} (h : RepC μ β x v) : RepC μ β (cw x) v := by
  cases x with
  | a x => exact aw_rep h
  | g l => obtain ⟨us, h1, h2⟩ := h; exact ⟨us, h1, h2.map fun _ _ h => aw_rep h⟩
def resF (tmps : Array Value) : ResultVar → Sem Value
  | .tmp t => pure (tmps.getD t undef)
  | .cell b t => do loadVar t (← asAddr (tmps.getD b undef))
theorem results_eq (fn : Func) (tmps : Array Value) : results fn tmps = (do
    let vs ← fn.results.mapM (resF tmps)
    pure (if h : vs.size = 1 then vs[0] else .tuple vs)) := rfl
theorem cellR_run {P : Program} {c : Ctx} {s : S} {a : Act} {w : World} (g : Sat c s a w) {b : Nat} {t : TypeId} {x : C} (h : CellR P s b t x) : ∃ v, (resF a.tmps (.cell b t)).run P w = .ok v w ∧ RepC c.μ c.β x v := by
  obtain ⟨agg, n, off, cells, ty, hn, hr, h⟩ := h
  have key : ∀ blk m, c.μ = c.μ → a.tmps.getD b undef = .pointer (some ⟨blk, off, none⟩) → ORep c w (.box cells) blk m → ∃ v, (resF a.tmps (.cell b t)).run P w = .ok v w ∧ RepC c.μ c.β x v := by
    intro blk m _ hv ho
    obtain ⟨cs, h1, h2, h3⟩ := (CellsAt.box ho).range off n hn
    obtain ⟨v, h4, h5⟩ := load_run ty h3 h1 h2
    refine ⟨v, ?_, by rw [← hr]; exact h5⟩
    simp only [resF, hv]
    simpa [Instr.loadAt, Instr.sureAddr, asAddr] using h4
  rcases h with ⟨d, h1, h2⟩ | ⟨k, h1, h2⟩
  · have hv := g.tmps b
    rw [h1] at hv
    obtain ⟨bb, nn, h3, h4⟩ := g.conc.obj (.l d) (.box cells) h2 (by simp [AO.empty])
    injection h3 with h3
    exact key _ _ rfl hv (by rw [h3]; exact h4)
  · have hv := g.tmps b
    rw [h1] at hv
    obtain ⟨bb, nn, h3, h4⟩ := g.conc.obj (.e k) (.box cells) h2 (by simp [AO.empty])
    have h3 : c.β k = some (bb, nn) := h3
    generalize hvv : a.tmps.getD b undef = v at hv
    cases hv with
    | bp h => rw [h3] at h; injection h with h; injection h with e1 e2; subst e1; exact key _ _ rfl hvv h4
theorem results_run {P : Program} {fn : Func} {c : Ctx} {s : S} {a : Act} {w : World} (g : Sat c s a w) {l : List C} (h : Res P s fn.results.toList l) :
    ∃ v, (results fn a.tmps).run P w = .ok v w ∧ RepX c (resC l) v ∧ RepX c (resC (l.map cw)) v := by
  have key : ∀ (rs : List ResultVar) (l : List C), Res P s rs l → ∃ vs : List Value, (rs.mapM (resF a.tmps)).run P w = .ok vs w ∧ Reps (RepC c.μ c.β) l vs := by
    intro rs
    induction rs with
    | nil => intro l h; cases h; exact ⟨[], by simp, .nil⟩
    | cons r rs ih =>
      intro l h
      have : ∃ x l' v, l = x :: l' ∧ Res P s rs l' ∧ (resF a.tmps r).run P w = .ok v w ∧ RepC c.μ c.β x v := by
        cases r with
        | tmp i =>
          obtain ⟨x, l', h1, h2, h3⟩ := h
          exact ⟨x, l', a.tmps.getD i undef, h2, h3, by simp [resF], by have := g.tmps i; rw [h1] at this; exact this⟩
        | cell b t =>
          obtain ⟨x, l', h1, h2, h3⟩ := h
          obtain ⟨v, h4, h5⟩ := cellR_run g h1
          exact ⟨x, l', v, h2, h3, h4, h5⟩
      obtain ⟨x, l', v, rfl, h1, h2, h3⟩ := this
      obtain ⟨vs, h4, h5⟩ := ih l' h1
      exact ⟨v :: vs, by rw [List.mapM_cons, Sem.run_bind, h2]; simp [Result.andThen, h4], .cons h3 h5⟩
  obtain ⟨vs, h2, h3⟩ := key _ _ h
  have hrun : (fn.results.mapM (resF a.tmps)).run P w = .ok vs.toArray w := by
    rw [Array.mapM_eq_mapM_toList]
    simp [h2]
  rw [results_eq, Sem.run_bind, hrun]
  by_cases h1 : vs.length = 1
  · obtain ⟨v, rfl⟩ : ∃ v, vs = [v] := by
      match vs, h1 with
      | [v], _ => exact ⟨v, rfl⟩
    obtain ⟨x, rfl⟩ : ∃ x, l = [x] := by
      match l, h3.1 with
      | [x], _ => exact ⟨x, rfl⟩
    exact ⟨v, by simp [Result.andThen], h3.2 0 x v rfl rfl, cw_rep (h3.2 0 x v rfl rfl)⟩
  · have e : ∀ l' : List C, l'.length = vs.length → resC l' = .tup l' := fun l' h => by
      match l', h with
      | [], _ => rfl
      | [y], h => exact absurd h.symm h1
      | _ :: _ :: _, _ => rfl
    refine ⟨.tuple vs.toArray, by simp [Result.andThen, h1], ?_, ?_⟩
    · rw [e l h3.1]; exact ⟨vs.toArray, rfl, by simpa using h3⟩
    · rw [e _ (by simpa using h3.1)]; exact ⟨vs.toArray, rfl, by simpa using h3.map fun _ _ h => cw_rep h⟩
/-- from the body to the function: the slots are the arguments, then nothing -/
def start (args : List C) (n : Nat) (H : Heap) : S :=
  { n := args.length + (n - args.length), t := fun i => match args[i]? with | some x => .c x | none => .any, L := fun _ => none, H := H }
/-- what stands at a function's end -/
def Fin (P : Program) (fn : Func) (Q : X → Heap → Prop) : Exit → S → Prop
  | .normal, s | .ret, s => ∃ l x H', Res P s fn.results.toList l ∧ (x = resC l ∨ x = resC (l.map cw)) ∧ (∀ k o, H' k = some o → s.H k = some o) ∧ Q x H'
  | _, _ => False
theorem own_start (args : List C) (n : Nat) (H : Heap) : (start args n H).own = ownH H := by
  funext i; cases i <;> rfl
theorem Conc.rebase {c : Ctx} {own : Own} {w : World} {k : Nat} (h : Conc c own w) : Conc { c with base := k } own w := by
  refine ⟨h.mem, fun i x hi he => ?_, fun i j x y b n m hi hj hx hy h1 h2 => h.inj i j x y b n m hi hj hx hy (by cases i <;> exact h1) (by cases j <;> exact h2), h.fin⟩
  obtain ⟨b, n, h1, h2⟩ := h.obj i x hi he
  exact ⟨b, n, by cases i <;> exact h1, h2.keep rfl (fun _ _ _ h => h) (fun _ _ h => h) (fun _ _ h => h)⟩
theorem Ext.rebase {c c' : Ctx} {own own' : Own} {w w' : World} {k : Nat} (h : Ext { c with base := k } own w c' own' w') : Ext c own w { c' with base := c.base } own' w' :=
  ⟨h.os, h.tape, h.output, h.size, fun b hb hn => h.blk b hb fun i x n h1 h2 h3 => hn i x n h1 h2 (by cases i <;> exact h3), h.mem, fun b o u hu => by
    rcases h.new b o u hu with h1 | h1 | ⟨i, x, n, h1, h2, h3⟩
    · exact .inl h1
    · exact .inr (.inl h1)
    · exact .inr (.inr ⟨i, x, n, h1, h2, by cases i <;> exact h3⟩), h.ext, fun i x b n h1 h2 h3 => by
    rcases h.own i x b n h1 h2 (by cases i <;> exact h3) with h4 | ⟨j, y, m, h4, h5, h6⟩
    · exact .inl h4
    · exact .inr ⟨j, y, m, h4, h5, by cases j <;> exact h6⟩, rfl, h.nm⟩
theorem RepX.rebase {c : Ctx} {x : X} {v : Value} {k : Nat} (h : RepX c x v) : RepX { c with base := k } x v := h.mono (fun _ _ _ h => h) (fun _ _ h => h) rfl
/-- a mark is taken -/
theorem Sat.take {c : Ctx} {s : S} {a : Act} {w : World} {D : Nat} (g : Sat c s a w) (hD : w.heap[D]? = some (Obj.deferred (some []))) {ds : List Deferred} (hd : DefOk c.base ds (w.putObj D (.deferred none))) : Sat c s { a with defers := ds } (w.putObj D (.deferred none)) := by
  refine ⟨⟨fun b o u h => ?_, fun i x hi hx => ?_, g.conc.inj, g.conc.fin⟩, g.size, g.tmps, hd, g.wf⟩
  · have h1 := g.conc.mem b o u h
    have hne : b ≠ D := fun e => by subst e; simp only [World.cell?, hD] at h1; cases h1
    unfold World.cell? at h1 ⊢
    rw [World.putObj_heap_other hne]; exact h1
  · obtain ⟨b, n, h1, h2⟩ := g.conc.obj i x hi hx
    exact ⟨b, n, h1, h2.keep (World.putObj_heap_other fun e => by subst e; exact h2.nd hD) (fun _ _ _ h => h) (fun _ _ h => h) (fun _ _ h => h)⟩
theorem leave_marks {P : Program} {fn : Func} {R : Ending → World → Prop} {c c' : Ctx} {own : Own} {w0 : World} {s : S} (hbase : c'.base = w0.heap.size) : ∀ {a : Act} {w : World}, Sat c' s a w → Ext c own w0 c' s.own w →
    (∀ (w' : World) (a' : Act), a'.tmps = a.tmps → Sat c' s a' w' → Ext c own w0 c' s.own w' → ∃ v, (results fn a'.tmps).run P w' = .ok v w' ∧ R (.returned v) w') → LeavesInM Fence.wide 0 P fn a.tmps R a.defers .returning w := by
  intro a w g x h
  obtain ⟨ds, hds⟩ : ∃ ds, ds = a.defers := ⟨_, rfl⟩
  rw [← hds]
  induction ds generalizing a w with
  | nil => obtain ⟨v, h1, h2⟩ := h w a rfl g x; exact ⟨v, h1, h2⟩
  | cons d ds ih =>
    obtain ⟨h0, Ds, h1, h2, h3⟩ := g.defers
    rw [← hds] at h1
    cases Ds with
    | nil => cases h1
    | cons D Ds =>
      injection h1 with e1 e2
      obtain ⟨h4, h5⟩ := h3 D (by simp)
      obtain ⟨h6, h7⟩ := List.nodup_cons.1 h2
      have hd' : DefOk c'.base ds (w.putObj D (.deferred none)) := ⟨by rw [World.putObj_size]; exact h0, Ds, e2, h7, fun D' hD' => ⟨(h3 D' (by simp [hD'])).1, by
        rw [World.putObj_heap_other (show D' ≠ D from fun e => h6 (by rw [← e]; exact hD'))]; exact (h3 D' (by simp [hD'])).2⟩⟩
      refine ⟨by simp, .inl ⟨D, w.putObj D (.deferred none), by rw [e1]; rfl, run_takeDeferred h5, ?_⟩⟩
      have x' : Ext c own w0 c' s.own (w.putObj D (.deferred none)) := ⟨x.os, x.tape, x.output, by rw [World.putObj_size]; exact x.size, fun b hb hn => (World.putObj_heap_other (by omega)).trans (x.blk b hb hn), x.mem, x.new, x.ext, x.own, x.base, x.nm⟩
      exact ih (a := { a with defers := ds }) (g.take h5 hd') x' (fun w' a' ht g' x' => h w' a' ht g' x') rfl
theorem Spec.enter {P : Program} {f : FuncId} {fn : Func} {cd : Code} {args : List C} {H : Heap} {Q : X → Heap → Prop} (hf : P.funcs[f]? = some fn) (hb : fn.body = some cd)
    (h : AW P cd (Fin P fn Q) (start args fn.ntmps H)) : Spec P f args H Q := by
  intro c0 w vs hc0 hr
  obtain ⟨c, hcd⟩ : ∃ c : Ctx, c = { c0 with base := w.heap.size } := ⟨_, rfl⟩
  have hc : Conc c (ownH H) w := by subst hcd; exact hc0.rebase
  have hr : Reps (RepC c.μ c.β) args vs.toList := by subst hcd; exact hr
  refine (callsIn_wide (n := 0)).1 (callsIn_of_wp_marks hf hb trivial ?_)
  have hlen : args.length = vs.size := by rw [hr.1, Array.length_toList]
  have g : Sat c (start args fn.ntmps H) { tmps := vs ++ Array.replicate (fn.ntmps - vs.size) undef, defers := [] } w := by
    refine ⟨by rw [own_start]; exact hc, by simp [start, hlen], fun i => ?_, .nil (by subst hcd; exact Nat.le_refl _), fun i d hx => ?_⟩
    · simp only [start]
      cases hi : args[i]? with
      | none => trivial
      | some y =>
        obtain ⟨v, hv, hrep⟩ := hr.get hi
        have : (vs ++ Array.replicate (fn.ntmps - vs.size) undef)[i]? = some v := by
          have h1 : vs[i]? = some v := by simpa using hv
          have h2 := (Array.getElem?_eq_some_iff.1 h1).1
          rw [Array.getElem?_append_left h2]; exact h1
        simp only [Array.getD_eq_getD_getElem?, this, Option.getD_some]
        exact hrep
    · simp only [start] at hx
      split at hx <;> cases hx
  refine wpIn_mono ((wpIn_wide (n := 0)).2 (h c _ w g)) ?_
  rintro e a1 w1 ⟨s', c', q, g1, x1⟩
  rw [own_start] at x1
  have hbase : c'.base = w.heap.size := by rw [x1.base, hcd]
  have fin : ∀ {e}, (e = Exit.normal ∨ e = Exit.ret) → Fin P fn Q e s' → LeavesInM Fence.wide 0 P fn a1.tmps (fun e w' => ∃ v x H' c', e = .returned v ∧ Q x H' ∧ RepX c' x v ∧ Conc c' (ownH H') w' ∧ Ext c0 (ownH H) w c' (ownH H') w') a1.defers .returning w1 := by
    intro e he q
    refine leave_marks hbase g1 x1 fun w' a' ht g' x' => ?_
    have q : ∃ l x H', Res P s' fn.results.toList l ∧ (x = resC l ∨ x = resC (l.map cw)) ∧ (∀ k o, H' k = some o → s'.H k = some o) ∧ Q x H' := by
      rcases he with rfl | rfl <;> exact q
    obtain ⟨l, x, H', h1, hx, h2, h3⟩ := q
    obtain ⟨v, h4, h5, h6⟩ := results_run (P := P) g' h1
    have h5 : RepX c' x v := by rcases hx with rfl | rfl <;> assumption
    have hs : ∀ i x, ownH H' i = some x → s'.own i = some x := by
      intro i x hi
      cases i with
      | e k => exact h2 k x hi
      | l d => cases hi
    have hE := x'.sub hs
    exact ⟨v, h4, v, x, H', { c' with base := c0.base }, rfl, h3, h5.rebase, (g'.conc.sub hs).rebase, by subst hcd; exact hE.rebase⟩
  cases e with
  | normal => exact fin (.inl rfl) q
  | ret => exact fin (.inr rfl) q
  | _ => exact q.elim
section
variable {P : Program} {all : Array Oper} {o : Oper} {s s' : S} {K : S → Prop} {Q : Exit → S → Prop} {rest : List Oper} {p : Nat} {fp : List Fp} {R W : List Loc}
theorem eth_e {K : S → Prop} {id : Nat} (h : Q (.exit id) s) : Eth K Q (.exit id) s := h
theorem exit_here {id : Nat} (h : Q .normal s) : EBlock id Q (.exit id) s := by simp [EBlock, h]
theorem exit_pass {id id' : Nat} (h : Q (.exit id) s) (hn : Nat.beq id id' = false) : EBlock id' Q (.exit id) s := by
  have : id ≠ id' := fun e => by subst e; simp at hn
  simp [EBlock, this, h]
theorem fin_x {fn : Func} {Q : X → Heap → Prop} {l : List C} {x : X} (H' : Heap) (h : Res P s fn.results.toList l) (hx : resC l = x) (hH : ∀ k o, H' k = some o → s.H k = some o) (q : Q x H') : Fin P fn Q .ret s := ⟨l, x, H', h, .inl hx.symm, hH, q⟩
theorem fin_xN {fn : Func} {Q : X → Heap → Prop} {l : List C} {x : X} (H' : Heap) (h : Res P s fn.results.toList l) (hx : resC l = x) (hH : ∀ k o, H' k = some o → s.H k = some o) (q : Q x H') : Fin P fn Q .normal s := ⟨l, x, H', h, .inl hx.symm, hH, q⟩
theorem fin_w {fn : Func} {Q : X → Heap → Prop} {l : List C} {x : X} (H' : Heap) (h : Res P s fn.results.toList l) (hx : resC (l.map cw) = x) (hH : ∀ k o, H' k = some o → s.H k = some o) (q : Q x H') : Fin P fn Q .ret s := ⟨l, x, H', h, .inr hx.symm, hH, q⟩
theorem fin_wN {fn : Func} {Q : X → Heap → Prop} {l : List C} {x : X} (H' : Heap) (h : Res P s fn.results.toList l) (hx : resC (l.map cw) = x) (hH : ∀ k o, H' k = some o → s.H k = some o) (q : Q x H') : Fin P fn Q .normal s := ⟨l, x, H', h, .inr hx.symm, hH, q⟩
theorem SeqK.nil (h : K s) : SeqK P all K [] s := h
theorem SeqK.any (h : OpW P all o (SeqK P all K rest) s) : SeqK P all K (o :: rest) s := h
/-- a test that has been decided -/
theorem SeqK.stepD {d : Option Nat} {q : Prop} [Decidable q] (h : LOp P all o R W s (s.put d (bX (decide q)))) (ht : q → SeqK P all K rest (s.put d (bX true))) (he : ¬ q → SeqK P all K rest (s.put d (bX false))) : SeqK P all K (o :: rest) s := by
  by_cases hq : q
  · rw [decide_eq_true hq] at h; exact .step h (ht hq)
  · rw [decide_eq_false hq] at h; exact .step h (he hq)
theorem SeqK.stepB {d : Option Nat} {b : Bool} (h : LOp P all o R W s (s.put d (bX b))) (ht : b = true → SeqK P all K rest (s.put d (bX true))) (he : b = false → SeqK P all K rest (s.put d (bX false))) : SeqK P all K (o :: rest) s := by
  cases b
  · exact .step h (he rfl)
  · exact .step h (ht rfl)
theorem LexK.consD {d : Option Nat} {q : Prop} [Decidable q] (h : LOp P all o R W s (s.put d (bX (decide q)))) (ht : q → LexK P all K rest (s.put d (bX true)) p (fp ++ [(R, W)])) (he : ¬ q → LexK P all K rest (s.put d (bX false)) p (fp ++ [(R, W)])) : LexK P all K (o :: rest) s p fp := by
  by_cases hq : q
  · rw [decide_eq_true hq] at h; exact .cons h (ht hq)
  · rw [decide_eq_false hq] at h; exact .cons h (he hq)
theorem LexK.consB {d : Option Nat} {b : Bool} (h : LOp P all o R W s (s.put d (bX b))) (ht : b = true → LexK P all K rest (s.put d (bX true)) p (fp ++ [(R, W)])) (he : b = false → LexK P all K rest (s.put d (bX false)) p (fp ++ [(R, W)])) : LexK P all K (o :: rest) s p fp := by
  cases b
  · exact .cons h (he rfl)
  · exact .cons h (ht rfl)
theorem AW.condT {y : Operand} {t e : Code} (hy : s.eval y = bX true) (ht : AW P t Q s) : AW P (.cond y t e) Q s := AW.cond true hy (fun _ => ht) (fun h => by cases h)
theorem AW.condF {y : Operand} {t e : Code} (hy : s.eval y = bX false) (he : AW P e Q s) : AW P (.cond y t e) Q s := AW.cond false hy (fun h => by cases h) (fun _ => he)
end

/-! ### steps on a state that is written out -/
section
variable {P : Program} {all : Array Oper} {o : Oper} {K : S → Prop} {rest : List Oper} {p : Nat} {fp : List Fp} {R W : List Loc} {n d : Nat} {t : Nat → X} {L : Nat → Option AO} {H : Heap} {x : X}
theorem q_mvC {s : S} {y : Operand} {z : C} (ho : o.op = .move y) (hy : s.eval y = .c z) : QV P o s (.c z) := hy ▸ q_move ho
theorem q_mvL {s : S} {y : Operand} {d off : Nat} (ho : o.op = .move y) (hy : s.eval y = .lp d off) : QV P o s (.lp d off) := hy ▸ q_move ho
theorem q_mvP {s : S} {y : Operand} {l : List T} (ho : o.op = .move y) (hy : s.eval y = .pc l) : QV P o s (.pc l) := hy ▸ q_move ho
theorem q_mvT {s : S} {y : Operand} {l : List C} (ho : o.op = .move y) (hy : s.eval y = .tup l) : QV P o s (.tup l) := hy ▸ q_move ho
theorem q_mvS {s : S} {y : Operand} {d sz : Nat} {z : Nz} {es : List (List T)} (ho : o.op = .move y) (hy : s.eval y = .lts d z sz es) : QV P o s (.lts d z sz es) := hy ▸ q_move ho
theorem q_asC {s : S} {y : Operand} {z : C} (ho : o.op = .assign y) (hy : s.eval y = .c z) : QV P o s (.c z) := hy ▸ q_assign ho
theorem q_asL {s : S} {y : Operand} {d off : Nat} (ho : o.op = .assign y) (hy : s.eval y = .lp d off) : QV P o s (.lp d off) := hy ▸ q_assign ho
theorem q_asS {s : S} {y : Operand} {d sz : Nat} {z : Nz} {es : List (List T)} (ho : o.op = .assign y) (hy : s.eval y = .lts d z sz es) : QV P o s (.lts d z sz es) := hy ▸ q_assign ho
theorem q_pkT {s : S} {q y w : Operand} {z : C} (ho : o.op = .pick q y w) (hq : s.eval q = bX true) (hy : s.eval y = .c z) : QV P o s (.c z) := hy ▸ q_pick true ho hq
theorem q_pkF {s : S} {q y w : Operand} {z : C} (ho : o.op = .pick q y w) (hq : s.eval q = bX false) (hy : s.eval w = .c z) : QV P o s (.c z) := hy ▸ q_pick false ho hq
theorem inb {d n : Nat} (h : Nat.blt d n = true) : d < n := Nat.le_of_ble_eq_true h
theorem inb' {d n : Nat} {o : Oper} (hdst : o.dst = some d) (hd : Nat.blt d n = true) : inB o.dst n = true := by rw [hdst]; simpa [inB] using inb hd
theorem SeqK.q (h : QV P o ⟨n, t, L, H⟩ x) (hg : o.guard = none) (hdst : o.dst = some d) (hd : Nat.blt d n = true) (k : SeqK P all K rest ⟨n, upd t d x, L, H⟩) : SeqK P all K (o :: rest) ⟨n, t, L, H⟩ :=
  .step (.q h hg (inb' hdst hd)) (by rw [hdst]; exact k)
theorem LexK.q (h : QV P o ⟨n, t, L, H⟩ x) (hg : o.guard = none) (hdst : o.dst = some d) (hd : Nat.blt d n = true) (k : LexK P all K rest ⟨n, upd t d x, L, H⟩ p (fp ++ [(lookT all o, dstT o)])) : LexK P all K (o :: rest) ⟨n, t, L, H⟩ p fp :=
  .cons (.q h hg (inb' hdst hd)) (by rw [hdst]; exact k)
theorem SeqK.on {j i : Nat} {b : Bool} (h : QV P o ⟨n, t, L, H⟩ x) (hg : o.guard = some (j, b)) (hj : (all[j]?).bind (·.dst) = some i) (hb : t i = tv (.bool b)) (hdst : o.dst = some d) (hd : Nat.blt d n = true) (k : SeqK P all K rest ⟨n, upd t d x, L, H⟩) : SeqK P all K (o :: rest) ⟨n, t, L, H⟩ :=
  .step (.on h hg hj hb (inb' hdst hd)) (by rw [hdst]; exact k)
theorem LexK.on {j i : Nat} {b : Bool} (h : QV P o ⟨n, t, L, H⟩ x) (hg : o.guard = some (j, b)) (hj : (all[j]?).bind (·.dst) = some i) (hb : t i = tv (.bool b)) (hdst : o.dst = some d) (hd : Nat.blt d n = true) (k : LexK P all K rest ⟨n, upd t d x, L, H⟩ p (fp ++ [(lookT all o, dstT o)])) : LexK P all K (o :: rest) ⟨n, t, L, H⟩ p fp :=
  .cons (.on h hg hj hb (inb' hdst hd)) (by rw [hdst]; exact k)
theorem SeqK.off {j i : Nat} {b b' : Bool} (hg : o.guard = some (j, b)) (hj : (all[j]?).bind (·.dst) = some i) (hb : t i = tv (.bool b')) (hne : (b' == b) = false) (hdst : o.dst = some d) (hd : Nat.blt d n = true) (k : SeqK P all K rest ⟨n, upd t d (.tup []), L, H⟩) : SeqK P all K (o :: rest) ⟨n, t, L, H⟩ :=
  .step (.off hg hj hb (fun e => by subst e; simp at hne) (inb' hdst hd)) (by rw [hdst]; exact k)
theorem LexK.off {j i : Nat} {b b' : Bool} (hg : o.guard = some (j, b)) (hj : (all[j]?).bind (·.dst) = some i) (hb : t i = tv (.bool b')) (hne : (b' == b) = false) (hdst : o.dst = some d) (hd : Nat.blt d n = true) (k : LexK P all K rest ⟨n, upd t d (.tup []), L, H⟩ p (fp ++ [(lookT all o, dstT o)])) : LexK P all K (o :: rest) ⟨n, t, L, H⟩ p fp :=
  .cons (.off hg hj hb (fun e => by subst e; simp at hne) (inb' hdst hd)) (by rw [hdst]; exact k)
theorem SeqK.offU {j i : Nat} {b : Bool} (hg : o.guard = some (j, b)) (hj : (all[j]?).bind (·.dst) = some i) (hb : t i = .tup []) (hdst : o.dst = some d) (hd : Nat.blt d n = true) (k : SeqK P all K rest ⟨n, upd t d (.tup []), L, H⟩) : SeqK P all K (o :: rest) ⟨n, t, L, H⟩ :=
  .step (.offU hg hj hb (inb' hdst hd)) (by rw [hdst]; exact k)
theorem LexK.offU {j i : Nat} {b : Bool} (hg : o.guard = some (j, b)) (hj : (all[j]?).bind (·.dst) = some i) (hb : t i = .tup []) (hdst : o.dst = some d) (hd : Nat.blt d n = true) (k : LexK P all K rest ⟨n, upd t d (.tup []), L, H⟩ p (fp ++ [(lookT all o, dstT o)])) : LexK P all K (o :: rest) ⟨n, t, L, H⟩ p fp :=
  .cons (.offU hg hj hb (inb' hdst hd)) (by rw [hdst]; exact k)
theorem SeqK.r {s' : S} (h : LR P o R W ⟨n, t, L, H⟩ s') (hg : o.guard = none) (k : SeqK P all K rest s') : SeqK P all K (o :: rest) ⟨n, t, L, H⟩ := .step (.r h hg) k
theorem LexK.r {s' : S} (h : LR P o R W ⟨n, t, L, H⟩ s') (hg : o.guard = none) (k : LexK P all K rest s' p (fp ++ [(R, W)])) : LexK P all K (o :: rest) ⟨n, t, L, H⟩ p fp := .cons (.r h hg) k
theorem SeqK.rOn {s' : S} {j i : Nat} {b : Bool} (h : LR P o R W ⟨n, t, L, H⟩ s') (hg : o.guard = some (j, b)) (hj : (all[j]?).bind (·.dst) = some i) (hb : t i = tv (.bool b)) (k : SeqK P all K rest s') : SeqK P all K (o :: rest) ⟨n, t, L, H⟩ := .step (.rOn h hg hj hb) k
theorem LexK.rOn {s' : S} {j i : Nat} {b : Bool} (h : LR P o R W ⟨n, t, L, H⟩ s') (hg : o.guard = some (j, b)) (hj : (all[j]?).bind (·.dst) = some i) (hb : t i = tv (.bool b)) (k : LexK P all K rest s' p (fp ++ [(.t i :: R, W)])) : LexK P all K (o :: rest) ⟨n, t, L, H⟩ p fp := .cons (.rOn h hg hj hb) k
/-- a test that is decided here -/
theorem SeqK.qD {q : Prop} [Decidable q] (h : QV P o ⟨n, t, L, H⟩ (bX (decide q))) (hg : o.guard = none) (hdst : o.dst = some d) (hd : Nat.blt d n = true) (ht : q → SeqK P all K rest ⟨n, upd t d (bX true), L, H⟩) (he : ¬ q → SeqK P all K rest ⟨n, upd t d (bX false), L, H⟩) : SeqK P all K (o :: rest) ⟨n, t, L, H⟩ :=
  SeqK.stepD (.q h hg (inb' hdst hd)) (fun hq => by rw [hdst]; exact ht hq) (fun hq => by rw [hdst]; exact he hq)
theorem SeqK.qB {b : Bool} (h : QV P o ⟨n, t, L, H⟩ (bX b)) (hg : o.guard = none) (hdst : o.dst = some d) (hd : Nat.blt d n = true) (ht : b = true → SeqK P all K rest ⟨n, upd t d (bX true), L, H⟩) (he : b = false → SeqK P all K rest ⟨n, upd t d (bX false), L, H⟩) : SeqK P all K (o :: rest) ⟨n, t, L, H⟩ :=
  SeqK.stepB (.q h hg (inb' hdst hd)) (fun hq => by rw [hdst]; exact ht hq) (fun hq => by rw [hdst]; exact he hq)
theorem LexK.qD {q : Prop} [Decidable q] (h : QV P o ⟨n, t, L, H⟩ (bX (decide q))) (hg : o.guard = none) (hdst : o.dst = some d) (hd : Nat.blt d n = true) (ht : q → LexK P all K rest ⟨n, upd t d (bX true), L, H⟩ p (fp ++ [(lookT all o, dstT o)])) (he : ¬ q → LexK P all K rest ⟨n, upd t d (bX false), L, H⟩ p (fp ++ [(lookT all o, dstT o)])) : LexK P all K (o :: rest) ⟨n, t, L, H⟩ p fp :=
  LexK.consD (.q h hg (inb' hdst hd)) (fun hq => by rw [hdst]; exact ht hq) (fun hq => by rw [hdst]; exact he hq)
theorem LexK.qB {b : Bool} (h : QV P o ⟨n, t, L, H⟩ (bX b)) (hg : o.guard = none) (hdst : o.dst = some d) (hd : Nat.blt d n = true) (ht : b = true → LexK P all K rest ⟨n, upd t d (bX true), L, H⟩ p (fp ++ [(lookT all o, dstT o)])) (he : b = false → LexK P all K rest ⟨n, upd t d (bX false), L, H⟩ p (fp ++ [(lookT all o, dstT o)])) : LexK P all K (o :: rest) ⟨n, t, L, H⟩ p fp :=
  LexK.consB (.q h hg (inb' hdst hd)) (fun hq => by rw [hdst]; exact ht hq) (fun hq => by rw [hdst]; exact he hq)
theorem SeqK.onD {j i : Nat} {b : Bool} {q : Prop} [Decidable q] (h : QV P o ⟨n, t, L, H⟩ (bX (decide q))) (hg : o.guard = some (j, b)) (hj : (all[j]?).bind (·.dst) = some i) (hb : t i = tv (.bool b)) (hdst : o.dst = some d) (hd : Nat.blt d n = true) (ht : q → SeqK P all K rest ⟨n, upd t d (bX true), L, H⟩) (he : ¬ q → SeqK P all K rest ⟨n, upd t d (bX false), L, H⟩) : SeqK P all K (o :: rest) ⟨n, t, L, H⟩ :=
  SeqK.stepD (.on h hg hj hb (inb' hdst hd)) (fun hq => by rw [hdst]; exact ht hq) (fun hq => by rw [hdst]; exact he hq)
theorem SeqK.onB {j i : Nat} {b c : Bool} (h : QV P o ⟨n, t, L, H⟩ (bX c)) (hg : o.guard = some (j, b)) (hj : (all[j]?).bind (·.dst) = some i) (hb : t i = tv (.bool b)) (hdst : o.dst = some d) (hd : Nat.blt d n = true) (ht : c = true → SeqK P all K rest ⟨n, upd t d (bX true), L, H⟩) (he : c = false → SeqK P all K rest ⟨n, upd t d (bX false), L, H⟩) : SeqK P all K (o :: rest) ⟨n, t, L, H⟩ :=
  SeqK.stepB (.on h hg hj hb (inb' hdst hd)) (fun hq => by rw [hdst]; exact ht hq) (fun hq => by rw [hdst]; exact he hq)
theorem LexK.onD {j i : Nat} {b : Bool} {q : Prop} [Decidable q] (h : QV P o ⟨n, t, L, H⟩ (bX (decide q))) (hg : o.guard = some (j, b)) (hj : (all[j]?).bind (·.dst) = some i) (hb : t i = tv (.bool b)) (hdst : o.dst = some d) (hd : Nat.blt d n = true) (ht : q → LexK P all K rest ⟨n, upd t d (bX true), L, H⟩ p (fp ++ [(lookT all o, dstT o)])) (he : ¬ q → LexK P all K rest ⟨n, upd t d (bX false), L, H⟩ p (fp ++ [(lookT all o, dstT o)])) : LexK P all K (o :: rest) ⟨n, t, L, H⟩ p fp :=
  LexK.consD (.on h hg hj hb (inb' hdst hd)) (fun hq => by rw [hdst]; exact ht hq) (fun hq => by rw [hdst]; exact he hq)
theorem LexK.onB {j i : Nat} {b c : Bool} (h : QV P o ⟨n, t, L, H⟩ (bX c)) (hg : o.guard = some (j, b)) (hj : (all[j]?).bind (·.dst) = some i) (hb : t i = tv (.bool b)) (hdst : o.dst = some d) (hd : Nat.blt d n = true) (ht : c = true → LexK P all K rest ⟨n, upd t d (bX true), L, H⟩ p (fp ++ [(lookT all o, dstT o)])) (he : c = false → LexK P all K rest ⟨n, upd t d (bX false), L, H⟩ p (fp ++ [(lookT all o, dstT o)])) : LexK P all K (o :: rest) ⟨n, t, L, H⟩ p fp :=
  LexK.consB (.on h hg hj hb (inb' hdst hd)) (fun hq => by rw [hdst]; exact ht hq) (fun hq => by rw [hdst]; exact he hq)
/-! reads and writes of memory, the state written out -/
theorem c_put {s : S} {d : Nat} {x : X} : s.put (some d) x = ⟨s.n, upd s.t d x, s.L, s.H⟩ := rfl
theorem lr_cast {s s' s'' : S} (h : LR P o R W s s') (e : s' = s'') : LR P o R W s s'' := e ▸ h
theorem b_load {tt : TypeId} {y : Operand} {agg : Bool} {m b off : Nat} {cells : List A} {r : C} (ho : o.op = .load tt y) (ty : tyB P tt agg m = true) (hy : S.eval ⟨n, t, L, H⟩ y = .lp b off) (hL : L b = some (.box cells)) (hr : mkC agg ((cells.drop off).take m) = r) (hn : Nat.ble (off + m) cells.length = true) (hdst : o.dst = some d) (hd : Nat.blt d n = true) :
    LR P o (.b b :: lk o) (dstT o) ⟨n, t, L, H⟩ ⟨n, upd t d (.c r), L, H⟩ := lr_cast (l_load r ho ty hy hL hr hn (inb' hdst hd)) (by rw [hdst]; rfl)
theorem g_load {tt : TypeId} {y : Operand} {agg : Bool} {m k off : Nat} {cells : List A} {r : C} (ho : o.op = .load tt y) (ty : tyB P tt agg m = true) (hy : S.eval ⟨n, t, L, H⟩ y = .c (.a (.bp k off))) (hH : H k = some (.box cells)) (hr : mkC agg ((cells.drop off).take m) = r) (hn : Nat.ble (off + m) cells.length = true) (hdst : o.dst = some d) (hd : Nat.blt d n = true) :
    LR P o (.h :: lk o) (dstT o) ⟨n, t, L, H⟩ ⟨n, upd t d (.c r), L, H⟩ := lr_cast (h_load r ho ty hy hH hr hn (inb' hdst hd)) (by rw [hdst]; rfl)
theorem b_box {e : TypeId} {y : Operand} {x : C} {r : List A} (ho : o.op = .box e y) (hdst : o.dst = some d) (hy : S.eval ⟨n, t, L, H⟩ y = .c x) (hr : x.cells = r) (hL : L d = none) (hd : Nat.blt d n = true) :
    LR P o (.b d :: lk o) [.t d, .b d] ⟨n, t, L, H⟩ ⟨n, upd t d (.lp d 0), upd L d (some (.box r)), H⟩ := l_box r ho hdst hy hr hL (inb' hdst hd)
theorem b_alloc {e : TypeId} {z : Value} {r : List A} (ho : o.op = .alloc e) (hdst : o.dst = some d) (hz : zeroIs P e z) (h1 : z.cells.toList.all Value.oneCell' = true) (hr : z.cells.toList.map litA = r) (hL : L d = none) (hd : Nat.blt d n = true) :
    LR P o (.b d :: lk o) [.t d, .b d] ⟨n, t, L, H⟩ ⟨n, upd t d (.lp d 0), upd L d (some (.box r)), H⟩ := l_alloc r ho hdst hz h1 hr hL (inb' hdst hd)
theorem b_store {tt : TypeId} {y z : Operand} {agg : Bool} {m b off : Nat} {cells : List A} {x : C} {r : List A} (ho : o.op = .store tt y z) (hdst : o.dst = none) (ty : tyB P tt agg m = true) (hy : S.eval ⟨n, t, L, H⟩ y = .lp b off) (hz : S.eval ⟨n, t, L, H⟩ z = .c x) (hL : L b = some (.box cells)) (hr : splice cells off x.cells = r) (hx : x.cells.length = m) (hn : Nat.ble (off + m) cells.length = true) :
    LR P o (.b b :: lk o) [.b b] ⟨n, t, L, H⟩ ⟨n, t, upd L b (some (.box r)), H⟩ := l_store r ho hdst ty hy hz hL hr hx hn
theorem g_store {tt : TypeId} {y z : Operand} {agg : Bool} {m k off : Nat} {cells : List A} {x : C} {r : List A} (ho : o.op = .store tt y z) (hdst : o.dst = none) (ty : tyB P tt agg m = true) (hy : S.eval ⟨n, t, L, H⟩ y = .c (.a (.bp k off))) (hz : S.eval ⟨n, t, L, H⟩ z = .c x) (hH : H k = some (.box cells)) (hr : splice cells off x.cells = r) (hx : x.cells.length = m) (hn : Nat.ble (off + m) cells.length = true) :
    LR P o (.h :: lk o) [.h] ⟨n, t, L, H⟩ ⟨n, t, L, upd H k (some (.box r))⟩ := h_store r ho hdst ty hy hz hH hr hx hn
theorem SeqK.newBox {e : TypeId} {y : Operand} {x : C} {r : List A} (ho : o.op = .box e y) (hg : o.guard = none) (hdst : o.dst = some d) (hy : S.eval ⟨n, t, L, H⟩ y = .c x) (hr : x.cells = r) (hd : Nat.blt d n = true)
    (k : ∀ k, H k = none → SeqK P all K rest ⟨n, upd t d (.c (.a (.bp k 0))), L, upd H k (some (.box r))⟩) : SeqK P all K (o :: rest) ⟨n, t, L, H⟩ :=
  SeqK.any (e_box r hg ho hy hr (inb' hdst hd) fun k' hk' => by rw [hdst]; exact k k' hk')
theorem SeqK.newAlloc {e : TypeId} {z : Value} {r : List A} (ho : o.op = .alloc e) (hg : o.guard = none) (hdst : o.dst = some d) (hz : zeroIs P e z) (h1 : z.cells.toList.all Value.oneCell' = true) (hr : z.cells.toList.map litA = r) (hd : Nat.blt d n = true)
    (k : ∀ k, H k = none → SeqK P all K rest ⟨n, upd t d (.c (.a (.bp k 0))), L, upd H k (some (.box r))⟩) : SeqK P all K (o :: rest) ⟨n, t, L, H⟩ :=
  SeqK.any (e_alloc r hg ho hz h1 hr (inb' hdst hd) fun k' hk' => by rw [hdst]; exact k k' hk')
theorem SeqK.newMap {e : TypeId} (kk : KK) (ho : o.op = .makeMap e none) (hg : o.guard = none) (hdst : o.dst = some d) (hd : Nat.blt d n = true)
    (k : ∀ k, H k = none → SeqK P all K rest ⟨n, upd t d (.c (.a (.mp k))), L, upd H k (some (.map kk [] 0))⟩) : SeqK P all K (o :: rest) ⟨n, t, L, H⟩ :=
  SeqK.any (e_makeMap kk hg ho (inb' hdst hd) fun k' hk' => by rw [hdst]; exact k k' hk')
theorem b_makeMap {e : TypeId} (kk : KK) (ho : o.op = .makeMap e none) (hdst : o.dst = some d) (hL : L d = none) (hd : Nat.blt d n = true) :
    LR P o (.b d :: lk o) [.t d, .b d] ⟨n, t, L, H⟩ ⟨n, upd t d (.lmp d), upd L d (some (.map kk [] 0)), H⟩ := l_makeMap kk ho hdst hL (inb' hdst hd)
end

/-! ### forgetting -/
/-- the slots of the list, and no others, are still known -/
def keepT (t : Nat → X) : List (Nat × X) → Prop
  | [] => True
  | (i, x) :: l => t i = x ∧ keepT t l
theorem keepT_le {t : Nat → X} : ∀ {l : List (Nat × X)}, keepT t l → ∀ i, sp l i = .any ∨ sp l i = t i
  | [], _, i => .inl rfl
  | (j, x) :: l, h, i => by
    simp only [sp]
    by_cases e : i = j
    · subst e; rw [upd_same]; exact .inr h.1.symm
    · rw [upd_ne _ _ e]; exact keepT_le h.2 i
def keepL (L : Nat → Option AO) : List (Nat × AO) → Prop
  | [] => True
  | (i, x) :: l => L i = some x ∧ keepL L l
theorem keepL_le {L : Nat → Option AO} : ∀ {l : List (Nat × AO)}, keepL L l → ∀ i, lv l i = none ∨ lv l i = L i
  | [], _, i => .inl rfl
  | (j, x) :: l, h, i => by
    simp only [lv]
    by_cases e : i = j
    · subst e; rw [upd_same]; exact .inr h.1.symm
    · rw [upd_ne _ _ e]; exact keepL_le h.2 i
def hasLoc (ll : List (Nat × AO)) (x : X) : Bool :=
  match x.loc with
  | some d => (lv ll d).isSome
  | none => true
def okLoc (l : List (Nat × X)) (ll : List (Nat × AO)) : Bool := l.all fun p => hasLoc ll p.2
theorem sp_mem : ∀ {l : List (Nat × X)} {i : Nat}, sp l i ≠ .any → ∃ p ∈ l, p.2 = sp l i
  | [], i, h => absurd rfl h
  | (j, x) :: l, i, h => by
    simp only [sp] at h ⊢
    by_cases e : i = j
    · subst e; rw [upd_same] at h ⊢; exact ⟨_, List.mem_cons_self, rfl⟩
    · rw [upd_ne _ _ e] at h ⊢
      obtain ⟨p, h1, h2⟩ := sp_mem h
      exact ⟨p, List.mem_cons_of_mem _ h1, h2⟩
theorem Wk.keep {s : S} (N : Nat) (l : List (Nat × X)) (ll : List (Nat × AO)) (H : Heap) (hn : s.n = N) (ht : keepT s.t l) (hL : keepL s.L ll) (hH : ∀ k o, H k = some o → s.H k = some o) (hok : okLoc l ll = true) : Wk s ⟨N, sp l, lv ll, H⟩ := by
  subst hn
  intro c a w g
  have hs : ∀ i x, S.own { n := s.n, t := sp l, L := lv ll, H := H } i = some x → s.own i = some x := fun i x h => by
    cases i with
    | e k => exact hH k x h
    | l d => rcases keepL_le hL d with h' | h'
             · have h : lv ll d = some x := h
               rw [h'] at h; cases h
             · have h : lv ll d = some x := h
               rw [h'] at h; exact h
  refine ⟨c, ⟨g.conc.sub hs, g.size, fun i => ?_, g.defers, fun i d h => ?_⟩, (Ext.refl _ _ _).sub hs⟩
  · rcases keepT_le ht i with h | h
    · show RepX c (sp l i) _; rw [h]; trivial
    · show RepX c (sp l i) _; rw [h]; exact g.tmps i
  · have h : (sp l i).loc = some d := h
    have hne : sp l i ≠ .any := fun e => by rw [e] at h; cases h
    obtain ⟨p, h1, h2⟩ := sp_mem hne
    have := List.all_eq_true.1 hok p h1
    unfold hasLoc at this
    rw [h2, h] at this
    show lv ll d ≠ none
    cases h3 : lv ll d with
    | none => simp only [h3] at this; cases this
    | some => simp
end Go.Proofs.Ytikcmjamioopbaa.E
