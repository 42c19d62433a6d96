import Derived.WalkKit
import Derived.Lib.ItoaNum
import Derived.Orders
set_option linter.unusedVariables false
namespace Go.Proofs.YtgnnjebfoffphaaGreatDoor
theorem qA : ∀ {α : Type} {β : Type} {as : List α} (f : α → β), (List.map f as).length = as.length := @List.length_map
theorem qC : ∀ {α : Type} {l : List α} {n : Nat} (h : n < l.length), l[n] ∈ l := @List.getElem_mem
theorem qE : ∀ {a b : ByteArray}, (a ++ b).size = a.size + b.size := @ByteArray.size_append
theorem qF : ∀ {α : Type} {l : List α} {i : Nat} (h : i < l.length), l[i]? = some l[i] := @List.getElem?_eq_getElem
theorem qG : ∀ {α : Type} {as bs : List α}, (as ++ bs).length = as.length + bs.length := @List.length_append
theorem qH : ∀ {α : Type} {i : Nat} {l : List α} (h : i < l.length), List.drop i l = l[i] :: List.drop (i + 1) l := @List.drop_eq_getElem_cons
theorem qI : ∀ {α : Type} {l : List α} {i : Nat} {a : α}, l.getD i a = l[i]?.getD a := @List.getD_eq_getElem?_getD
theorem qJ : ∀ {α : Type} {i : Nat} {l : List α} (h : i < l.length), List.take (i + 1) l = List.take i l ++ [l[i]] := @List.take_succ_eq_append_getElem
theorem qK : ∀ {α : Type} {β : Type} {f : α → β} {l₁ l₂ : List α}, List.map f (l₁ ++ l₂) = List.map f l₁ ++ List.map f l₂ := @List.map_append
theorem qL : ∀ {α : Type} {β : Type} {f : α → β} {a : α} {l : List α}, List.map f (a :: l) = f a :: List.map f l := @List.map_cons
theorem qM : ∀ {α : Type} {a : α} {as : List α}, (a :: as).length = as.length + 1 := @List.length_cons
theorem qN : ∀ {α : Type} {a : α} {l : List α}, a ∈ l ↔ ∃ (i : Nat) (h : i < l.length), l[i] = a := @List.mem_iff_getElem
theorem qO : ∀ {α : Type} (as bs cs : List α), as ++ bs ++ cs = as ++ (bs ++ cs) := @List.append_assoc
theorem qP : ∀ {α : Type} {a : α}, [a].length = 1 := @List.length_singleton
theorem qQ : ∀ {α : Type}, ([] : List α).length = 0 := @List.length_nil
theorem qR : ∀ {α : Type} {β : Type} {f : α → β} {l : List α} {i : Nat}, (List.map f l)[i]? = Option.map f l[i]? := @List.getElem?_map
theorem qT : ∀ {α : Type} {l : List α}, List.take l.length l = l := @List.take_length
theorem qU : ∀ {α : Type} {i : Nat} {l : List α}, l.length ≤ i → List.take i l = l := @List.take_of_length_le
theorem qV : ∀ {α : Type} {β : Type} (f : α → β) {l : List α} {i : Nat} {h : i < (List.map f l).length}, (List.map f l)[i] = f (l[i]'(List.length_map f ▸ h)) := @List.getElem_map
theorem qW : ∀ {α : Type} {as : List α} {i : Nat}, as.length ≤ i → List.drop i as = [] := @List.drop_eq_nil_of_le
theorem qX : ∀ {α : Type} {β : Type} {f : α → β} {a : α}, List.map f [a] = [f a] := @List.map_singleton
theorem qY : ∀ {a : Prop}, ¬¬a ↔ a := @Classical.not_not
theorem qZ : ∀ (n : Nat), 0 ≤ n := @Nat.zero_le
theorem jA : ∀ (n : Nat), n ≤ n := @Nat.le_refl
theorem jB : ∀ {n m k : Nat}, n ≤ m → m ≤ k → n ≤ k := @Nat.le_trans
theorem jC : ∀ {α : Type} {a : α} {s t : List α}, a ∈ s ++ t ↔ a ∈ s ∨ a ∈ t := @List.mem_append
theorem jD : ∀ {α : Type} {b : α} {l : List α} {a : α}, a ∈ b :: l ↔ a = b ∨ a ∈ l := @List.mem_cons
theorem jE : ∀ {α : Type} {β : Type} {b : β} {f : α → β} {l : List α}, b ∈ List.map f l ↔ ∃ a, a ∈ l ∧ f a = b := @List.mem_map
theorem jF : ∀ {α : Type} {a b : α}, a ∈ [b] ↔ a = b := @List.mem_singleton
theorem jG : ∀ (a b : Bool), ((a && b) = true) = (a = true ∧ b = true) := @Bool.and_eq_true
theorem jH : ∀ {p : Prop} [inst : Decidable p], p → decide p = true := @decide_eq_true
theorem jI : ∀ {p : Prop} [inst : Decidable p], ¬p → decide p = false := @decide_eq_false
theorem jJ : ∀ {p : Prop} [inst : Decidable p], decide p = true → p := @of_decide_eq_true
theorem jK : ∀ {p : Prop} [inst : Decidable p], decide p = false → ¬p := @of_decide_eq_false
end Go.Proofs.YtgnnjebfoffphaaGreatDoor
namespace Go.Proofs.YtgnnjebfoffphaaGreatDoor.E
def TAB (g : Nat) : Option (Array Value → Prop) := if g = 0 then some (fun a => ∃ m, a = #[.int .i64 m]) else if g = 1 then some (· = (Lib.pow10Tab.map fun z => Value.int .u64 z).toArray) else none
open Go.RowKit
abbrev Mem := Nat → Nat → Option Value
inductive Nz where
  | un | nn | ne
  deriving DecidableEq
inductive T where
  | v (x : Value)
  | sl (z : Nz) (sz : Nat) (es : List (List T))
inductive RepT (μ : Mem) : T → Value → Prop
  | v {x : Value} (h : x.oneCell' = true) : RepT μ (.v x) x
  | nil {z : Nz} {sz : Nat} (h : z ≠ .nn) : RepT μ (.sl z sz []) (.slice none 0 0)
  | emp {z : Nz} {sz c : Nat} {a : Addr} (h : z ≠ .ne) : RepT μ (.sl z sz []) (.slice (some a) 0 c)
  | sl {z : Nz} {sz : Nat} {es : List (List T)} {b off n c : Nat} (u : Nat → Nat → Value) (ne : es ≠ []) (hn : n = es.length) (hc : n ≤ c)
      (len : ∀ (i : Nat) (e : List T), es[i]? = some e → e.length = sz)
      (mem : ∀ (i : Nat) (e : List T) (j : Nat) (x : T), es[i]? = some e → e[j]? = some x → μ b (off + (i * sz + j)) = some (u i j))
      (rep : ∀ (i : Nat) (e : List T) (j : Nat) (x : T), es[i]? = some e → e[j]? = some x → RepT μ x (u i j)) : RepT μ (.sl z sz es) (.slice (some ⟨b, off, none⟩) n c)
theorem RepT.mono {μ μ' : Mem} (h : ∀ b o u, μ b o = some u → μ' b o = some u) {x : T} {v : Value} (r : RepT μ x v) : RepT μ' x v := by
  induction r with
  | v h1 => exact .v h1
  | nil h1 => exact .nil h1
  | emp h1 => exact .emp h1
  | sl u ne hn hc len mem rep ih => exact .sl u ne hn hc len (fun i e j x h1 h2 => h _ _ _ (mem i e j x h1 h2)) ih
theorem RepT.one {μ : Mem} {x : T} {v : Value} (r : RepT μ x v) : v.oneCell' = true := by
  cases r <;> first | assumption | rfl
theorem RepT.forget {μ : Mem} {z : Nz} {sz : Nat} {es : List (List T)} {v : Value} (r : RepT μ (.sl z sz es) v) : RepT μ (.sl .un sz es) v := by
  cases r with
  | nil h => exact .nil (by simp)
  | emp h => exact .emp (by simp)
  | sl u ne hn hc len mem rep => exact .sl u ne hn hc len mem rep
def Reps {α : Type} (R : α → Value → Prop) (l : List α) (cs : List Value) : Prop := l.length = cs.length ∧ ∀ (i : Nat) (x : α) (v : Value), l[i]? = some x → cs[i]? = some v → R x v
section
variable {α : Type} {R R' : α → Value → Prop} {l : List α} {cs : List Value}
theorem Reps.nil : Reps R [] [] := ⟨rfl, fun i x v h => by simp at h⟩
theorem Reps.cons {x : α} {v : Value} (h : R x v) (hs : Reps R l cs) : Reps R (x :: l) (v :: cs) := by
  refine ⟨by simp [hs.1], fun i y u h1 h2 => ?_⟩
  cases i with
  | zero => simp at h1 h2; subst h1 h2; exact h
  | succ i => simp at h1 h2; exact hs.2 i y u h1 h2
theorem Reps.mono (h : ∀ x v, R x v → R' x v) (hs : Reps R l cs) : Reps R' l cs := ⟨hs.1, fun i x v h1 h2 => h _ _ (hs.2 i x v h1 h2)⟩
theorem Reps.get (hs : Reps R l cs) {i : Nat} {x : α} (h : l[i]? = some x) : ∃ v, cs[i]? = some v ∧ R x v := by
  have hi : i < cs.length := by rw [← hs.1]; exact (List.getElem?_eq_some_iff.1 h).1
  exact ⟨cs[i], qF hi, hs.2 i x _ h (qF hi)⟩
theorem Reps.get' (hs : Reps R l cs) {i : Nat} {v : Value} (h : cs[i]? = some v) : ∃ x, l[i]? = some x ∧ R x v := by
  have hi : i < l.length := by rw [hs.1]; exact (List.getElem?_eq_some_iff.1 h).1
  exact ⟨l[i], qF hi, hs.2 i _ v (qF hi) h⟩
theorem Reps.take (hs : Reps R l cs) (n : Nat) : Reps R (l.take n) (cs.take n) := by
  refine ⟨by simp [hs.1], fun i x v h1 h2 => ?_⟩
  rw [List.getElem?_take] at h1 h2
  split at h1
  · rename_i hi; rw [if_pos hi] at h2; exact hs.2 i x v h1 h2
  · cases h1
theorem Reps.drop (hs : Reps R l cs) (n : Nat) : Reps R (l.drop n) (cs.drop n) := by
  refine ⟨by simp [hs.1], fun i x v h1 h2 => ?_⟩
  rw [List.getElem?_drop] at h1 h2
  exact hs.2 _ x v h1 h2
theorem Reps.append {l' : List α} {cs' : List Value} (hs : Reps R l cs) (ht : Reps R l' cs') : Reps R (l ++ l') (cs ++ cs') := by
  refine ⟨by simp [hs.1, ht.1], fun i x v h1 h2 => ?_⟩
  by_cases hi : i < l.length
  · rw [List.getElem?_append_left hi] at h1
    rw [List.getElem?_append_left (by rw [← hs.1]; exact hi)] at h2
    exact hs.2 i x v h1 h2
  · rw [List.getElem?_append_right (by omega)] at h1
    rw [List.getElem?_append_right (by rw [← hs.1]; omega), ← hs.1] at h2
    exact ht.2 _ x v h1 h2
theorem Reps.set (hs : Reps R l cs) (i : Nat) {x : α} {v : Value} (h : R x v) : Reps R (l.set i x) (cs.set i v) := by
  refine ⟨by simp [hs.1], fun j y u h1 h2 => ?_⟩
  rw [List.getElem?_set] at h1 h2
  by_cases hij : i = j
  · subst hij
    by_cases hi : i < l.length
    · rw [if_pos rfl, if_pos hi] at h1
      rw [if_pos rfl, if_pos (by rw [← hs.1]; exact hi)] at h2
      cases h1; cases h2; exact h
    · rw [if_pos rfl, if_neg hi] at h1; cases h1
  · rw [if_neg hij] at h1 h2
    exact hs.2 j y u h1 h2
theorem Reps.one (hs : Reps R l cs) (h : ∀ x v, R x v → v.oneCell' = true) : ∀ u ∈ cs, u.oneCell' = true := by
  intro u hu
  obtain ⟨i, hi⟩ := List.getElem?_of_mem hu
  obtain ⟨x, _, hx⟩ := hs.get' hi
  exact h x u hx
end
inductive A where
  | t (x : T)
  | bp (k off : Nat)
  | mp (k : Nat)
  | ts (k : Nat) (z : Nz) (sz : Nat) (es : List (List T))
  | os (k off n sz : Nat)
  | fn (f : Nat) (cs : List A)
  | yl (k : Nat)
  | gs (k sz : Nat)
abbrev Pos := Nat → Option (Nat × Nat)
inductive RepA (μ : Mem) (β : Pos) : A → Value → Prop
  | t {x : T} {v : Value} (h : RepT μ x v) : RepA μ β (.t x) v
  | bp {k off b c : Nat} (h : β k = some (b, c)) : RepA μ β (.bp k off) (.pointer (some ⟨b, off, none⟩))
  | mp {k b c : Nat} (h : β k = some (b, c)) : RepA μ β (.mp k) (.map (some b))
  | ts0 {k sz : Nat} : RepA μ β (.ts k .ne sz []) (.slice none 0 0)
  | tsE {k sz : Nat} {a : Addr} : RepA μ β (.ts k .nn sz []) (.slice (some a) 0 0)
  | ts {k sz b c n : Nat} {z : Nz} {es : List (List T)} (hk : β k = some (b, c)) (hne : es ≠ []) (hn : n = es.length)
      (h : RepT μ (.sl .un sz es) (.slice (some ⟨b, 0, none⟩) n c)) : RepA μ β (.ts k z sz es) (.slice (some ⟨b, 0, none⟩) n c)
  | os0 {k off sz : Nat} {a : Option Addr} : RepA μ β (.os k off 0 sz) (.slice a 0 0)
  | os {k n sz b c : Nat} (hk : β k = some (b, c)) (hn : 0 < n) : RepA μ β (.os k 0 n sz) (.slice (some ⟨b, 0, none⟩) n c)
  | osub {k off n sz b c c' : Nat} (hk : β k = some (b, c)) (ho : 0 < off) : RepA μ β (.os k off n sz) (.slice (some ⟨b, off, none⟩) n c')
  | yl {k b c : Nat} (h : β k = some (b, c)) : RepA μ β (.yl k) (.func (.yield b) #[] #[])
  | gs {k sz b c : Nat} (h : β k = some (b, c)) : RepA μ β (.gs k sz) (.slice (some ⟨b, 0, none⟩) 0 c)
  | fn {f : Nat} {cs : List A} {vs : Array Value} (u : Nat → Value) (hv : vs.toList = (List.range cs.length).map u) (h : ∀ (i : Nat) (x : A), cs[i]? = some x → RepA μ β x (u i)) : RepA μ β (.fn f cs) (.func (.func f) #[] vs)
theorem RepA.mono {μ μ' : Mem} {β β' : Pos} (h : ∀ b o u, μ b o = some u → μ' b o = some u) (hb : ∀ k p, β k = some p → β' k = some p) {x : A} {v : Value} (r : RepA μ β x v) : RepA μ' β' x v := by
  induction r with
  | t h1 => exact .t (h1.mono h)
  | bp h1 => exact .bp (hb _ _ h1)
  | mp h1 => exact .mp (hb _ _ h1)
  | ts0 => exact .ts0
  | tsE => exact .tsE
  | ts hk hne hn h1 => exact .ts (hb _ _ hk) hne hn (h1.mono h)
  | os0 => exact .os0
  | os hk hn => exact .os (hb _ _ hk) hn
  | osub hk ho => exact .osub (hb _ _ hk) ho
  | yl h1 => exact .yl (hb _ _ h1)
  | gs h1 => exact .gs (hb _ _ h1)
  | fn u hv h1 ih => exact .fn u hv ih
theorem RepA.one {μ : Mem} {β : Pos} {x : A} {v : Value} (r : RepA μ β x v) : v.oneCell' = true := by
  cases r with
  | t h => exact h.one
  | _ => rfl
inductive C where
  | a (x : A)
  | g (l : List A)
def RepC (μ : Mem) (β : Pos) : C → Value → Prop
  | .a x, v => RepA μ β x v
  | .g l, v => ∃ us : Array Value, v = .agg us ∧ Reps (RepA μ β) l us.toList
theorem RepC.mono {μ μ' : Mem} {β β' : Pos} (h : ∀ b o u, μ b o = some u → μ' b o = some u) (hb : ∀ k p, β k = some p → β' k = some p) {x : C} {v : Value} (r : RepC μ β x v) : RepC μ' β' x v := by
  cases x with
  | a x => exact RepA.mono h hb r
  | g l => obtain ⟨us, h1, h2⟩ := r; exact ⟨us, h1, h2.mono fun _ _ => RepA.mono h hb⟩
def C.cells : C → List A
  | .a x => [x]
  | .g l => l
theorem RepC.cells {μ : Mem} {β : Pos} {x : C} {v : Value} (r : RepC μ β x v) : Reps (RepA μ β) x.cells v.cells.toList := by
  cases x with
  | a x =>
    have h1 : RepA μ β x v := r
    have : v.cells = #[v] := by have := h1.one; cases v <;> first | rfl | cases this
    rw [this]
    exact .cons h1 .nil
  | g l => obtain ⟨us, rfl, h2⟩ := r; exact h2
structure Ctx where
  μ : Mem
  β : Pos
  lam : Nat → Nat × Nat
  base : Nat
inductive X where
  | c (x : C)
  | tup (l : List C)
  | lp (d off : Nat)
  | lts (d : Nat) (z : Nz) (sz : Nat) (es : List (List T))
  | lmp (d : Nat)
  | pc (l : List T)
  | any
def X.loc : X → Option Nat
  | .lp d _ | .lts d _ _ _ | .lmp d => some d
  | _ => none
def RepX (c : Ctx) : X → Value → Prop
  | .c x, v => RepC c.μ c.β x v
  | .tup l, v => ∃ us : Array Value, v = .tuple us ∧ Reps (RepC c.μ c.β) l us.toList
  | .lp d off, v => v = .pointer (some ⟨(c.lam d).1, off, none⟩)
  | .lts d z sz es, v => (es = [] ∧ z = .ne ∧ v = .slice none 0 0) ∨ (es = [] ∧ z = .nn ∧ ∃ a, v = .slice (some a) 0 0) ∨ (es ≠ [] ∧ v = .slice (some ⟨(c.lam d).1, 0, none⟩) es.length (c.lam d).2 ∧ RepT c.μ (.sl .un sz es) v)
  | .lmp d, v => v = .map (some (c.lam d).1)
  | .pc l, v => ∃ b off, v = .pointer (some ⟨b, off, none⟩) ∧ ∃ u : Nat → Value, ∀ (i : Nat) (x : T), l[i]? = some x → c.μ b (off + i) = some (u i) ∧ RepT c.μ x (u i)
  | .any, _ => True
abbrev tv (x : Value) : X := .c (.a (.t (.v x)))
def constX : Value → X
  | .agg cs => if cs.toList.all Value.oneCell' = true then .c (.g (cs.toList.map fun u => .t (.v u))) else .any
  | .tuple _ => .any
  | u => tv u
structure ME where
  k : Value
  x : C
  b : Nat
inductive KK where
  | int (q : IntKind)
  | str
  | bool
  | ints (q : IntKind) (n : Nat)
def intOf : Value → Option Int
  | .int _ a => some a
  | _ => none
def kok : KK → Value → Bool
  | .int q, .int q' _ => decide (q' = q)
  | .str, .string _ => true
  | .bool, .bool _ => true
  | .ints q n, .agg cs => decide (cs.size = n) && cs.toList.all fun u => match u with | .int q' _ => decide (q' = q) | _ => false
  | _, _ => false
def keq : Value → Value → Bool
  | .int _ a, .int _ b => decide (a = b)
  | .string a, .string b => a == b
  | .bool a, .bool b => a == b
  | .agg a, .agg b => decide (a.toList.map intOf = b.toList.map intOf)
  | _, _ => false
inductive AO where
  | box (cs : List A)
  | row (e : TypeId) (sz : Nat) (cs : List A)
  | tip (e : TypeId) (sz m : Nat)
  | new (e : TypeId) (sz : Nat)
  | map (kk : KK) (es : List ME) (clock : Nat)
  | iter (k since : Nat) (seen : List Nat) (c0 : Nat)
  | iter0
  | loop (r : Loop) (t : Nat → Option C)
def AO.empty : AO → Prop
  | .row _ _ cs => cs = []
  | .tip _ _ m => m = 0
  | _ => False
inductive Id where
  | e (k : Nat)
  | l (d : Nat)
  deriving DecidableEq
structure MapRep (c : Ctx) (kk : KK) (es : List ME) (clock : Nat) (ents : Array MapEntry) : Prop where
  len : es.length = ents.size
  ent : ∀ (i : Nat) (m : ME) (e : MapEntry), es[i]? = some m → ents[i]? = some e → e.key = m.k ∧ e.born = m.b ∧ RepC c.μ c.β m.x e.val
  key : ∀ m ∈ es, kok kk m.k = true
  born : ∀ m ∈ es, m.b < clock
  nodup : (es.map (·.k)).Nodup
  inj : (es.map (·.b)).Nodup
def ORep (c : Ctx) (w : World) : AO → Nat → Nat → Prop
  | .box cs, b, _ => ∃ us ty, w.heap[b]? = some (.cells us ty (0, 0)) ∧ Reps (RepA c.μ c.β) cs us.toList ∧ ∀ o, c.μ b o = none
  | .row e sz cs, b, n => ∃ us, w.heap[b]? = some (.cells us e (0, 0)) ∧ us.size = n * sz ∧ n ≤ maxLen ∧ Reps (RepA c.μ c.β) cs (us.toList.take cs.length) ∧ ∀ o, c.μ b o = none
  | .tip e sz m, b, n => ∃ us, w.heap[b]? = some (.cells us e (0, 0)) ∧ us.size = n * sz ∧ n ≤ maxLen ∧ ∀ o, m * sz ≤ o → c.μ b o = none
  | .new e sz, b, n => ∃ us, w.heap[b]? = some (.cells us e (0, 0)) ∧ us.size = n * sz ∧ n ≤ maxLen ∧ ∀ o, c.μ b o = none
  | .map kk es clock, b, _ => ∃ ents, w.heap[b]? = some (.map ents clock) ∧ MapRep c kk es clock ents
  | .iter k since seen c0, b, _ => ∃ bm nm, c.β k = some (bm, nm) ∧ w.heap[b]? = some (.mapIter (some bm) since seen.toArray c0)
  | .iter0, b, _ => w.heap[b]? = some (.mapIter none 0 #[] 0)
  | .loop r t, b, _ => w.heap[b]? = some (.loop r) ∧ ∀ i x, t i = some x → RepC c.μ c.β x (r.tmps.getD i undef)
abbrev Heap := Nat → Option AO
structure S where
  n : Nat
  t : Nat → X
  L : Nat → Option AO
  H : Heap
def upd {α : Type} (f : Nat → α) (i : Nat) (x : α) : Nat → α := fun j => bif Nat.beq j i then x else f j
theorem upd_same {α : Type} (f : Nat → α) (i : Nat) (x : α) : upd f i x i = x := by simp [upd]
theorem upd_ne {α : Type} (f : Nat → α) {i j : Nat} (x : α) (h : j ≠ i) : upd f i x j = f j := by
  unfold upd
  cases hb : Nat.beq j i with
  | true => exact absurd (Nat.eq_of_beq_eq_true hb) h
  | false => rfl
def sp : List (Nat × X) → Nat → X
  | [] => fun _ => .any
  | (i, x) :: l => upd (sp l) i x
def lv : List (Nat × AO) → Nat → Option AO
  | [] => fun _ => none
  | (i, x) :: l => upd (lv l) i (some x)
abbrev Own := Id → Option AO
def S.own (s : S) : Own
  | .e k => s.H k
  | .l d => s.L d
def Ctx.pos (c : Ctx) : Id → Option (Nat × Nat)
  | .e k => c.β k
  | .l d => some (c.lam d)
def IsT (o : Option Obj) (q : Array Value → Prop) : Prop := ∃ a ty fl, o = some (.cells a ty fl) ∧ q a
def TabW (w : World) : Prop := ∀ g cs, TAB g = some cs → IsT w.heap[g]? cs
def TabO (c : Ctx) (own : Own) : Prop := ∀ g cs, TAB g = some cs → ∀ i x n, own i = some x → ¬ x.empty → c.pos i ≠ some (g, n)
theorem TabW.lt {w : World} (h : TabW w) {g : Nat} {cs : Array Value → Prop} (hg : TAB g = some cs) : g < w.heap.size := by
  obtain ⟨_, ty, fl, e, _⟩ := h g cs hg
  exact (Array.getElem?_eq_some_iff.1 e).1
theorem TabW.blk {w w' : World} (h : TabW w) (hb : ∀ b, b < w.heap.size → w'.heap[b]? = w.heap[b]?) : TabW w' := fun g cs hg => by
  rw [hb g (h.lt hg)]; exact h g cs hg
theorem TabW.of {c : Ctx} {own : Own} {w w' : World} (h : TabW w) (ho : TabO c own) (hb : ∀ b, b < w.heap.size → (∀ i x n, own i = some x → ¬ x.empty → c.pos i ≠ some (b, n)) → w'.heap[b]? = w.heap[b]?) : TabW w' := fun g cs hg => by
  rw [hb g (h.lt hg) (ho g cs hg)]; exact h g cs hg
structure Conc (c : Ctx) (own : Own) (w : World) : Prop where
  mem : ∀ b o u, c.μ b o = some u → w.cell? ⟨b, o, none⟩ = some u
  obj : ∀ i x, own i = some x → ¬ x.empty → ∃ b n, c.pos i = some (b, n) ∧ ORep c w x b n
  inj : ∀ i j x y b n m, own i = some x → own j = some y → ¬ x.empty → ¬ y.empty → c.pos i = some (b, n) → c.pos j = some (b, m) → i = j
  fin : ∃ N, ∀ k, N ≤ k → c.β k = none ∧ own (.e k) = none
  tabw : TabW w
  tabo : TabO c own
structure Ext (c : Ctx) (own0 : Own) (w : World) (c' : Ctx) (own' : Own) (w' : World) : Prop where
  os : w'.os = w.os
  tape : w'.tape = w.tape
  output : w'.output = w.output
  size : w.heap.size ≤ w'.heap.size
  blk : ∀ b, b < w.heap.size → (∀ i x n, own0 i = some x → ¬ x.empty → c.pos i ≠ some (b, n)) → w'.heap[b]? = w.heap[b]?
  mem : ∀ b o u, c.μ b o = some u → c'.μ b o = some u
  new : ∀ b o u, c'.μ b o = some u → c.μ b o = some u ∨ w.heap.size ≤ b ∨ ∃ i x n, own0 i = some x ∧ ¬ x.empty ∧ c.pos i = some (b, n)
  ext : ∀ k p, c.β k = some p → c'.β k = some p
  own : ∀ i x b n, own' i = some x → ¬ x.empty → c'.pos i = some (b, n) → w.heap.size ≤ b ∨ ∃ j y m, own0 j = some y ∧ ¬ y.empty ∧ c.pos j = some (b, m)
  base : c'.base = c.base
  nm : ∀ k x, own' (.e k) = some x → own0 (.e k) ≠ none ∨ c.β k = none
theorem Ext.refl (c : Ctx) (own : Own) (w : World) : Ext c own w c own w :=
  ⟨rfl, rfl, rfl, jA _, fun _ _ _ => rfl, fun _ _ _ h => h, fun _ _ _ h => .inl h, fun _ _ h => h, fun i x b n h1 he h2 => .inr ⟨i, x, n, h1, he, h2⟩, rfl, fun k x h => .inl (by rw [h]; simp)⟩
theorem Ext.trans {c c' c'' : Ctx} {o o' o'' : Own} {w w' w'' : World} (h : Ext c o w c' o' w') (k : Ext c' o' w' c'' o'' w'') : Ext c o w c'' o'' w'' := by
  refine ⟨k.os.trans h.os, k.tape.trans h.tape, k.output.trans h.output, jB h.size k.size, fun b hb hn => ?_, fun b o u hu => k.mem _ _ _ (h.mem _ _ _ hu), fun b o u hu => ?_, fun k' p hp => k.ext _ _ (h.ext _ _ hp), fun i x b n h1 he h2 => ?_, k.base.trans h.base, fun i x hx => ?_⟩
  · rw [k.blk b (Nat.lt_of_lt_of_le hb h.size) fun i x n hi he hp => ?_, h.blk b hb hn]
    rcases h.own i x b n hi he hp with hs | ⟨j, y, m, hj, hy, hq⟩
    · omega
    · exact hn j y m hj hy hq
  · rcases k.new b o u hu with h1 | h1 | ⟨i, x, n, h1, he, h2⟩
    · exact h.new b o u h1
    · exact .inr (.inl (jB h.size h1))
    · exact .inr (h.own i x b n h1 he h2)
  · rcases k.own i x b n h1 he h2 with h3 | ⟨j, y, m, h3, h5, h4⟩
    · exact .inl (jB h.size h3)
    · exact h.own j y b m h3 h5 h4
  · rcases k.nm i x hx with h1 | h1
    · cases h2 : o' (.e i) with
      | none => exact absurd h2 h1
      | some y => exact h.nm i y h2
    · refine .inr ?_
      cases h2 : c.β i with
      | none => rfl
      | some p => rw [h.ext i p h2] at h1; cases h1
def S.eval (s : S) : Operand → X
  | .tmp t => s.t t
  | .const u => constX u
  | .global g => tv (.pointer (some ⟨g, 0, none⟩))
  | .func f => tv (.func (.func f) #[] #[])
def S.put (s : S) (d : Option Nat) (x : X) : S :=
  match d with
  | some i => { s with t := upd s.t i x }
  | none => s
def mark (D : Nat) : Deferred := { target := .collected D, args := #[] }
def DefOk (base : Nat) (ds : List Deferred) (w : World) : Prop := base ≤ w.heap.size ∧ ∃ Ds : List Nat, ds = Ds.map mark ∧ Ds.Nodup ∧ ∀ D, D ∈ Ds → base ≤ D ∧ w.heap[D]? = some (Obj.deferred (some []))
theorem DefOk.nil {base : Nat} {w : World} (h : base ≤ w.heap.size) : DefOk base [] w := ⟨h, [], rfl, List.nodup_nil, fun D h => by cases h⟩
theorem DefOk.blk {base : Nat} {ds : List Deferred} {w w' : World} (h : DefOk base ds w) (hs : w.heap.size ≤ w'.heap.size) (hb : ∀ D : Nat, w.heap[D]? = some (Obj.deferred (some [])) → w'.heap[D]? = w.heap[D]?) : DefOk base ds w' := by
  obtain ⟨h0, Ds, h1, h2, h3⟩ := h
  exact ⟨jB h0 hs, Ds, h1, h2, fun D hD => ⟨(h3 D hD).1, (hb D (h3 D hD).2).trans (h3 D hD).2⟩⟩
theorem ORep.nd {c : Ctx} {w : World} {x : AO} {b n : Nat} (h : ORep c w x b n) {y : Option (List Deferred)} : w.heap[b]? ≠ some (Obj.deferred y) := by
  intro e
  cases x with
  | box => obtain ⟨_, _, h, _⟩ := h; rw [e] at h; cases h
  | row => obtain ⟨_, h, _⟩ := h; rw [e] at h; cases h
  | tip => obtain ⟨_, h, _⟩ := h; rw [e] at h; cases h
  | new => obtain ⟨_, h, _⟩ := h; rw [e] at h; cases h
  | map => obtain ⟨_, h, _⟩ := h; rw [e] at h; cases h
  | iter => obtain ⟨_, _, _, h⟩ := h; rw [e] at h; cases h
  | iter0 => have h : w.heap[b]? = _ := h; rw [e] at h; cases h
  | loop => have h := h.1; rw [e] at h; cases h
theorem DefOk.ext {c c' : Ctx} {own own' : Own} {ds : List Deferred} {w w' : World} (h : DefOk c.base ds w) (hc : Conc c own w) (x : Ext c own w c' own' w') : DefOk c'.base ds w' := by
  rw [x.base]
  refine h.blk x.size fun D hD => x.blk D (Array.getElem?_eq_some_iff.1 hD).1 fun i y n hi hy hp => ?_
  obtain ⟨b, m, h1, h2⟩ := hc.obj i y hi hy
  rw [hp] at h1; injection h1 with h1; injection h1 with h1; subst h1
  exact h2.nd hD
structure Sat (c : Ctx) (s : S) (a : Act) (w : World) : Prop where
  conc : Conc c s.own w
  size : a.tmps.size = s.n
  tmps : ∀ i, RepX c (s.t i) (a.tmps.getD i undef)
  defers : DefOk c.base a.defers w
  wf : ∀ i d, (s.t i).loc = some d → s.L d ≠ none
theorem Sat.eval {c : Ctx} {s : S} {a : Act} {w : World} (h : Sat c s a w) (y : Operand) : RepX c (s.eval y) (a.eval y) := by
  cases y with
  | tmp t => exact h.tmps t
  | const u =>
    simp only [S.eval, Act.eval]
    cases u with
    | agg cs =>
      simp only [constX]
      split
      · rename_i hall
        refine ⟨cs, rfl, by simp, fun i x v h1 h2 => ?_⟩
        rw [qR, h2] at h1
        simp only [Option.map_some, Option.some.injEq] at h1
        subst h1
        exact .t (.v (List.all_eq_true.1 hall v (List.mem_of_getElem? h2)))
      · trivial
    | tuple => trivial
    | _ => exact RepA.t (.v rfl)
  | global g => exact RepA.t (.v rfl)
  | func f => exact RepA.t (.v rfl)
theorem rep_tv {c : Ctx} {u v : Value} (h : RepX c (tv u) v) : v = u := by cases h with | t h => cases h; rfl
theorem tv_rep {c : Ctx} {u : Value} (h : u.oneCell' = true) : RepX c (tv u) u := RepA.t (.v h)
section
variable {P : Program} {Q Q' : Exit → S → Prop} {s : S}
def AW (P : Program) (cd : Code) (Q : Exit → S → Prop) (s : S) : Prop :=
  ∀ c a w, Sat c s a w → cd.wp P (fun e a' w' => ∃ s' c', Q e s' ∧ Sat c' s' a' w' ∧ Ext c s.own w c' s'.own w') a w
def Eth (K : S → Prop) (Q : Exit → S → Prop) : Exit → S → Prop
  | .normal, s => K s
  | e, s => Q e s
theorem AW.skip (h : Q .normal s) : AW P .skip Q s := fun c a w g => wp_skip ⟨s, c, h, g, .refl _ _ _⟩
theorem AW.exit {id : Nat} (h : Q (.exit id) s) : AW P (.exit id) Q s := fun c a w g => wp_exit ⟨s, c, h, g, .refl _ _ _⟩
theorem AW.ret (h : Q .ret s) : AW P .ret Q s := fun c a w g => wp_ret ⟨s, c, h, g, .refl _ _ _⟩
theorem AW.seq {x y : Code} (h : AW P x (Eth (AW P y Q) Q) s) : AW P (.seq x y) Q s := by
  intro c a w g
  refine wp_seq (wp_mono (h c a w g) ?_)
  rintro e a1 w1 ⟨s1, c1, q, g1, x1⟩
  cases e with
  | normal => exact wp_mono (q c1 a1 w1 g1) fun e a2 w2 ⟨s2, c2, q2, g2, x2⟩ => ⟨s2, c2, q2, g2, x1.trans x2⟩
  | _ => exact ⟨s1, c1, q, g1, x1⟩
theorem AW.mono {cd : Code} (h : AW P cd Q s) (hq : ∀ e s', Q e s' → Q' e s') : AW P cd Q' s :=
  fun c a w g => wp_mono (h c a w g) fun _ _ _ ⟨s', c', q, r⟩ => ⟨s', c', hq _ _ q, r⟩
theorem AW.cond {y : Operand} {t e : Code} (b : Bool) (hy : s.eval y = tv (.bool b)) (ht : b = true → AW P t Q s) (he : b = false → AW P e Q s) : AW P (.cond y t e) Q s := by
  intro c a w g
  have hv := g.eval y
  rw [hy] at hv
  have hv : a.eval y = .bool b := rep_tv hv
  refine wp_cond hv ?_
  cases b
  · exact he rfl c a w g
  · exact ht rfl c a w g
theorem AW.condD {y : Operand} {t e : Code} {p : Prop} [Decidable p] (hy : s.eval y = tv (.bool (decide p))) (ht : p → AW P t Q s) (he : ¬ p → AW P e Q s) : AW P (.cond y t e) Q s :=
  AW.cond _ hy (fun h => ht (jJ h)) (fun h => he (jK h))
def EBlock (id : Nat) (Q : Exit → S → Prop) : Exit → S → Prop
  | .exit id', s => if id' = id then Q .normal s else Q (.exit id') s
  | e, s => Q e s
theorem AW.block {id : Nat} {cd : Code} (h : AW P cd (EBlock id Q) s) : AW P (.block id cd) Q s := by
  intro c a w g
  refine wp_block (wp_mono (h c a w g) ?_)
  rintro e a1 w1 ⟨s1, c1, q, g1, x1⟩
  cases e with
  | exit id' =>
    simp only [Exit.inBlock, EBlock] at q ⊢
    split
    · rename_i he; rw [if_pos he] at q; exact ⟨s1, c1, q, g1, x1⟩
    · rename_i he; rw [if_neg he] at q; exact ⟨s1, c1, q, g1, x1⟩
  | _ => exact ⟨s1, c1, q, g1, x1⟩
def Wk (s s' : S) : Prop := ∀ c a w, Sat c s a w → ∃ c', Sat c' s' a w ∧ Ext c s.own w c' s'.own w
theorem Wk.trans {s s' s'' : S} (h : Wk s s') (k : Wk s' s'') : Wk s s'' := fun c a w g => by
  obtain ⟨c', g', x'⟩ := h c a w g
  obtain ⟨c'', g'', x''⟩ := k c' a w g'
  exact ⟨c'', g'', x'.trans x''⟩
theorem AW.wk {cd : Code} {s' : S} (hw : Wk s s') (h : AW P cd Q s') : AW P cd Q s := fun c a w g => by
  obtain ⟨c', g', x'⟩ := hw c a w g
  exact wp_mono (h c' a w g') fun e a1 w1 ⟨s1, c1, q, g1, x1⟩ => ⟨s1, c1, q, g1, x'.trans x1⟩
theorem AW.seqM {x y : Code} (M : S → Prop) (h : AW P x (Eth (fun s' => ∃ s'', Wk s' s'' ∧ M s'') Q) s) (hy : ∀ s', M s' → AW P y Q s') : AW P (.seq x y) Q s :=
  AW.seq (h.mono fun e s' q => by
    cases e with
    | normal => obtain ⟨s'', hk, hm⟩ := q; exact (hy s'' hm).wk hk
    | _ => exact q)
theorem AW.loop {body : Code} {ι : Type} (I : ι → S → Prop) (m : ι → Nat) (i₀ : ι) (h₀ : ∃ s', Wk s s' ∧ I i₀ s')
    (round : ∀ i s, I i s → AW P body (Eth (fun s' => ∃ i' s'', Wk s' s'' ∧ m i' < m i ∧ I i' s'') Q) s) : AW P (.loop body) Q s := by
  obtain ⟨s0, hk0, hI0⟩ := h₀
  refine AW.wk hk0 ?_
  intro c a w g b k cs
  have key : ∀ n i s c a w, m i = n → I i s → Sat c s a w →
      ∃ e a' w', (∃ s' c', Q e s' ∧ Sat c' s' a' w' ∧ Ext c s.own w c' s'.own w') ∧ Arrives P (lone (b.at a (.code body :: .inLoop body :: k)) cs w) b k cs e a' w' := by
    intro n
    induction n using Nat.strongRecOn with
    | _ n ih =>
      intro i s c a w hn hI g
      obtain ⟨e, a₁, w₁, ⟨s1, c1, q, g1, x1⟩, harr⟩ := round i s hI c a w g b (.inLoop body :: k) cs
      cases e with
      | normal =>
        obtain ⟨i', s2, hk, hlt, hI'⟩ := q
        obtain ⟨c2, g2, x2⟩ := hk c1 a₁ w₁ g1
        obtain ⟨e₂, a₂, w₂, ⟨s3, c3, q3, g3, x3⟩, harr₂⟩ := ih (m i') (hn ▸ hlt) i' s2 c2 a₁ w₁ rfl hI' g2
        exact ⟨e₂, a₂, w₂, ⟨s3, c3, q3, g3, x1.trans (x2.trans x3)⟩, .of_steps (Steps.trans harr (.one step_inLoop)) harr₂⟩
      | exit id => exact ⟨_, a₁, w₁, ⟨s1, c1, q, g1, x1⟩, .pass (x := .inLoop body) rfl (fun _ _ => .inl (by simp)) harr⟩
      | goto l => exact ⟨_, a₁, w₁, ⟨s1, c1, q, g1, x1⟩, .pass (x := .inLoop body) rfl (fun _ _ => .inl (by simp)) harr⟩
      | ret => exact ⟨_, a₁, w₁, ⟨s1, c1, q, g1, x1⟩, .pass (x := .inLoop body) rfl (fun _ _ => .inl (by simp)) harr⟩
      | panic ch => exact ⟨_, a₁, w₁, ⟨s1, c1, q, g1, x1⟩, .pass (x := .inLoop body) rfl (fun _ _ => .inl (by simp)) harr⟩
      | outgrown => exact ⟨_, a₁, w₁, ⟨s1, c1, q, g1, x1⟩, .pass (x := .inLoop body) rfl (fun _ _ => .inl (by simp)) harr⟩
  obtain ⟨e, a', w', hq, harr⟩ := key _ i₀ s0 c a w rfl hI0 g
  exact ⟨e, a', w', hq, .of_steps (.one step_loop) harr⟩
end
def ownH (H : Heap) : Own
  | .e k => H k
  | .l _ => none
def Spec (P : Program) (f : FuncId) (args : List C) (H : Heap) (Q : X → Heap → Prop) : Prop :=
  ∀ (c : Ctx) (w : World) (vs : Array Value), Conc c (ownH H) w → Reps (RepC c.μ c.β) args vs.toList →
    Calls P f vs w fun e w' => ∃ v x H' c', e = .returned v ∧ Q x H' ∧ RepX c' x v ∧ Conc c' (ownH H') w' ∧ Ext c (ownH H) w c' (ownH H') w'
def Pure (P : Program) (f : FuncId) (args : List C) (x : X) : Prop := ∀ H, Spec P f args H fun y H' => y = x ∧ H' = H
theorem Spec.mono {P : Program} {f : FuncId} {args : List C} {H : Heap} {Q Q' : X → Heap → Prop} (h : Spec P f args H Q) (hq : ∀ x H', Q x H' → Q' x H') : Spec P f args H Q' :=
  fun c w vs h1 h2 => (h c w vs h1 h2).mono fun _ _ ⟨v, x, H', c', e, q, r⟩ => ⟨v, x, H', c', e, hq _ _ q, r⟩
theorem Conc.sub {c : Ctx} {own own' : Own} {w : World} (h : Conc c own w) (hs : ∀ i x, own' i = some x → own i = some x) : Conc c own' w := by
  refine ⟨h.mem, fun i x hi he => h.obj i x (hs _ _ hi) he, fun i j x y b n m hi hj => h.inj i j x y b n m (hs _ _ hi) (hs _ _ hj), ?_, h.tabw, fun tg cs th i x n hi => h.tabo tg cs th i x n (hs _ _ hi)⟩
  obtain ⟨N, hN⟩ := h.fin
  refine ⟨N, fun k hk => ⟨(hN k hk).1, ?_⟩⟩
  cases ho : own' (.e k) with
  | none => rfl
  | some x => have := hs _ _ ho; rw [(hN k hk).2] at this; cases this
theorem Ext.sub {c c' : Ctx} {own own' own'' : Own} {w w' : World} (h : Ext c own w c' own' w') (hs : ∀ i x, own'' i = some x → own' i = some x) : Ext c own w c' own'' w' :=
  ⟨h.os, h.tape, h.output, h.size, h.blk, h.mem, h.new, h.ext, fun i x b n hi => h.own i x b n (hs _ _ hi), h.base, fun k x hk => h.nm k x (hs _ _ hk)⟩
end Go.Proofs.YtgnnjebfoffphaaGreatDoor.E
