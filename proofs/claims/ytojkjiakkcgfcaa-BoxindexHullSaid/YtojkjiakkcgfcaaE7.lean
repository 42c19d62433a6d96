/- Values made: variables, structs, slices; append; calls. Plain theorems, for any program. -/
import Derived.Test.YtojkjiakkcgfcaaE6
import Derived.Maps.AppendAt
import Derived.Lib.AppendStr
namespace Go.Proofs.Ytojkjiakkcgfcaa.E
open Go.RowKit
set_option linter.unusedVariables false

/-! ### slices as one list of cells -/
theorem flat_at {α : Type} {sz : Nat} : ∀ (es : List (List α)) (i j : Nat), (∀ e ∈ es, e.length = sz) → j < sz → es.flatten[i * sz + j]? = es[i]?.bind (·[j]?)
  | [], i, j, _, _ => by simp
  | e :: es, 0, j, h, hj => by
    have := h e (by simp)
    simp [List.getElem?_append, this, hj]
  | e :: es, i + 1, j, h, hj => by
    have h1 := h e (by simp)
    have h2 : (i + 1) * sz + j = e.length + (i * sz + j) := by rw [h1, Nat.add_mul]; omega
    rw [List.flatten_cons, h2, List.getElem?_append_right (by omega), Nat.add_sub_cancel_left, flat_at es i j (fun c hc => h c (by simp [hc])) hj]
    simp
theorem flat_length {α : Type} {sz : Nat} : ∀ (es : List (List α)), (∀ e ∈ es, e.length = sz) → es.flatten.length = es.length * sz
  | [], _ => by simp
  | e :: es, h => by
    rw [List.flatten_cons, List.length_append, h e (by simp), flat_length es (fun c hc => h c (by simp [hc])), List.length_cons, Nat.add_mul]; omega
theorem sl_flat {μ : Mem} {z : Nz} {sz : Nat} {es : List (List T)} {v : Value} (h : RepT μ (.sl z sz es) v) (hne : es ≠ []) (h0 : 0 < sz) : ∃ b off c cs, v = .slice (some ⟨b, off, none⟩) es.length c ∧ es.length ≤ c ∧ (∀ e ∈ es, e.length = sz) ∧ Reps (RepT μ) es.flatten cs ∧ ∀ (j : Nat) (u : Value), cs[j]? = some u → μ b (off + j) = some u := by
  cases h with
  | nil => exact absurd rfl hne
  | emp => exact absurd rfl hne
  | @sl _ _ _ b off n c u ne hn hc len mem rep =>
    have hl : ∀ e ∈ es, e.length = sz := fun e he => by
      obtain ⟨i, hi⟩ := List.getElem?_of_mem he
      exact len i e hi
    have key : ∀ q x, es.flatten[q]? = some x → ∃ i e j, es[i]? = some e ∧ e[j]? = some x ∧ q = i * sz + j ∧ i = q / sz ∧ j = q % sz := fun q x hq => by
      have e1 : q / sz * sz + q % sz = q := Nat.div_add_mod' q sz
      have hm := Nat.mod_lt q h0
      rw [← e1, flat_at es _ _ hl hm] at hq
      cases he : es[q / sz]? with
      | none => rw [he] at hq; cases hq
      | some e => rw [he] at hq; exact ⟨_, e, _, he, hq, e1.symm, rfl, rfl⟩
    refine ⟨b, off, c, (List.range (es.length * sz)).map fun q => u (q / sz) (q % sz), by rw [hn], by omega, hl, ⟨by simp [flat_length es hl], fun q x v h1 h2 => ?_⟩, fun q v h2 => ?_⟩
    · obtain ⟨i, e, j, h3, h4, h5, rfl, rfl⟩ := key q x h1
      have hlt : q < es.length * sz := by
        have := (List.getElem?_eq_some_iff.1 h1).1
        rwa [flat_length es hl] at this
      rw [List.getElem?_map, List.getElem?_range hlt] at h2
      injection h2 with h2; subst h2
      exact rep _ e _ x h3 h4
    · have hlt : q < es.length * sz := by
        have := (List.getElem?_eq_some_iff.1 h2).1
        simpa using this
      rw [List.getElem?_map, List.getElem?_range hlt] at h2
      injection h2 with h2; subst h2
      have hlt' : q < es.flatten.length := by rw [flat_length es hl]; exact hlt
      obtain ⟨i, e, j, h3, h4, h5, rfl, rfl⟩ := key q _ (List.getElem?_eq_getElem hlt')
      have := mem _ e _ _ h3 h4
      rwa [← h5] at this
theorem flat_sl {μ : Mem} {z : Nz} {sz : Nat} {es : List (List T)} {b off c : Nat} {cs : List Value} (hne : es ≠ []) (hc : es.length ≤ c) (hl : ∀ e ∈ es, e.length = sz) (hr : Reps (RepT μ) es.flatten cs) (hm : ∀ (j : Nat) (u : Value), cs[j]? = some u → μ b (off + j) = some u) : RepT μ (.sl z sz es) (.slice (some ⟨b, off, none⟩) es.length c) := by
  have at_ : ∀ (i : Nat) (e : List T) (j : Nat) (x : T), es[i]? = some e → e[j]? = some x → es.flatten[i * sz + j]? = some x := fun i e j x h1 h2 => by
    have he := hl e (List.mem_of_getElem? h1)
    have hj : j < sz := by have := (List.getElem?_eq_some_iff.1 h2).1; omega
    rw [flat_at es i j hl hj, h1]; exact h2
  refine .sl (fun i j => cs.getD (i * sz + j) undef) hne rfl hc (fun i e he => hl e (List.mem_of_getElem? he)) (fun i e j x h1 h2 => ?_) (fun i e j x h1 h2 => ?_)
  · obtain ⟨v, h3, h4⟩ := hr.get (at_ i e j x h1 h2)
    simp only [List.getD, h3, Option.getD_some]
    exact hm _ _ h3
  · obtain ⟨v, h3, h4⟩ := hr.get (at_ i e j x h1 h2)
    simp only [List.getD, h3, Option.getD_some]
    exact h4
theorem Reps.monoT {μ μ' : Mem} (h : ∀ b o u, μ b o = some u → μ' b o = some u) {l : List T} {cs : List Value} (hr : Reps (RepT μ) l cs) : Reps (RepT μ') l cs := hr.mono fun _ _ => RepT.mono h

/-! ### memory that becomes common -/
def Mem.add (μ : Mem) (b : Nat) (cs : List Value) : Mem := fun b' o => if b' = b then (if o < cs.length then cs[o]? else μ b' o) else μ b' o
theorem Mem.add_in {μ : Mem} {b : Nat} {cs : List Value} {o : Nat} {u : Value} (h : cs[o]? = some u) : μ.add b cs b o = some u := by
  have hlt := (List.getElem?_eq_some_iff.1 h).1
  unfold Mem.add; rw [if_pos rfl, if_pos hlt]; exact h
theorem Mem.add_new {μ : Mem} {b : Nat} {cs : List Value} {b' o : Nat} {u : Value} (h : μ.add b cs b' o = some u) : μ b' o = some u ∨ (b' = b ∧ cs[o]? = some u) := by
  unfold Mem.add at h
  split at h
  · rename_i hb
    split at h
    · exact .inr ⟨hb, h⟩
    · exact .inl h
  · exact .inl h
theorem Mem.add_ext {μ : Mem} {b : Nat} {cs : List Value} (h : ∀ o u, μ b o = some u → o < cs.length → cs[o]? = some u) : ∀ b' o u, μ b' o = some u → μ.add b cs b' o = some u := fun b' o u hu => by
  unfold Mem.add
  split
  · rename_i hb; subst hb
    split
    · rename_i hlt; exact h o u hu hlt
    · exact hu
  · exact hu
/-- a block was made (and nothing else turned); its cells become common -/
theorem Mk.block {c : Ctx} {w w1 : World} (hm : MemOk c w) (hos : w1.os = w.os) (ht : w1.tape = w.tape) (hout : w1.output = w.output) (hs : w.heap.size ≤ w1.heap.size) (hblk : ∀ b, b < w.heap.size → w1.heap[b]? = w.heap[b]?) {b : Nat} {cs : List Value} (hb : w.heap.size ≤ b) (hcs : ∀ (o : Nat) (u : Value), cs[o]? = some u → w1.cell? ⟨b, o, none⟩ = some u) :
    Mk c w { c with μ := c.μ.add b cs } w1 := by
  have none : ∀ o, c.μ b o = none := fun o => by
    cases h : c.μ b o with
    | none => rfl
    | some u => have := World.block_lt_of_cell? w _ (hm.mem b o u h); simp at this; omega
  refine ⟨hos, ht, hout, hs, hblk, Mem.add_ext (fun o u h => by rw [none o] at h; cases h), fun b' o u h => ?_, fun _ _ h => h, rfl, rfl, ⟨fun b' o u h => ?_, hm.fin⟩⟩
  · rcases Mem.add_new h with h | ⟨rfl, _⟩
    · exact .inl h
    · exact .inr hb
  · rcases Mem.add_new h with h | ⟨rfl, h2⟩
    · have h1 := hm.mem b' o u h
      have hlt := World.block_lt_of_cell? w _ h1
      unfold World.cell? at h1 ⊢
      rw [hblk b' hlt]; exact h1
    · exact hcs o u h2
theorem Mk.grew {c : Ctx} {w w1 : World} (hm : MemOk c w) (hos : w1.os = w.os) (ht : w1.tape = w.tape) (hout : w1.output = w.output) (hs : w.heap.size ≤ w1.heap.size) (hblk : ∀ b, b < w.heap.size → w1.heap[b]? = w.heap[b]?) : Mk c w c w1 :=
  ⟨hos, ht, hout, hs, hblk, fun _ _ _ h => h, fun _ _ _ h => .inl h, fun _ _ h => h, rfl, rfl, ⟨fun b o u h => by
    have h1 := hm.mem b o u h
    have hlt := World.block_lt_of_cell? w _ h1
    unfold World.cell? at h1 ⊢
    rw [hblk b hlt]; exact h1, hm.fin⟩⟩
theorem Mk.alloc {c : Ctx} {w : World} (hm : MemOk c w) (x : Obj) : Mk c w c (w.alloc x) :=
  .grew hm rfl rfl rfl (by simp) fun b hb => Below.heap_alloc w x b hb
theorem heap_new (w : World) (x : Obj) : (w.alloc x).heap[w.heap.size]? = some x := by show (w.heap.push x)[w.heap.size]? = _; simp

section
variable {P : Program} {all : Array Oper} {o : Oper} {s s' : S} {K : S → Prop}
/-! ### variables -/
theorem over_new {s1 s : S} {d : Nat} {x : AO} {y : X} : s1.over [.t d, .b d] ((s.setOwn (.l d) x).put (some d) y) = (s1.setOwn (.l d) x).put (some d) y := by
  refine S.ext' rfl fun ℓ => ?_
  cases ℓ with
  | t i =>
    by_cases h : i = d
    · subst h; simp [Same, S.over, S.setOwn, S.put, upd_same]
    · simp [Same, S.over, S.setOwn, S.put, upd_ne _ _ h, h]
  | b i =>
    by_cases h : i = d
    · subst h; simp [Same, S.over, S.setOwn, S.put, upd_same]
    · simp [Same, S.over, S.setOwn, S.put, upd_ne _ _ h, h]
  | h => simp [Same, S.over, S.setOwn, S.put]
theorem new_out {s : S} {d : Nat} {x : AO} {y : X} : ∀ ℓ, ℓ ∉ [Loc.t d, Loc.b d] → Same ℓ ((s.setOwn (.l d) x).put (some d) y) s := fun ℓ hℓ => by
  cases ℓ with
  | t i => have h : i ≠ d := fun e => hℓ (by simp [e])
           simp [Same, S.setOwn, S.put, upd_ne _ _ h]
  | b i => have h : i ≠ d := fun e => hℓ (by simp [e])
           simp [Same, S.setOwn, S.put, upd_ne _ _ h]
  | h => simp [Same, S.setOwn, S.put]
theorem evs {s1 s : S} {l : List Loc} (hs : ∀ ℓ, ℓ ∈ l → Same ℓ s1 s) (hl : ∀ ℓ, ℓ ∈ lk o → ℓ ∈ l) {u : Operand} (hu : u ∈ o.op.operands) : s1.eval u = s.eval u := by
  cases u with
  | tmp t => exact hs (.t t) (hl _ (List.mem_map.2 ⟨t, List.mem_append_left _ (List.mem_filterMap.2 ⟨.tmp t, by simpa using hu, rfl⟩), rfl⟩))
  | _ => rfl
/-- a variable of the call's own is made -/
theorem l_new {d : Nat} {x : AO} {y : X} (hdst : o.dst = some d) (hL : s.L d = none) (hd : inB o.dst s.n = true) (hy : y.loc = some d)
    (h : ∀ (c : Ctx) (w : World) (a : Act), MemOk c w → (∀ y, y ∈ o.op.operands → RepX c (s.eval y) (a.eval y)) → ∃ v w1 c1 b n, (execOp a.eval o).run P w = .ok (.value v) w1 ∧ Mk c w c1 w1 ∧ w.heap.size ≤ b ∧ ORep c1 w1 x b n ∧ RepX { c1 with lam := upd c1.lam d (b, n) } y v) :
    LR P o (.b d :: lk o) [.t d, .b d] s ((s.setOwn (.l d) x).put (some d) y) := by
  refine ⟨(setOwn_t s (.l d) x).2, new_out, fun s1 hl hs c a w g => ?_⟩
  rw [over_new]
  have hL1 : s1.L d = none := Eq.trans (hs (.b d) (by simp)) hL
  obtain ⟨v, w1, c1, b, n, h1, h2, h3, h4, h5⟩ := h c w a g.memOk fun u hu => by rw [← evs hs (fun _ h => List.mem_cons_of_mem _ h) hu]; exact g.eval u
  unfold Oper.wp
  rw [h1]
  simp only [Oper.upon, hdst]
  obtain ⟨g', x'⟩ := g.newL h2 hL1 h3 h4
  exact ⟨_, g'.put (some d) (by rw [hdst] at hd; have e : s1.n = s.n := hl; simpa [S.setOwn, e] using hd) h5 (fun d' e => by rw [hy] at e; injection e with e; subst e; simp [S.setOwn, upd_same]), by rw [own_put]; exact x'⟩
theorem boxes {c : Ctx} {w : World} {vs : List Value} {cs : List A} (e : TypeId) (hm : MemOk c w) (hr : Reps (RepA c.μ c.β) cs vs) : ORep c (w.alloc (.cells vs.toArray e)) (.box cs) w.heap.size 0 := by
  refine ⟨vs.toArray, e, heap_new w _, by simpa using hr, fun o => ?_⟩
  cases h : c.μ w.heap.size o with
  | none => rfl
  | some u => have := World.block_lt_of_cell? w _ (hm.mem _ o u h); simp at this
theorem l_box {e : TypeId} {y : Operand} {d : Nat} {x : C} (r : List A) (ho : o.op = .box e y) (hdst : o.dst = some d) (hy : s.eval y = .c x) (hr : x.cells = r) (hL : s.L d = none) (hd : inB o.dst s.n = true) :
    LR P o (.b d :: lk o) [.t d, .b d] s ((s.setOwn (.l d) (.box r)).put (some d) (.lp d 0)) :=
  l_new hdst hL hd rfl fun c w a hm hrep => by
    have h0 := hrep y (by rw [ho]; simp [Op.operands])
    rw [hy] at h0
    have h0 : RepC c.μ c.β x (a.eval y) := h0
    refine ⟨.pointer (some ⟨w.heap.size, 0, none⟩), w.alloc (.cells (a.eval y).cells e), c, w.heap.size, 0, by simp [execOp, ho, Instr.box, newVar, newRow], Mk.alloc hm _, Nat.le_refl _, ?_, ?_⟩
    · rw [← hr]
      have := boxes (vs := (a.eval y).cells.toList) e hm h0.cells
      simpa using this
    · simp [RepX, upd_same]
def zeroIs (P : Program) (t : TypeId) (z : Value) : Prop := (P.info? t).bind (·.zero) = some z
theorem zero_run {t : TypeId} {z : Value} (h : zeroIs P t z) (w : World) : (zeroValue t).run P w = .ok z w := by
  unfold zeroIs at h
  cases hi : P.info? t with
  | none => rw [hi] at h; cases h
  | some i => rw [hi] at h; simp only [Option.bind_some] at h; simp [zeroValue, typeInfo, hi, h]
def litA (u : Value) : A := .t (.v u)
theorem lits {c : Ctx} : ∀ (l : List Value), (l.all Value.oneCell') = true → Reps (RepA c.μ c.β) (l.map litA) l
  | [], _ => .nil
  | u :: l, h => by
    simp only [List.all_cons, Bool.and_eq_true] at h
    exact .cons (.t (.v h.1)) (lits l h.2)
theorem l_alloc {e : TypeId} {d : Nat} {z : Value} (r : List A) (ho : o.op = .alloc e) (hdst : o.dst = some d) (hz : zeroIs P e z) (h1 : z.cells.toList.all Value.oneCell' = true) (hr : z.cells.toList.map litA = r) (hL : s.L d = none) (hd : inB o.dst s.n = true) :
    LR P o (.b d :: lk o) [.t d, .b d] s ((s.setOwn (.l d) (.box r)).put (some d) (.lp d 0)) :=
  l_new hdst hL hd rfl fun c w a hm hrep => by
    refine ⟨.pointer (some ⟨w.heap.size, 0, none⟩), w.alloc (.cells z.cells e), c, w.heap.size, 0, by simp [execOp, ho, Instr.alloc, zero_run hz, newVar, newRow], Mk.alloc hm _, Nat.le_refl _, ?_, ?_⟩
    · rw [← hr]
      have := boxes (c := c) (vs := z.cells.toList) e hm (lits _ h1)
      simpa using this
    · simp [RepX, upd_same]
/-- .. or under whatever name is free -/
theorem e_new {x : AO} {y : Nat → X} (hg : o.guard = none) (hd : inB o.dst s.n = true) (hy : ∀ k, (y k).loc = none)
    (h : ∀ (c : Ctx) (w : World) (a : Act), MemOk c w → (∀ y, y ∈ o.op.operands → RepX c (s.eval y) (a.eval y)) → ∃ v w1 c1 b n, (execOp a.eval o).run P w = .ok (.value v) w1 ∧ Mk c w c1 w1 ∧ w.heap.size ≤ b ∧ ORep c1 w1 x b n ∧ ∀ k, c1.β k = none → RepX { c1 with β := upd c1.β k (some (b, n)) } (y k) v)
    (hk : ∀ k, s.H k = none → K ((s.setOwn (.e k) x).put o.dst (y k))) : OpW P all o K s := by
  intro c a w g
  unfold opRun
  rw [if_pos (by simp [Region.wanted, hg])]
  refine wp_to ?_
  obtain ⟨v, w1, c1, b, n, h1, h2, h3, h4, h5⟩ := h c w a g.memOk fun u hu => g.eval u
  unfold Oper.wp
  rw [h1]
  simp only [Oper.upon]
  obtain ⟨k, k1, k2, g', x'⟩ := g.newE h2 h3 h4
  exact ⟨_, _, hk k k1, g'.put o.dst hd (h5 k k2) (fun d' e => by rw [hy] at e; cases e), by rw [own_put]; exact x'⟩
theorem e_box {e : TypeId} {y : Operand} {x : C} (r : List A) (hg : o.guard = none) (ho : o.op = .box e y) (hy : s.eval y = .c x) (hr : x.cells = r) (hd : inB o.dst s.n = true)
    (hk : ∀ k, s.H k = none → K ((s.setOwn (.e k) (.box r)).put o.dst (.c (.a (.bp k 0))))) : OpW P all o K s :=
  e_new (y := fun k => .c (.a (.bp k 0))) hg hd (fun _ => rfl) (fun c w a hm hrep => by
    have h0 := hrep y (by rw [ho]; simp [Op.operands])
    rw [hy] at h0
    have h0 : RepC c.μ c.β x (a.eval y) := h0
    refine ⟨.pointer (some ⟨w.heap.size, 0, none⟩), w.alloc (.cells (a.eval y).cells e), c, w.heap.size, 0, by simp [execOp, ho, Instr.box, newVar, newRow], Mk.alloc hm _, Nat.le_refl _, ?_, fun k _ => ?_⟩
    · rw [← hr]
      have := boxes (vs := (a.eval y).cells.toList) e hm h0.cells
      simpa using this
    · exact RepA.bp (c := 0) (upd_same _ _ _)) hk
theorem e_alloc {e : TypeId} {z : Value} (r : List A) (hg : o.guard = none) (ho : o.op = .alloc e) (hz : zeroIs P e z) (h1 : z.cells.toList.all Value.oneCell' = true) (hr : z.cells.toList.map litA = r) (hd : inB o.dst s.n = true)
    (hk : ∀ k, s.H k = none → K ((s.setOwn (.e k) (.box r)).put o.dst (.c (.a (.bp k 0))))) : OpW P all o K s :=
  e_new (y := fun k => .c (.a (.bp k 0))) hg hd (fun _ => rfl) (fun c w a hm hrep => by
    refine ⟨.pointer (some ⟨w.heap.size, 0, none⟩), w.alloc (.cells z.cells e), c, w.heap.size, 0, by simp [execOp, ho, Instr.alloc, zero_run hz, newVar, newRow], Mk.alloc hm _, Nat.le_refl _, ?_, fun k _ => ?_⟩
    · rw [← hr]
      have := boxes (c := c) (vs := z.cells.toList) e hm (lits _ h1)
      simpa using this
    · exact RepA.bp (c := 0) (upd_same _ _ _)) hk
theorem mapRep0 {c : Ctx} {kk : KK} : MapRep c kk [] 0 #[] := ⟨rfl, fun i m e h => by simp at h, fun _ h => by simp at h, fun _ h => by simp at h, by simp, by simp⟩
theorem e_makeMap {t : TypeId} (kk : KK) (hg : o.guard = none) (ho : o.op = .makeMap t none) (hd : inB o.dst s.n = true)
    (hk : ∀ k, s.H k = none → K ((s.setOwn (.e k) (.map kk [] 0)).put o.dst (.c (.a (.mp k))))) : OpW P all o K s :=
  e_new (y := fun k => .c (.a (.mp k))) hg hd (fun _ => rfl) (fun c w a hm hrep => by
    refine ⟨.map (some w.heap.size), w.alloc (.map #[] 0), c, w.heap.size, 0, by simp [execOp, ho, Instr.makeMap], Mk.alloc hm _, Nat.le_refl _, ⟨#[], heap_new w _, mapRep0⟩, fun k _ => ?_⟩
    exact RepA.mp (c := 0) (upd_same _ _ _)) hk
theorem l_makeMap {t : TypeId} {d : Nat} (kk : KK) (ho : o.op = .makeMap t none) (hdst : o.dst = some d) (hL : s.L d = none) (hd : inB o.dst s.n = true) :
    LR P o (.b d :: lk o) [.t d, .b d] s ((s.setOwn (.l d) (.map kk [] 0)).put (some d) (.lmp d)) :=
  l_new hdst hL hd rfl fun c w a hm hrep => by
    refine ⟨.map (some w.heap.size), w.alloc (.map #[] 0), c, w.heap.size, 0, by simp [execOp, ho, Instr.makeMap], Mk.alloc hm _, Nat.le_refl _, ⟨#[], heap_new w _, mapRep0⟩, ?_⟩
    simp [RepX, upd_same]
end
end Go.Proofs.Ytojkjiakkcgfcaa.E
