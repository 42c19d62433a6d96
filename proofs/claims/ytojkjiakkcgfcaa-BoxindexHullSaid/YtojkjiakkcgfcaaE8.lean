/- Structs and slices built; slices of slices; append; strings. Plain theorems, for any program. -/
import Derived.Test.YtojkjiakkcgfcaaE7
namespace Go.Proofs.Ytojkjiakkcgfcaa.E
open Go.RowKit
set_option linter.unusedVariables false

section
variable {P : Program} {all : Array Oper} {o : Oper} {s s' : S} {K : S → Prop}
/-! ### a struct, an array, built of parts -/
theorem foldl_splice : ∀ (v : List Value) (j off : Nat) (cs : Array Value), off + j + v.length ≤ cs.size → ((v.zipIdx j).foldl (fun (cs : Array Value) (x : Value × Nat) => cs.setIfInBounds (off + x.2) x.1) cs).toList = splice cs.toList (off + j) v
  | [], j, off, cs, _ => by simp [splice]
  | u :: v, j, off, cs, h => by
    rw [List.zipIdx_cons, List.foldl_cons, foldl_splice v (j + 1) off _ (by simp at h ⊢; omega)]
    apply List.ext_getElem?
    intro i
    rw [splice_get (by simp at h ⊢; omega), splice_get (by simp at h ⊢; omega)]
    simp only [Array.toList_setIfInBounds, List.getElem?_set, List.length_cons]
    by_cases h1 : i < off + j
    · rw [if_pos (by omega), if_neg (by omega), if_pos h1]
    · rw [if_neg h1]
      by_cases h2 : i = off + j
      · subst h2
        rw [if_pos (by omega), if_pos rfl, if_pos (by simp at h ⊢; omega), if_pos (by omega)]
        simp
      · by_cases h3 : i < off + j + (v.length + 1)
        · rw [if_neg (by omega), if_pos (by omega), if_pos h3]
          rw [show i - (off + j) = (i - (off + (j + 1))) + 1 by omega]
          simp
        · rw [if_neg (by omega), if_neg (by omega), if_neg (by omega), if_neg h3]
/-- the parts' cells put in place -/
def fillA {α : Type} (pl : List (Nat × Nat)) (cells : List α) : List (Nat × List α) → Option (List α)
  | [] => some cells
  | (i, v) :: rest => match pl[i]? with
    | none => none
    | some (off, size) => if v.length = size ∧ off + v.length ≤ cells.length then fillA pl (splice cells off v) rest else none
inductive PartsRep (μ : Mem) (β : Pos) : List (Nat × List A) → List (Nat × Value) → Prop
  | nil : PartsRep μ β [] []
  | cons {i : Nat} {l : List A} {v : Value} {r : List (Nat × List A)} {r' : List (Nat × Value)} (h : Reps (RepA μ β) l v.cells.toList) (t : PartsRep μ β r r') : PartsRep μ β ((i, l) :: r) ((i, v) :: r')
theorem fill_run {μ : Mem} {β : Pos} {pl : List (Nat × Nat)} {place : Nat → Option (Nat × Nat)} (hp : ∀ i x, pl[i]? = some x → place i = some x) : ∀ {ps : List (Nat × List A)} {vs : List (Nat × Value)} {cells : List A} {cs : Array Value} {r : List A}, PartsRep μ β ps vs → Reps (RepA μ β) cells cs.toList → fillA pl cells ps = some r → ∃ us, Instr.fill place cs vs = some us ∧ Reps (RepA μ β) r us.toList := by
  intro ps
  induction ps with
  | nil => intro vs cells cs r h hc hr; cases h; cases hr; exact ⟨cs, rfl, hc⟩
  | cons p ps ih =>
    intro vs cells cs r h hc hr
    cases h with
    | @cons i l v _ r' hl ht =>
      simp only [fillA] at hr
      split at hr
      · cases hr
      · rename_i off size hpl
        split at hr
        · rename_i hcond
          have hvs : v.cells.size = l.length := by have := hl.1; simpa using this.symm
          have hcs : cs.size = cells.length := by have := hc.1; simpa using this.symm
          have hsp := foldl_splice v.cells.toList 0 off cs (by simp; omega)
          have := hc.splice (off := off) hl
          obtain ⟨us, h1, h2⟩ := ih (cs := v.cells.zipIdx.foldl (fun cs (x : Value × Nat) => cs.setIfInBounds (off + x.2) x.1) cs) ht (by
            rw [← Array.foldl_toList, Array.toList_zipIdx, hsp]; exact this) hr
          refine ⟨us, ?_, h2⟩
          simp only [Instr.fill, hp i _ hpl]
          rw [if_neg (by simp [hvs]; omega)]
          exact h1
        · cases hr
def bplB (P : Program) (t : TypeId) (pl : List (Nat × Nat)) : Bool :=
  match P.underlying t with
  | some (.struct fs) => fs.toList.mapM (fun f => (P.info? f.type).map fun i => (f.offset, i.size)) == some pl
  | some (.array n e) => match P.info? e with
    | some i => (List.range n).map (fun j => (j * i.size, i.size)) == pl
    | none => false
  | _ => false
theorem built_of {t : TypeId} {z : Value} {pl : List (Nat × Nat)} (hz : zeroIs P t z) (hp : bplB P t pl = true) : ∃ place, (∀ i x, pl[i]? = some x → place i = some x) ∧ ∀ vs, P.built t vs = Instr.fill place z.cells vs := by
  unfold zeroIs at hz
  unfold bplB at hp
  cases hi : P.info? t with
  | none => rw [hi] at hz; cases hz
  | some it =>
    rw [hi] at hz
    simp only [Option.bind_some] at hz
    split at hp
    · rename_i fs hu
      refine ⟨(pl.toArray[·]?), fun i x h => by simpa using h, fun vs => ?_⟩
      simp only [Program.built, hi, hu, hz, eq_of_beq hp]
    · rename_i n e hu
      split at hp
      · rename_i ie hie
        refine ⟨fun i => some (i * ie.size, ie.size), fun i x h => ?_, fun vs => by simp only [Program.built, hi, hu, hz, hie]⟩
        rw [← eq_of_beq hp, List.getElem?_map] at h
        obtain ⟨j, hj, rfl⟩ := Option.map_eq_some_iff.1 h
        have : j = i := by
          rw [List.getElem?_eq_some_iff] at hj
          obtain ⟨h1, h2⟩ := hj
          simpa using h2.symm
        rw [this]
      · cases hp
    · cases hp
def partsX (s : S) : List (Nat × Operand) → Option (List (Nat × List A))
  | [] => some []
  | (i, y) :: r => match s.eval y, partsX s r with
    | .c x, some l => some ((i, x.cells) :: l)
    | _, _ => none
theorem parts_rep {c : Ctx} {f : Operand → Value} : ∀ {ps : List (Nat × Operand)} {l : List (Nat × List A)}, partsX s ps = some l → (∀ p ∈ ps, RepX c (s.eval p.2) (f p.2)) → PartsRep c.μ c.β l (ps.map fun p => (p.1, f p.2))
  | [], l, h, _ => by cases h; exact .nil
  | (i, y) :: ps, l, h, hr => by
    simp only [partsX] at h
    split at h
    · rename_i x l' h1 h2
      cases h
      have h3 := hr (i, y) (by simp)
      rw [h1] at h3
      have h3 : RepC c.μ c.β x (f y) := h3
      exact .cons h3.cells (parts_rep h2 fun p hp => hr p (by simp [hp]))
    · cases h
theorem q_build {t : TypeId} {parts : Array (Nat × Operand)} {z : Value} (pl : List (Nat × Nat)) (ps : List (Nat × List A)) (r : List A) (ho : o.op = .build t parts) (hz : zeroIs P t z) (h1 : z.cells.toList.all Value.oneCell' = true) (hp : bplB P t pl = true)
    (hps : partsX s parts.toList = some ps) (hr : fillA pl (z.cells.toList.map litA) ps = some r) : QV P o s (.c (.g r)) :=
  .of_same (fun _ => nolp) fun c w a hm hrep => by
    obtain ⟨place, h2, h3⟩ := built_of hz hp
    obtain ⟨us, h4, h5⟩ := fill_run (β := c.β) h2 (parts_rep (c := c) (f := a.eval) hps fun p hp => hrep p.2 (by rw [ho]; simp [Op.operands]; exact ⟨p.1, by simpa using hp⟩)) (cs := z.cells) (lits (c := c) _ h1) hr
    refine ⟨.agg us, ?_, us, rfl, h5⟩
    have h6 := h3 (parts.map fun (i, x) => (i, a.eval x)).toList
    have h7 : (parts.map fun (i, x) => (i, a.eval x)).toList = parts.toList.map fun p => (p.1, a.eval p.2) := by simp
    rw [h7] at h6
    have h8 := run_build (P := P) w t (parts.map fun (i, x) => (i, a.eval x)) us (by rw [h7, h6, h4])
    simp only [execOp, ho, Sem.run_bind, h8]; rfl
/-! ### a slice built of parts -/
def untA : List A → Option (List T)
  | [] => some []
  | .t x :: r => (untA r).map (x :: ·)
  | _ :: _ => none
theorem untA_map (l : List T) : untA (l.map .t) = some l := by
  induction l with
  | nil => rfl
  | cons x l ih => simp [untA, ih]
theorem untA_rep {μ : Mem} {β : Pos} : ∀ {l : List A} {r : List T} {cs : List Value}, untA l = some r → Reps (RepA μ β) l cs → Reps (RepT μ) r cs
  | [], r, cs, h, hr => by
    cases h
    have := hr.1
    cases cs with
    | nil => exact .nil
    | cons => cases this
  | .t x :: l, r, cs, h, hr => by
    simp only [untA] at h
    obtain ⟨r', h1, rfl⟩ := Option.map_eq_some_iff.1 h
    cases cs with
    | nil => exact absurd hr.1 (by simp)
    | cons v cs =>
      have h2 := hr.2 0 _ v rfl rfl
      cases h2 with
      | t h2 => exact .cons h2 (untA_rep h1 ⟨by simpa using hr.1, fun i y u h3 h4 => hr.2 (i + 1) y u (by simpa using h3) (by simpa using h4)⟩)
  | .bp .. :: _, _, _, h, _ | .mp .. :: _, _, _, h, _ | .ts .. :: _, _, _, h, _ | .os .. :: _, _, _, h, _ | .fn .. :: _, _, _, h, _ => by cases h
/-- all elements, in order -/
def elemsX (s : S) (sz : Nat) : Nat → List (Nat × Operand) → Option (List (List T))
  | _, [] => some []
  | k, (i, y) :: r => match s.eval y, elemsX s sz (k + 1) r with
    | .c x, some l => match untA x.cells with
      | some e => if i = k ∧ e.length = sz then some (e :: l) else none
      | none => none
    | _, _ => none
theorem elems_fill {c : Ctx} {f : Operand → Value} {sz : Nat} : ∀ {ps : List (Nat × Operand)} {k : Nat} {es : List (List T)} {cs : Array Value}, elemsX s sz k ps = some es → (∀ p ∈ ps, RepX c (s.eval p.2) (f p.2)) → cs.size = (k + ps.length) * sz →
    ∃ us, Instr.fill (fun i => some (i * sz, sz)) cs (ps.map fun p => (p.1, f p.2)) = some us ∧ us.size = cs.size ∧ us.toList.take (k * sz) = cs.toList.take (k * sz) ∧ Reps (RepT c.μ) es.flatten (us.toList.drop (k * sz)) ∧ (∀ e ∈ es, e.length = sz) ∧ es.length = ps.length
  | [], k, es, cs, h, _, hs => by
    cases h
    refine ⟨cs, rfl, rfl, rfl, ?_, by simp, rfl⟩
    rw [List.drop_eq_nil_of_le (by simp at hs ⊢; omega)]
    exact .nil
  | (i, y) :: ps, k, es, cs, h, hr, hs => by
    simp only [elemsX] at h
    split at h
    · rename_i x l h1 h2
      split at h
      · rename_i e h3
        split at h
        · rename_i hc
          cases h
          obtain ⟨rfl, hel⟩ := hc
          have h4 := hr (i, y) (by simp)
          rw [h1] at h4
          have h4 : RepC c.μ c.β x (f y) := h4
          have h5 := untA_rep h3 h4.cells
          have hvs : (f y).cells.size = sz := by have := h5.1; simp at this; omega
          have hsz : i * sz + sz + ps.length * sz = cs.size := by
            rw [hs, show i + ((i, y) :: ps).length = i + 1 + ps.length by simp; omega, Nat.add_mul, Nat.add_mul]; omega
          have hsp := foldl_splice (f y).cells.toList 0 (i * sz) cs (by simp; omega)
          have hsl : ((f y).cells.zipIdx.foldl (fun cs (x : Value × Nat) => cs.setIfInBounds (i * sz + x.2) x.1) cs).toList = splice cs.toList (i * sz) (f y).cells.toList := by
            rw [← Array.foldl_toList, Array.toList_zipIdx, hsp]; rfl
          have hlen : ((f y).cells.zipIdx.foldl (fun cs (x : Value × Nat) => cs.setIfInBounds (i * sz + x.2) x.1) cs).size = cs.size := by
            rw [← Array.length_toList, hsl, splice_len (by simp; omega)]; simp
          obtain ⟨us, g1, g2, g3, g4, g5, g6⟩ := elems_fill (c := c) (f := f) (k := i + 1) (cs := (f y).cells.zipIdx.foldl (fun cs (x : Value × Nat) => cs.setIfInBounds (i * sz + x.2) x.1) cs) h2 (fun p hp => hr p (by simp [hp])) (by
            rw [hlen, hs]; congr 1; simp; omega)
          have hval : ∀ q, q < i * sz + sz → us.toList[q]? = if q < i * sz then cs.toList[q]? else (f y).cells.toList[q - i * sz]? := fun q hq => by
            have e1 : us.toList[q]? = (us.toList.take ((i + 1) * sz))[q]? := by rw [List.getElem?_take, if_pos (by rw [Nat.add_mul]; omega)]
            rw [e1, g3, List.getElem?_take, if_pos (by rw [Nat.add_mul]; omega), hsl, splice_get (by simp; omega)]
            split
            · rfl
            · rw [if_pos (by simp; omega)]
          refine ⟨us, ?_, by rw [g2, hlen], ?_, ?_, ?_, by simp [g6]⟩
          · simp only [List.map_cons, Instr.fill]
            rw [if_neg (by simp [hvs]; omega)]
            exact g1
          · apply List.ext_getElem?
            intro q
            rw [List.getElem?_take, List.getElem?_take]
            split
            · rename_i hq; rw [hval q (by omega), if_pos hq]
            · rfl
          · have e2 : us.toList.drop (i * sz) = (f y).cells.toList ++ us.toList.drop ((i + 1) * sz) := by
              apply List.ext_getElem?
              intro q
              rw [List.getElem?_drop]
              by_cases hq : q < sz
              · rw [hval _ (by omega), if_neg (by omega), List.getElem?_append_left (by simp; omega)]
                congr 1; omega
              · rw [List.getElem?_append_right (by simp; omega), List.getElem?_drop]
                congr 1
                simp [hvs, Nat.add_mul]; omega
            rw [e2, List.flatten_cons]
            exact h5.append g4
          · intro e' he'
            rcases List.mem_cons.1 he' with rfl | he'
            · exact hel
            · exact g5 e' he'
        · cases h
      · cases h
    · cases h
end
end Go.Proofs.Ytojkjiakkcgfcaa.E
