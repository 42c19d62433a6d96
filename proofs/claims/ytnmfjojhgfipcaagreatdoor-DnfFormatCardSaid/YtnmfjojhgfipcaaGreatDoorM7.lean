/- Parts of the proof, one after the other: E14, E15, E16, E17, E18, E19, E20, E21, E22, E23, E24. No condition. -/
import Derived.Test.YtnmfjojhgfipcaaGreatDoorM6
import Derived.ChangeMaps4
import Derived.MapKept
import Derived.MapFrom
import Derived.Maps.RangeRun
/- Maps: keys, the laws of lists of entries, the runs. Plain theorems, for any program. -/
namespace Go.Proofs.YtnmfjojhgfipcaaGreatDoor.E
open Go.RowKit
set_option linter.unusedVariables false

/-! ### keys -/
structure KeyLaw (P : Program) (kt : TypeId) (kk : KK) : Prop where
  check : ∀ (k : Value) (em : Bool) (w : World), kok kk k = true → (Instr.checkKey em 10000 kt k).run P w = .ok () w
  find : ∀ (k : Value) (l : List MapEntry) (w : World), kok kk k = true → (∀ e ∈ l, kok kk e.key = true) →
    ((Instr.findKey kt k l).run P w = .ok none w ∧ ∀ e ∈ l, e.key ≠ k) ∨ ∃ j e, (Instr.findKey kt k l).run P w = .ok (some (j, e.val)) w ∧ l[j]? = some e ∧ e.key = k
  stay : ∀ (k : Value) (w : World), kok kk k = true → (Instr.keyThatStays k k).run P w = .ok k w
theorem KeyLaw.of {P : Program} {kt : TypeId} {kk : KK} {d : TypeDesc} (hd : P.underlying kt = some d) (h : ∀ k, kok kk k = true → MapKept.IsKey d k) : KeyLaw P kt kk where
  check k em w hk := MapKept.run_checkKey hd (h k hk) em 9999
  find k l w hk hl := by
    rcases MapKept.findNow_spec (h k hk) l 0 (fun e he => h _ (hl e he)) with ⟨h1, h2⟩ | ⟨j, e, h1, h2, h3⟩
    · exact .inl ⟨MapKept.run_findKey hd h1, h2⟩
    · exact .inr ⟨j, e, by simpa using MapKept.run_findKey hd h1, h2, h3⟩
  stay k w hk := MapKept.run_keyThatStays (h k hk)
theorem KeyLaw.int {P : Program} {kt : TypeId} {q : IntKind} (hd : P.underlying kt = some (.int q)) : KeyLaw P kt (.int q) :=
  .of hd fun k hk => by cases k <;> simp_all [kok, MapKept.IsKey]
theorem KeyLaw.str {P : Program} {kt : TypeId} (hd : P.underlying kt = some .string) : KeyLaw P kt .str :=
  .of hd fun k hk => by cases k <;> simp_all [kok, MapKept.IsKey]
theorem KeyLaw.bool {P : Program} {kt : TypeId} (hd : P.underlying kt = some .bool) : KeyLaw P kt .bool :=
  .of hd fun k hk => by cases k <;> simp_all [kok, MapKept.IsKey]
theorem keq_iff {kk : KK} {a b : Value} (ha : kok kk a = true) (hb : kok kk b = true) : keq a b = true ↔ a = b := by
  cases kk with
  | int q => cases a <;> cases b <;> simp_all [kok, keq]
  | str => cases a <;> cases b <;> simp_all [kok, keq, MapKept.bytes_beq]
  | bool => cases a <;> cases b <;> simp_all [kok, keq]
  | ints q n =>
    cases a <;> cases b <;> simp_all only [kok, Bool.false_eq_true, keq]
    rename_i x y
    simp only [Bool.and_eq_true, decide_eq_true_eq, List.all_eq_true] at ha hb
    simp only [decide_eq_true_eq, Value.agg.injEq]
    constructor
    · intro h
      have key : ∀ (l m : List Value), (∀ u ∈ l, (match u with | .int q' _ => decide (q' = q) | _ => false) = true) → (∀ u ∈ m, (match u with | .int q' _ => decide (q' = q) | _ => false) = true) → l.map intOf = m.map intOf → l = m := by
        intro l
        induction l with
        | nil => intro m _ _ h; cases m with
          | nil => rfl
          | cons => cases h
        | cons u l ih => intro m h1 h2 h; cases m with
          | nil => cases h
          | cons v m =>
            simp only [List.map_cons, List.cons.injEq] at h
            rw [ih m (fun u hu => h1 u (by simp [hu])) (fun u hu => h2 u (by simp [hu])) h.2]
            have e1 := h1 u (by simp)
            have e2 := h2 v (by simp)
            have e3 := h.1
            cases u <;> simp at e1
            cases v <;> simp at e2
            simp only [intOf, Option.some.injEq] at e3
            rw [e1, e2, e3]
      exact Array.toList_inj.1 (key _ _ ha.2 hb.2 h)
    · intro h; rw [h]
def mget (k : Value) : List ME → Option C
  | [] => none
  | e :: es => bif keq k e.k then some e.x else mget k es
def mset (k : Value) (x : C) (ck : Nat) : List ME → List ME
  | [] => [⟨k, x, ck⟩]
  | e :: es => bif keq k e.k then ⟨k, x, e.b⟩ :: es else e :: mset k x ck es
def mclock (k : Value) (es : List ME) (ck : Nat) : Nat := match mget k es with | some _ => ck | none => ck + 1
def mdel (k : Value) : List ME → List ME
  | [] => []
  | e :: es => bif keq k e.k then es else e :: mdel k es
section
variable {kk : KK} {k : Value} {x : C} {ck : Nat}
theorem m_none : ∀ {es : List ME}, kok kk k = true → (∀ m ∈ es, kok kk m.k = true) → (∀ m ∈ es, m.k ≠ k) → mget k es = none ∧ mset k x ck es = es ++ [⟨k, x, ck⟩] ∧ mdel k es = es
  | [], _, _, _ => ⟨rfl, rfl, rfl⟩
  | e :: es, hk, hs, hn => by
    obtain ⟨h1, h2, h3⟩ := m_none (es := es) hk (fun m hm => hs m (by simp [hm])) (fun m hm => hn m (by simp [hm]))
    have : keq k e.k = false := by
      cases h : keq k e.k with
      | false => rfl
      | true => exact absurd ((keq_iff hk (hs e (by simp))).1 h).symm (hn e (by simp))
    simp [mget, mset, mdel, this, h1, h2, h3]
theorem m_some : ∀ {es : List ME} {j : Nat} {m : ME}, kok kk k = true → (∀ m ∈ es, kok kk m.k = true) → (es.map (·.k)).Nodup → es[j]? = some m → m.k = k → mget k es = some m.x ∧ mset k x ck es = es.set j ⟨k, x, m.b⟩ ∧ mdel k es = es.eraseIdx j
  | e :: es, 0, m, hk, hs, hn, hj, hm => by
    simp at hj; subst hj
    have : keq k e.k = true := (keq_iff hk (hs e (by simp))).2 hm.symm
    simp [mget, mset, mdel, this]
  | e :: es, j + 1, m, hk, hs, hn, hj, hm => by
    have hj : es[j]? = some m := by simpa using hj
    obtain ⟨hn1, hn2⟩ := List.nodup_cons.1 hn
    obtain ⟨h1, h2, h3⟩ := m_some (es := es) hk (fun m hm => hs m (by simp [hm])) hn2 hj hm
    have : keq k e.k = false := by
      cases h : keq k e.k with
      | false => rfl
      | true =>
        have e1 := (keq_iff hk (hs e (by simp))).1 h
        exact absurd (List.mem_map.2 ⟨m, List.mem_of_getElem? hj, hm.trans e1⟩) hn1
    simp [mget, mset, mdel, this, h1, h2, h3]
end
section
variable {P : Program} {c : Ctx} {kk : KK} {es : List ME} {ck : Nat} {ents : Array MapEntry} {w : World} {b : Nat} {t kt et : TypeId} {k : Value} {x : C} {v : Value}
theorem MapRep.keys (h : MapRep c kk es ck ents) : ∀ e ∈ ents.toList, kok kk e.key = true := fun e he => by
  obtain ⟨j, hj⟩ := List.getElem?_of_mem he
  have hlt : j < es.length := by rw [h.len]; simpa using (List.getElem?_eq_some_iff.1 hj).1
  have hm := List.getElem?_eq_getElem hlt
  rw [(h.ent j _ e hm (by simpa using hj)).1]
  exact h.key _ (List.mem_of_getElem? hm)
theorem MapRep.at (h : MapRep c kk es ck ents) {j : Nat} {e : MapEntry} (hj : ents.toList[j]? = some e) : ∃ m, es[j]? = some m ∧ e.key = m.k ∧ e.born = m.b ∧ RepC c.μ c.β m.x e.val := by
  have hlt : j < es.length := by rw [h.len]; simpa using (List.getElem?_eq_some_iff.1 hj).1
  exact ⟨_, List.getElem?_eq_getElem hlt, h.ent j _ e (List.getElem?_eq_getElem hlt) (by simpa using hj)⟩
theorem MapRep.at' (h : MapRep c kk es ck ents) {m : ME} (hm : m ∈ es) : ∃ e ∈ ents.toList, e.key = m.k ∧ e.born = m.b ∧ RepC c.μ c.β m.x e.val := by
  obtain ⟨j, hj⟩ := List.getElem?_of_mem hm
  have hlt : j < ents.size := by rw [← h.len]; exact (List.getElem?_eq_some_iff.1 hj).1
  exact ⟨ents[j], by simp, h.ent j m _ hj (Array.getElem?_eq_getElem hlt)⟩
theorem MapRep.find (h : MapRep c kk es ck ents) (kl : KeyLaw P kt kk) (hk : kok kk k = true) (w : World) :
    ((Instr.findKey kt k ents.toList).run P w = .ok none w ∧ ∀ m ∈ es, m.k ≠ k) ∨ ∃ j e m, (Instr.findKey kt k ents.toList).run P w = .ok (some (j, e.val)) w ∧ ents.toList[j]? = some e ∧ e.key = k ∧ es[j]? = some m ∧ m.k = k ∧ e.born = m.b ∧ RepC c.μ c.β m.x e.val := by
  rcases kl.find k ents.toList w hk h.keys with ⟨h1, h2⟩ | ⟨j, e, h1, h2, h3⟩
  · refine .inl ⟨h1, fun m hm e => ?_⟩
    obtain ⟨e', h3, h4, _⟩ := h.at' hm
    exact h2 e' h3 (h4.trans e)
  · obtain ⟨m, h4, h5, h6, h7⟩ := h.at h2
    exact .inr ⟨j, e, m, h1, h2, h3, h4, h5.symm.trans h3, h6, h7⟩
theorem MapRep.lookup (h : MapRep c kk es ck ents) (hb : w.heap[b]? = some (.map ents ck)) (ht : P.underlying t = some (.map kt et)) (kl : KeyLaw P kt kk) (hk : kok kk k = true) {z : Value} (hz : zeroIs P et z) (ok : Bool) :
    (mget k es = none ∧ (Instr.lookup t (.map (some b)) k ok).run P w = .ok (if ok then .tuple #[z, .bool false] else z) w) ∨ ∃ x v, mget k es = some x ∧ RepC c.μ c.β x v ∧ (Instr.lookup t (.map (some b)) k ok).run P w = .ok (if ok then .tuple #[v, .bool true] else v) w := by
  rcases h.find kl hk w with ⟨h1, h2⟩ | ⟨j, e, m, h1, h2, h3, h4, h5, h6, h7⟩
  · refine .inl ⟨(m_none (x := .g []) (ck := 0) hk h.key h2).1, ?_⟩
    simp [Instr.lookup, run_underlying ht, MapKept.run_getObj_map hb, kl.check k _ w hk, h1, zero_run hz, Result.andThen]
  · refine .inr ⟨m.x, e.val, (m_some (x := .g []) (ck := 0) hk h.key h.nodup h4 h5).1, h7, ?_⟩
    simp [Instr.lookup, run_underlying ht, MapKept.run_getObj_map hb, kl.check k _ w hk, h1, Result.andThen]
theorem MapRep.set (h : MapRep c kk es ck ents) (hb : w.heap[b]? = some (.map ents ck)) (ht : P.underlying t = some (.map kt et)) (kl : KeyLaw P kt kk) (hk : kok kk k = true) (hv : RepC c.μ c.β x v) :
    ∃ ents', (Instr.mapUpdate t (.map (some b)) k v).run P w = .ok () (ChangeMaps.setBlock w b (.map ents' (mclock k es ck))) ∧ MapRep c kk (mset k x ck es) (mclock k es ck) ents' := by
  rcases h.find kl hk w with ⟨h1, h2⟩ | ⟨j, e, m, h1, h2, h3, h4, h5, h6, h7⟩
  · obtain ⟨g1, g2, _⟩ := m_none (x := x) (ck := ck) hk h.key h2
    have hc : mclock k es ck = ck + 1 := by simp [mclock, g1]
    refine ⟨ents.push ⟨k, v, ck⟩, ?_, ?_⟩
    · rw [hc]
      simp [Instr.mapUpdate, run_underlying ht, MapKept.run_getObj_map hb, kl.check k _ w hk, h1, MapKept.run_setObj_map _ hb, Result.andThen, ChangeMaps.setBlock]
    · rw [hc, g2]
      refine ⟨by simp [h.len], fun i m e hi he => ?_, fun m hm => ?_, fun m hm => ?_, ?_, ?_⟩
      · by_cases hlt : i < es.length
        · rw [List.getElem?_append_left hlt] at hi
          rw [Array.getElem?_push_lt (by rw [← h.len]; exact hlt)] at he
          exact h.ent i m e hi (by rw [Array.getElem?_eq_getElem (by rw [← h.len]; exact hlt)]; exact he)
        · rw [List.getElem?_append_right (by omega)] at hi
          have hi0 : i = es.length := by
            have := (List.getElem?_eq_some_iff.1 hi).1
            simp at this; omega
          subst hi0
          simp at hi; subst hi
          rw [h.len] at he
          simp at he; subst he
          exact ⟨rfl, rfl, hv⟩
      · rcases List.mem_append.1 hm with hm | hm
        · exact h.key m hm
        · simp at hm; subst hm; exact hk
      · rcases List.mem_append.1 hm with hm | hm
        · have := h.born m hm; omega
        · simp at hm; subst hm; simp
      · rw [List.map_append, List.nodup_append]
        refine ⟨h.nodup, by simp, fun a ha b' hb' => ?_⟩
        simp at hb'; subst hb'
        obtain ⟨m, hm, rfl⟩ := List.mem_map.1 ha
        exact h2 m hm
      · rw [List.map_append, List.nodup_append]
        refine ⟨h.inj, by simp, fun a ha b' hb' => ?_⟩
        simp at hb'; subst hb'
        obtain ⟨m, hm, rfl⟩ := List.mem_map.1 ha
        have := h.born m hm; exact fun e => by omega
  · obtain ⟨g1, g2, _⟩ := m_some (x := x) (ck := ck) hk h.key h.nodup h4 h5
    have hc : mclock k es ck = ck := by simp [mclock, g1]
    have hje : ents[j]? = some e := by simpa using h2
    have hjl : j < ents.size := (Array.getElem?_eq_some_iff.1 hje).1
    refine ⟨ents.modify j (fun e' => { e' with key := k, val := v }), ?_, ?_⟩
    · rw [hc]
      have hst := kl.stay k w hk
      simp [Instr.mapUpdate, run_underlying ht, MapKept.run_getObj_map hb, kl.check k _ w hk, h1, hje, h3, hst, MapKept.run_setObj_map _ hb, Result.andThen, ChangeMaps.setBlock]
    · rw [hc, g2]
      have hjs : j < es.length := by rw [h.len]; exact hjl
      have kset : (es.set j ⟨k, x, m.b⟩).map (·.k) = es.map (·.k) := by
        rw [List.map_set]
        apply List.ext_getElem?
        intro i
        rw [List.getElem?_set]
        split
        · rename_i hij; subst hij
          rw [List.getElem?_map, h4]
          simp [hjs, h5]
        · rfl
      have bset : (es.set j ⟨k, x, m.b⟩).map (·.b) = es.map (·.b) := by
        rw [List.map_set]
        apply List.ext_getElem?
        intro i
        rw [List.getElem?_set]
        split
        · rename_i hij; subst hij
          rw [List.getElem?_map, h4]
          simp [hjs]
        · rfl
      refine ⟨by simp [h.len], fun i m' e' hi he => ?_, fun m' hm => ?_, fun m' hm => ?_, by rw [kset]; exact h.nodup, by rw [bset]; exact h.inj⟩
      · rw [List.getElem?_set] at hi
        rw [Array.getElem?_modify] at he
        by_cases hij : j = i
        · subst hij
          rw [if_pos rfl, if_pos hjs] at hi
          rw [if_pos rfl, hje] at he
          simp at hi he; subst hi he
          exact ⟨rfl, h6, hv⟩
        · rw [if_neg hij] at hi he
          exact h.ent i m' e' hi he
      · rcases List.mem_or_eq_of_mem_set hm with hm | rfl
        · exact h.key m' hm
        · exact hk
      · rcases List.mem_or_eq_of_mem_set hm with hm | rfl
        · exact h.born m' hm
        · exact h.born m (List.mem_of_getElem? h4)
end
end Go.Proofs.YtnmfjojhgfipcaaGreatDoor.E
/- Maps: the operations. Plain theorems, for any program. -/
namespace Go.Proofs.YtnmfjojhgfipcaaGreatDoor.E
open Go.RowKit
set_option linter.unusedVariables false

section
variable {P : Program} {all : Array Oper} {o : Oper} {s s' : S} {K : S → Prop} {rest : List Oper}
/-- what a write leaves as it was -/
structure OneBlk (w w' : World) (b : Nat) : Prop where
  os : w'.os = w.os
  tape : w'.tape = w.tape
  output : w'.output = w.output
  size : w'.heap.size = w.heap.size
  blk : ∀ j, j ≠ b → w'.heap[j]? = w.heap[j]?
theorem OneBlk.setBlock (w : World) (b : Nat) (x : Obj) : OneBlk w (ChangeMaps.setBlock w b x) b :=
  ⟨rfl, rfl, rfl, by simp [ChangeMaps.setBlock], fun j hj => by simp [ChangeMaps.setBlock, Ne.symm hj]⟩
theorem setBlock_at {w : World} {b : Nat} {x : Obj} (h : b < w.heap.size) : (ChangeMaps.setBlock w b x).heap[b]? = some x := by simp [ChangeMaps.setBlock, h]
theorem put_run {a : Act} {w w' : World} {r : Next} {K : Act → World → Prop} (hdst : o.dst = none) (h : (execOp a.eval o).run P w = .ok r w') (hr : r = .skip ∨ ∃ v, r = .value v) (k : K a w') : o.wp P a w K (fun _ _ _ => False) := by
  unfold Oper.wp
  rw [h]
  rcases hr with rfl | ⟨v, rfl⟩
  · simpa [Oper.upon, hdst, Act.put] using k
  · simpa [Oper.upon, hdst, Act.put] using k
theorem h_put {k : Nat} {x x' : AO} (hdst : o.dst = none) (hH : s.H k = some x) (hx : ¬ x.empty)
    (h : ∀ (c : Ctx) (w : World) (a : Act) (b n : Nat), MemOk c w → c.β k = some (b, n) → ORep c w x b n → (∀ y, y ∈ o.op.operands → RepX c (s.eval y) (a.eval y)) → ∃ r w', (execOp a.eval o).run P w = .ok r w' ∧ (r = .skip ∨ ∃ v, r = .value v) ∧ OneBlk w w' b ∧ (∀ o, c.μ b o = none) ∧ ORep c w' x' b n) :
    LR P o (.h :: lk o) [.h] s (s.setOwn (.e k) x') := by
  refine ⟨(setOwn_t s (.e k) x').2, fun ℓ hℓ => ?_, fun s1 hl hs c a w g => ?_⟩
  · cases ℓ with
    | h => exact absurd (by simp) hℓ
    | _ => simp [Same, S.setOwn]
  have hHH : s1.H = s.H := hs .h (by simp)
  rw [over_H hHH]
  have hb : s1.own (.e k) = some x := Eq.trans (congrFun hHH k) hH
  obtain ⟨b, m, h1, h2⟩ := g.conc.obj (.e k) _ hb hx
  obtain ⟨r, w', h3, h4, h5, h6, h7⟩ := h c w a b m g.memOk h1 h2 fun u hu => by rw [← evs hs (fun _ h => List.mem_cons_of_mem _ h) hu]; exact g.eval u
  refine put_run hdst h3 h4 ⟨c, ?_⟩
  exact g.write (c' := c) (i := .e k) hb hx h1 h5.os h5.tape h5.output h5.size h5.blk rfl rfl (fun _ _ _ h => h) (fun _ _ _ h => .inl h) (fun o u h => by rw [h6 o] at h; cases h) h7
theorem map_nomem {c : Ctx} {w : World} {b : Nat} {ents : Array MapEntry} {ck : Nat} (hm : MemOk c w) (hb : w.heap[b]? = some (.map ents ck)) (q : Nat) : c.μ b q = none := by
  cases h : c.μ b q with
  | none => rfl
  | some u => have := hm.mem b q u h; simp [World.cell?, hb] at this
/-- the value that a slot holds, where it is known to the bit -/
def litOf : List A → Option (List Value)
  | [] => some []
  | .t (.v u) :: r => (litOf r).map (u :: ·)
  | _ :: _ => none
def keyX : X → Option Value
  | .c (.a (.t (.v u))) => some u
  | .c (.g l) => (litOf l).map fun vs => .agg vs.toArray
  | _ => none
theorem litOf_rep {μ : Mem} {β : Pos} : ∀ {l : List A} {vs us : List Value}, litOf l = some vs → Reps (RepA μ β) l us → us = vs
  | [], vs, us, h, hr => by
    cases h
    exact List.eq_nil_of_length_eq_zero hr.1.symm
  | a :: l, vs, us, h, hr => by
    cases a with
    | t x => cases x with
      | v u =>
        simp only [litOf] at h
        obtain ⟨vs', h1, rfl⟩ := Option.map_eq_some_iff.1 h
        cases us with
        | nil => have := hr.1; simp at this
        | cons v us =>
          have h2 := hr.2 0 _ v rfl rfl
          have h3 := litOf_rep h1 (us := us) ⟨by simpa using hr.1, fun i x v h4 h5 => hr.2 (i + 1) x v h4 h5⟩
          cases h2 with | t h2 => cases h2; rw [h3]
      | sl z sz es => cases h
    | _ => cases h
theorem keyX_rep {c : Ctx} {x : X} {v u : Value} (h : RepX c x v) (hk : keyX x = some u) : v = u := by
  unfold keyX at hk
  split at hk
  · cases hk; exact rep_tv h
  · obtain ⟨vs, h1, rfl⟩ := Option.map_eq_some_iff.1 hk
    obtain ⟨us, h2, h3⟩ := h
    rw [h2, ← litOf_rep h1 h3]
  · cases hk
theorem constX_rep {c : Ctx} {u : Value} : RepX c (constX u) u := by
  cases u with
  | agg cs =>
    simp only [constX]
    split
    · rename_i hall
      refine ⟨cs, rfl, by simp, fun i x v h1 h2 => ?_⟩
      rw [List.getElem?_map, h2] at h1
      simp only [Option.map_some, Option.some.injEq] at h1
      subst h1
      exact .t (.v (List.all_eq_true.1 hall v (List.mem_of_getElem? h2)))
    · trivial
  | tuple => trivial
  | _ => exact RepA.t (.v rfl)
/-- what a look into a map yields -/
def lookX (m : Option C) (z : X) (ok : Bool) : X :=
  match ok, m, z with
  | false, some x, _ => .c x
  | false, none, .c z => .c z
  | true, some x, _ => .tup [x, .a (.t (.v (.bool true)))]
  | true, none, .c z => .tup [z, .a (.t (.v (.bool false)))]
  | _, _, _ => .any
theorem lookX_loc {m : Option C} {z : X} {ok : Bool} : (lookX m z ok).loc = none := by
  unfold lookX; split <;> rfl
theorem lookX_some {c : Ctx} {x : C} {z : X} {v : Value} {ok : Bool} (h : RepC c.μ c.β x v) : RepX c (lookX (some x) z ok) (if ok then .tuple #[v, .bool true] else v) := by
  cases ok with
  | false => exact h
  | true => exact ⟨_, rfl, .cons h (.cons (.t (.v rfl)) .nil)⟩
theorem lookX_none {c : Ctx} {z : Value} {ok : Bool} : RepX c (lookX none (constX z) ok) (if ok then .tuple #[z, .bool false] else z) := by
  have h := constX_rep (c := c) (u := z)
  generalize constX z = x at h
  cases x with
  | c x =>
    cases ok with
    | false => exact h
    | true => exact ⟨_, rfl, .cons h (.cons (.t (.v rfl)) .nil)⟩
  | _ => cases ok <;> trivial
section
variable {t kt et : TypeId} {x y z : Operand} {kk : KK} {es : List ME} {ck k d n : Nat} {kv zv : Value} {ok : Bool} {mo : Option C} {u : C}
theorem look_run (kl : KeyLaw P kt kk) (ho : o.op = .lookup t x y ok) (ht : P.underlying t = some (.map kt et)) (hz : zeroIs P et zv) (hy : keyX (s.eval y) = some kv) (hk : kok kk kv = true) (hm : mget kv es = mo)
    {c : Ctx} {w : World} {a : Act} {b : Nat} (hx : a.eval x = .map (some b)) (ho' : ∃ ents, w.heap[b]? = some (.map ents ck) ∧ MapRep c kk es ck ents) (hrep : ∀ y, y ∈ o.op.operands → RepX c (s.eval y) (a.eval y)) :
    ∃ v, (execOp a.eval o).run P w = .ok (.value v) w ∧ RepX c (lookX mo (constX zv) ok) v := by
  obtain ⟨ents, hb, hr⟩ := ho'
  have hkv := keyX_rep (hrep y (by rw [ho]; simp [Op.operands])) hy
  rcases hr.lookup hb ht kl hk hz ok with ⟨h1, h2⟩ | ⟨x', v, h1, h2, h3⟩
  · rw [h1] at hm; subst hm
    exact ⟨_, by simp [execOp, ho, hx, hkv, h2], lookX_none⟩
  · rw [h1] at hm; subst hm
    exact ⟨_, by simp [execOp, ho, hx, hkv, h3], lookX_some h2⟩
/-- a map with a name is looked into -/
theorem h_lookup (kl : KeyLaw P kt kk) (r : X) (ho : o.op = .lookup t x y ok) (ht : P.underlying t = some (.map kt et)) (hz : zeroIs P et zv) (hx : s.eval x = .c (.a (.mp k))) (hH : s.H k = some (.map kk es ck)) (hy : keyX (s.eval y) = some kv) (hk : kok kk kv = true) (hm : mget kv es = mo) (hr : lookX mo (constX zv) ok = r) (hd : inB o.dst s.n = true) :
    LR P o (.h :: lk o) (dstT o) s (s.put o.dst r) :=
  .q (pre := fun c w => ∃ b n, c.β k = some (b, n) ∧ ORep c w (.map kk es ck) b n) ⟨fun d e => by (rw [← hr, lookX_loc] at e; cases e), fun c w a hm' ⟨b, n, hb, hp⟩ hrep => by
    have h0 := hrep x (by rw [ho]; simp [Op.operands])
    rw [hx] at h0
    have hv : a.eval x = .map (some b) := by
      generalize a.eval x = v at h0
      cases h0 with | mp h => rw [hb] at h; cases h; rfl
    obtain ⟨v, h1, h2⟩ := look_run (s := s) kl ho ht hz hy hk hm hv hp hrep
    unfold Oper.wp
    rw [h1]
    exact ⟨v, c, rfl, by rw [← hr]; exact h2, .refl hm'⟩⟩ (fun ℓ h => by simp [lk, h]) hd
    fun s1 hs c a w g => by
      have hb : s1.H k = some (.map kk es ck) := Eq.trans (congrFun (hs .h (by simp)) k) hH
      exact g.conc.obj (.e k) _ hb (by simp [AO.empty])
/-- .. and written -/
theorem h_mapUpdate (kl : KeyLaw P kt kk) (hdst : o.dst = none) (ho : o.op = .mapUpdate t x y z) (ht : P.underlying t = some (.map kt et)) (hx : s.eval x = .c (.a (.mp k))) (hH : s.H k = some (.map kk es ck)) (hy : keyX (s.eval y) = some kv) (hk : kok kk kv = true) (hz : s.eval z = .c u) :
    LR P o (.h :: lk o) [.h] s (s.setOwn (.e k) (.map kk (mset kv u ck es) (mclock kv es ck))) :=
  h_put hdst hH (by simp [AO.empty]) fun c w a b n hm hb ⟨ents, h1, h2⟩ hrep => by
    have h0 := hrep x (by rw [ho]; simp [Op.operands])
    rw [hx] at h0
    have hv : a.eval x = .map (some b) := by
      generalize a.eval x = v at h0
      cases h0 with | mp h => rw [hb] at h; cases h; rfl
    have hkv := keyX_rep (hrep y (by rw [ho]; simp [Op.operands])) hy
    have h3 := hrep z (by rw [ho]; simp [Op.operands])
    rw [hz] at h3
    obtain ⟨ents', h4, h5⟩ := h2.set h1 ht kl hk h3
    exact ⟨.skip, _, by simp [execOp, ho, hv, hkv, h4], .inl rfl, OneBlk.setBlock _ _ _, map_nomem hm h1, ents', setBlock_at (Array.getElem?_eq_some_iff.1 h1).1, h5⟩
end
end
end Go.Proofs.YtnmfjojhgfipcaaGreatDoor.E
/- Loops over maps; calls that turn objects; tests for nil. Plain theorems, for any program. -/
namespace Go.Proofs.YtnmfjojhgfipcaaGreatDoor.E
open Go.RowKit
set_option linter.unusedVariables false

section
variable {P : Program} {all : Array Oper} {o : Oper} {s s' : S} {K : S → Prop} {rest : List Oper}
/-! ### calls -/
theorem Sat.call {c c' : Ctx} {s : S} {a : Act} {w w' : World} {H' : Heap} (g : Sat c s a w) (hc : Conc c' (ownH H') w') (hx : Ext c (ownH s.H) w c' (ownH H') w') :
    Sat { c' with lam := c.lam } ⟨s.n, s.t, s.L, H'⟩ a w' ∧ Ext c s.own w { c' with lam := c.lam } (S.own ⟨s.n, s.t, s.L, H'⟩) w' := by
  have sub : ∀ i x, ownH s.H i = some x → s.own i = some x := fun i x h => by cases i with
    | e k => exact h
    | l d => cases h
  -- the block of a variable of the call's own is nobody else's
  have loc : ∀ d y b n, s.L d = some y → ¬ y.empty → c.lam d = (b, n) → b < w.heap.size ∧ ∀ i x m, ownH s.H i = some x → ¬ x.empty → c.pos i ≠ some (b, m) := fun d y b n h he hl => by
    obtain ⟨b', n', h1, h2⟩ := g.conc.obj (.l d) y h he
    have h1 : some (c.lam d) = some (b', n') := h1
    rw [hl] at h1; injection h1 with h1; injection h1 with e1 e2; subst e1 e2
    refine ⟨h2.lt, fun i x m hi hx hp => ?_⟩
    have := g.conc.inj i (.l d) x y b m n (sub i x hi) h hx he hp (by show some (c.lam d) = _; rw [hl])
    subst this; cases hi
  have own' : ∀ i x, S.own ⟨s.n, s.t, s.L, H'⟩ i = some x → (ownH H' i = some x ∧ ∃ k, i = .e k) ∨ ∃ d, i = .l d ∧ s.L d = some x := fun i x h => by
    cases i with
    | e k => exact .inl ⟨h, k, rfl⟩
    | l d => exact .inr ⟨d, rfl, h⟩
  have fresh : ∀ i x b n d y m, ownH H' i = some x → ¬ x.empty → c'.pos i = some (b, n) → s.L d = some y → ¬ y.empty → c.lam d = (b, m) → False := fun i x b n d y m h1 h2 h3 h4 h5 h6 => by
    obtain ⟨h7, h8⟩ := loc d y b m h4 h5 h6
    rcases hx.own i x b n h1 h2 h3 with h9 | ⟨j, z, q, h9, h10, h11⟩
    · omega
    · exact h8 j z q h9 h10 h11
  refine ⟨⟨⟨hc.mem, fun i x hi he => ?_, fun i j x y b n m hi hj he hf hp hq => ?_, ?_, hc.tabw, fun tg cs th i x n hi hx' hp => by
    rcases own' i x hi with ⟨h1, k, rfl⟩ | ⟨d, rfl, h1⟩
    · exact hc.tabo tg cs th _ x n h1 hx' hp
    · exact g.conc.tabo tg cs th (.l d) x n h1 hx' hp⟩, g.size, fun i => ?_, by
    show DefOk c'.base a.defers w'
    exact g.defers.ext (g.conc.sub sub) hx, g.wf⟩, ⟨hx.os, hx.tape, hx.output, hx.size, fun b hb hn => hx.blk b hb fun i x n hi => hn i x n (sub i x hi), hx.mem, fun b o u h => ?_, hx.ext, fun i x b n hi he hp => ?_, hx.base, fun k y hk => hx.nm k y hk⟩⟩
  · rcases own' i x hi with ⟨h1, k, rfl⟩ | ⟨d, rfl, h1⟩
    · obtain ⟨b, n, h2, h3⟩ := hc.obj _ x h1 he
      exact ⟨b, n, h2, h3.keep rfl (fun _ _ _ h => h) (fun _ _ h => h) (fun _ _ h => h)⟩
    · obtain ⟨b, n, h2, h3⟩ := g.conc.obj (.l d) x h1 he
      have h2 : some (c.lam d) = some (b, n) := h2
      injection h2 with h2
      obtain ⟨h4, h5⟩ := loc d x b n h1 he h2
      refine ⟨b, n, by show some (c.lam d) = _; rw [h2], h3.keep (hx.blk b h4 fun i y m hi hy hp => h5 i y m hi hy hp) hx.mem (fun o u h => ?_) hx.ext⟩
      rcases hx.new b o u h with h6 | h6 | ⟨i, y, m, h6, h7, h8⟩
      · exact h6
      · omega
      · exact absurd h8 (h5 i y m h6 h7)
  · rcases own' i x hi with ⟨h1, k, rfl⟩ | ⟨d, rfl, h1⟩
    · rcases own' j y hj with ⟨h2, k', rfl⟩ | ⟨d, rfl, h2⟩
      · exact hc.inj _ _ x y b n m h1 h2 he hf hp hq
      · have hq : some (c.lam d) = some (b, m) := hq
        injection hq with hq
        exact (fresh _ x b n d y m h1 he hp h2 hf hq).elim
    · have hp : some (c.lam d) = some (b, n) := hp
      injection hp with hp
      rcases own' j y hj with ⟨h2, k', rfl⟩ | ⟨d', rfl, h2⟩
      · exact (fresh _ y b m d x n h2 hf hq h1 he hp).elim
      · exact g.conc.inj _ _ x y b n m h1 h2 he hf (by show some (c.lam d) = _; rw [hp]) hq
  · obtain ⟨N, hN⟩ := hc.fin
    exact ⟨N, hN⟩
  · exact RepX.mono (c := c) (c' := { c' with lam := c.lam }) hx.mem hx.ext rfl (g.tmps i)
  · rcases hx.new b o u h with h6 | h6 | ⟨i, y, m, h6, h7, h8⟩
    · exact .inl h6
    · exact .inr (.inl h6)
    · exact .inr (.inr ⟨i, y, m, sub i y h6, h7, h8⟩)
  · rcases own' i x hi with ⟨h1, k, rfl⟩ | ⟨d, rfl, h1⟩
    · rcases hx.own _ x b n h1 he hp with h2 | ⟨j, y, m, h2, h3, h4⟩
      · exact .inl h2
      · exact .inr ⟨j, y, m, sub j y h2, h3, h4⟩
    · exact .inr ⟨.l d, x, n, h1, he, hp⟩
theorem call_wp {f : FuncId} {ys : Array Operand} {ts : Array TypeId} {args : List C} {Q : X → Heap → Prop} {c : Ctx} {a : Act} {w : World} (g : Sat c s a w) (ho : o.op = .call { callee := .value (.func f), args := ys, argTypes := ts }) (hf : fnB P f = true) (ha : argsX s ys.toList = some args) (h : Spec P f args s.H Q) (hl : ∀ x H', Q x H' → x.loc = none) (hd : inB o.dst s.n = true) :
    o.wp P a w (fun a' w' => ∃ x H' c', Q x H' ∧ Sat c' ((⟨s.n, s.t, s.L, H'⟩ : S).put o.dst x) a' w' ∧ Ext c s.own w c' ((⟨s.n, s.t, s.L, H'⟩ : S).put o.dst x).own w') (fun _ _ _ => False) := by
  have hr : Reps (RepC c.μ c.β) args (ys.map a.eval).toList := by
    have := args_rep (c := c) (f := a.eval) ha fun y _ => g.eval y
    simpa using this
  have hc : Conc c (ownH s.H) w := g.conc.sub fun i x h => by cases i with
    | e k => exact h
    | l d => cases h
  have hcall := h c w (ys.map a.eval) hc hr
  have hrun : (execOp a.eval o).run P w = .ok (.enter f (ys.map a.eval)) w := by
    simp [execOp, ho, resolve, Act.eval, Deferred.ofValue, invoke, enter_run hf]
  unfold Oper.wp
  rw [hrun, Oper.upon_enter]
  refine hcall.mono ?_
  rintro e w' ⟨v, y, H', c', rfl, hq, hrx, hc', hx'⟩
  obtain ⟨g', x'⟩ := g.call hc' hx'
  exact ⟨y, H', _, hq, g'.put o.dst hd (hrx.relam (hl y H' hq)) (fun d e => by rw [hl y H' hq] at e; cases e), by rw [own_put]; exact x'⟩
theorem OpW.callE {f : FuncId} {ys : Array Operand} {ts : Array TypeId} {args : List C} {Q : X → Heap → Prop} {n d : Nat} {t : Nat → X} {L : Nat → Option AO} {H : Heap} (ho : o.op = .call { callee := .value (.func f), args := ys, argTypes := ts }) (hg : o.guard = none) (hdst : o.dst = some d) (hd : Nat.blt d n = true) (hf : fnB P f = true) (ha : argsX ⟨n, t, L, H⟩ ys.toList = some args) (h : Spec P f args H Q) (hl : ∀ x H', Q x H' → x.loc = none)
    (k : ∀ x H', Q x H' → K ⟨n, upd t d x, L, H'⟩) : OpW P all o K ⟨n, t, L, H⟩ := fun c a w g => by
  unfold opRun
  rw [if_pos (by simp [Region.wanted, hg])]
  refine wp_weak (call_wp g ho hf ha h hl (inb' hdst hd)) ?_
  rintro a' w' ⟨x, H', c', hq, g', x'⟩
  rw [hdst] at g' x'
  exact ⟨_, c', k x H' hq, g', x'⟩
theorem SeqK.callE {f : FuncId} {ys : Array Operand} {ts : Array TypeId} {args : List C} {Q : X → Heap → Prop} {n d : Nat} {t : Nat → X} {L : Nat → Option AO} {H : Heap} (ho : o.op = .call { callee := .value (.func f), args := ys, argTypes := ts }) (hg : o.guard = none) (hdst : o.dst = some d) (hd : Nat.blt d n = true) (hf : fnB P f = true) (ha : argsX ⟨n, t, L, H⟩ ys.toList = some args) (h : Spec P f args H Q) (hl : ∀ x H', Q x H' → x.loc = none)
    (k : ∀ x H', Q x H' → SeqK P all K rest ⟨n, upd t d x, L, H'⟩) : SeqK P all K (o :: rest) ⟨n, t, L, H⟩ := SeqK.any (OpW.callE ho hg hdst hd hf ha h hl k)
/-- a call that reads objects, and leaves them -/
theorem h_call {f : FuncId} {ys : Array Operand} {ts : Array TypeId} {args : List C} {x : X} (ho : o.op = .call { callee := .value (.func f), args := ys, argTypes := ts }) (hf : fnB P f = true) (ha : argsX s ys.toList = some args) (h : Spec P f args s.H fun y H' => y = x ∧ H' = s.H) (hx : x.loc = none) (hd : inB o.dst s.n = true) :
    LR P o (.h :: lk o) (dstT o) s (s.put o.dst x) := by
  refine ⟨put_len _ _ _, fun ℓ hℓ => put_out hℓ, fun s1 hl hs c a w g => ?_⟩
  unfold dstT
  rw [over_put]
  have hH : s1.H = s.H := hs .h (by simp)
  have ha1 : argsX s1 ys.toList = some args := by
    rw [← ha]
    have : ∀ l : List Operand, (∀ y ∈ l, y ∈ ys.toList) → argsX s1 l = argsX s l := by
      intro l
      induction l with
      | nil => intro _; rfl
      | cons y l ih =>
        intro hl'
        have e1 : s1.eval y = s.eval y := evs hs (fun _ h => List.mem_cons_of_mem _ h) (by rw [ho]; simp [Op.operands, Call.operands]; exact .inr (by simpa using hl' y (by simp)))
        simp only [argsX, e1, ih (fun z hz => hl' z (by simp [hz]))]
    exact this _ fun _ h => h
  refine wp_weak0 (call_wp g ho hf ha1 (Q := fun y H' => y = x ∧ H' = s.H) (by rw [hH]; exact h) (fun y H' e => by rw [e.1]; exact hx) (hl ▸ hd)) ?_
  rintro a' w' ⟨y, H', c', ⟨rfl, rfl⟩, g', x'⟩
  rw [← hH] at g' x'
  exact ⟨c', g', x'⟩
end
end Go.Proofs.YtnmfjojhgfipcaaGreatDoor.E
/- Loops over maps; tests for nil. Plain theorems, for any program. -/
namespace Go.Proofs.YtnmfjojhgfipcaaGreatDoor.E
open Go.RowKit
set_option linter.unusedVariables false

section
variable {P : Program} {all : Array Oper} {o : Oper} {s s' : S} {K : S → Prop} {rest : List Oper}
variable {t kt et : TypeId} {x y z : Operand} {kk : KK} {es : List ME} {ck k d r n since c0 : Nat} {seen : List Nat}
/-- 'range' over a map with a name -/
theorem l_range (ho : o.op = .range t x) (hdst : o.dst = some d) (ht : P.underlying t = some (.map kt et)) (hx : s.eval x = .c (.a (.mp k))) (hH : s.H k = some (.map kk es ck)) (hL : s.L d = none) (hd : inB o.dst s.n = true) :
    LR P o (.b d :: .h :: lk o) [.t d, .b d] s ((s.setOwn (.l d) (.iter k ck [] ck)).put (some d) (.lp d 0)) := by
  refine ⟨(setOwn_t s (.l d) (.iter k ck [] ck)).2, new_out, fun s1 hl hs c a w g => ?_⟩
  rw [over_new]
  have hL1 : s1.L d = none := Eq.trans (hs (.b d) (by simp)) hL
  have hH1 : s1.own (.e k) = some (.map kk es ck) := Eq.trans (congrFun (hs .h (by simp)) k) hH
  obtain ⟨b, nb, hb, ents, h1, h2⟩ := g.conc.obj (.e k) _ hH1 (by simp [AO.empty])
  have hb : c.β k = some (b, nb) := hb
  have hxv := g.eval x
  rw [evs hs (fun _ h => List.mem_cons_of_mem _ (List.mem_cons_of_mem _ h)) (by rw [ho]; simp [Op.operands]), hx] at hxv
  have hv : a.eval x = .map (some b) := by
    generalize a.eval x = v at hxv
    cases hxv with | mp h => rw [hb] at h; cases h; rfl
  have hrun : (execOp a.eval o).run P w = .ok (.value (.pointer (some ⟨w.heap.size, 0, none⟩))) (w.alloc (.mapIter (some b) ck #[] ck)) := by
    simp [execOp, ho, hv, Instr.range, run_underlying ht, MapKept.run_getObj_map h1]
  unfold Oper.wp
  rw [hrun]
  simp only [Oper.upon, hdst]
  obtain ⟨g', x'⟩ := g.newL (d := d) (x := .iter k ck [] ck) (n := 0) (Mk.alloc g.memOk (.mapIter (some b) ck #[] ck)) hL1 (Nat.le_refl _) ⟨b, nb, hb, heap_new w _⟩
  exact ⟨_, g'.put (some d) (by rw [hdst] at hd; have e : s1.n = s.n := hl; simpa [S.setOwn, e] using hd) (x := .lp d 0) (by simp [RepX, upd_same]) (fun d' e => by injection e with e; subst e; simp [S.setOwn, upd_same]), by rw [own_put]; exact x'⟩
def keyC : Value → C
  | .agg cs => .g (cs.toList.map litA)
  | u => .a (.t (.v u))
theorem keyC_rep {μ : Mem} {β : Pos} {kk : KK} {u : Value} (h : kok kk u = true) : RepC μ β (keyC u) u := by
  cases u with
  | agg cs =>
    cases kk with
    | ints q n =>
      simp only [kok, Bool.and_eq_true, List.all_eq_true] at h
      refine ⟨cs, rfl, by simp, fun i x v h1 h2 => ?_⟩
      rw [List.getElem?_map, h2] at h1
      simp only [Option.map_some, Option.some.injEq] at h1
      subst h1
      have := h.2 v (List.mem_of_getElem? h2)
      cases v <;> simp at this
      exact .t (.v rfl)
    | _ => simp [kok] at h
  | _ =>
    cases kk <;> simp [kok] at h
    all_goals exact RepA.t (.v rfl)
theorem leftOf_mem {ents : Array MapEntry} {seen : List Nat} {e : MapEntry} : e ∈ (leftOf ents seen.toArray).toList ↔ e ∈ ents.toList ∧ e.born ∉ seen := by
  simp [leftOf]
theorem mapIter_nomem {c : Ctx} {w : World} {b : Nat} {m : Option Nat} {i j : Nat} {a : Array Nat} (hm : MemOk c w) (hb : w.heap[b]? = some (.mapIter m i a j)) (q : Nat) : c.μ b q = none := by
  cases h : c.μ b q with
  | none => rfl
  | some u => have := hm.mem b q u h; simp [World.cell?, hb] at this
theorem OneBlk.drew (w : World) (b : Nat) (x : Obj) : OneBlk w (ChangeMaps.setBlock w.drew b x) b :=
  ⟨rfl, rfl, rfl, by simp [ChangeMaps.setBlock], fun j hj => by simp only [ChangeMaps.setBlock]; rw [Array.getElem?_setIfInBounds_ne (Ne.symm hj)]; rfl⟩
/-- the next entry, whichever it is -/
theorem OpW.next {T' : Nat → X} {L : Nat → Option AO} {H : Heap} (ho : o.op = .next x false) (hg : o.guard = none) (hdst : o.dst = some d) (hd : Nat.blt d n = true) (hx : S.eval ⟨n, T', L, H⟩ x = .lp r 0) (hL : L r = some (.iter k since seen c0)) (hH : H k = some (.map kk es ck)) (hs : ∀ m ∈ es, m.b < since) (hc : since ≤ c0)
    (hdone : (∀ m ∈ es, m.b ∈ seen) → K ⟨n, upd T' d (.tup [.a (.t (.v (.bool false)))]), L, H⟩)
    (hmore : ∀ m ∈ es, m.b ∉ seen → K ⟨n, upd T' d (.tup [.a (.t (.v (.bool true))), keyC m.k, m.x]), upd L r (some (.iter k since (seen ++ [m.b]) ck)), H⟩) : OpW P all o K ⟨n, T', L, H⟩ := by
  intro c a w g
  unfold opRun
  rw [if_pos (by simp [Region.wanted, hg])]
  refine wp_to ?_
  obtain ⟨b, nb, hb, ents, h1, h2⟩ := g.conc.obj (.e k) _ hH (by simp [AO.empty])
  have hb : c.β k = some (b, nb) := hb
  obtain ⟨rb, rn, hr, bm, nm, h3, h4⟩ := g.conc.obj (.l r) _ hL (by simp [AO.empty])
  have hrl : c.lam r = (rb, rn) := by injection hr
  rw [hb] at h3; injection h3 with h3; injection h3 with e1 e2; subst e1 e2
  have hxv := g.eval x
  rw [hx] at hxv
  have hxv : a.eval x = .pointer (some ⟨(c.lam r).1, 0, none⟩) := hxv
  rw [hrl] at hxv
  have hold : ∀ e ∈ ents.toList, e.born < since := fun e he => by
    obtain ⟨j, hj⟩ := List.getElem?_of_mem he
    obtain ⟨m, h5, _, h6, _⟩ := h2.at hj
    rw [h6]; exact hs m (List.mem_of_getElem? h5)
  rcases run_next_at (P := P) w o.type rb b since c0 seen.toArray ents ck h4 h1 hold hc with ⟨h5, hrun⟩ | ⟨e, he, w1, hw1, hrun⟩
  · have hall : ∀ m ∈ es, m.b ∈ seen := fun m hm => by
      obtain ⟨e, he, _, h6, _⟩ := h2.at' hm
      rcases Classical.em (m.b ∈ seen) with h | h
      · exact h
      · have : e ∈ (leftOf ents seen.toArray).toList := leftOf_mem.2 ⟨he, by rw [h6]; exact h⟩
        rw [Array.eq_empty_of_size_eq_zero h5] at this
        simp at this
    unfold Oper.wp
    simp only [execOp, ho, hxv, Sem.run_bind, hrun, Result.andThen_ok, Sem.run_pure, Oper.upon]
    refine ⟨_, c, hdone hall, ?_, .refl _ _ _⟩
    have := g.put (some d) (x := .tup [.a (.t (.v (.bool false)))]) (v := .tuple #[.bool false]) (by simpa [inB] using inb hd) ⟨_, rfl, .cons (.t (.v rfl)) .nil⟩ (fun _ h => by cases h)
    rw [hdst]; exact this
  · obtain ⟨he1, he2⟩ := leftOf_mem.1 he
    obtain ⟨j, hj⟩ := List.getElem?_of_mem he1
    obtain ⟨m, h5, h6, h7, h8⟩ := h2.at hj
    have hm := List.mem_of_getElem? h5
    have hone : OneBlk w (ChangeMaps.setBlock w1 rb (.mapIter (some b) since (seen.toArray.push e.born) ck)) rb := by
      rcases hw1 with rfl | rfl
      · exact .setBlock _ _ _
      · exact .drew _ _ _
    have hrlt : rb < w.heap.size := (Array.getElem?_eq_some_iff.1 h4).1
    have hat : (ChangeMaps.setBlock w1 rb (.mapIter (some b) since (seen.toArray.push e.born) ck)).heap[rb]? = some (.mapIter (some b) since (seen.toArray.push e.born) ck) := by
      rcases hw1 with rfl | rfl
      · exact setBlock_at hrlt
      · exact setBlock_at hrlt
    obtain ⟨g', x'⟩ := g.write (c' := c) (w' := ChangeMaps.setBlock w1 rb (.mapIter (some b) since (seen.toArray.push e.born) ck)) (i := .l r) (x' := .iter k since (seen ++ [m.b]) ck) hL (by simp [AO.empty]) hr hone.os hone.tape hone.output hone.size hone.blk rfl rfl (fun _ _ _ h => h) (fun _ _ _ h => .inl h) (fun o u h => by rw [mapIter_nomem g.memOk h4 o] at h; cases h)
      ⟨b, nb, hb, by rw [hat, h7]; simp⟩
    unfold Oper.wp
    simp only [execOp, ho, hxv, Sem.run_bind, hrun, Result.andThen_ok, Sem.run_pure, Oper.upon]
    refine ⟨_, c, hmore m hm (by rw [← h7]; exact he2), ?_, x'⟩
    have := g'.put (some d) (x := .tup [.a (.t (.v (.bool true))), keyC m.k, m.x]) (v := .tuple #[.bool true, e.key, e.val]) (by have h9 := inb' (o := o) hdst hd; rw [hdst] at h9; exact h9) ⟨_, rfl, .cons (.t (.v rfl)) (.cons (by rw [h6]; exact keyC_rep (h2.key m hm)) (.cons h8 .nil))⟩ (fun _ h => by cases h)
    rw [hdst]; exact this
theorem SeqK.next {T' : Nat → X} {L : Nat → Option AO} {H : Heap} (ho : o.op = .next x false) (hg : o.guard = none) (hdst : o.dst = some d) (hd : Nat.blt d n = true) (hx : S.eval ⟨n, T', L, H⟩ x = .lp r 0) (hL : L r = some (.iter k since seen c0)) (hH : H k = some (.map kk es ck)) (hs : ∀ m ∈ es, m.b < since) (hc : since ≤ c0)
    (hdone : (∀ m ∈ es, m.b ∈ seen) → SeqK P all K rest ⟨n, upd T' d (.tup [.a (.t (.v (.bool false)))]), L, H⟩)
    (hmore : ∀ m ∈ es, m.b ∉ seen → SeqK P all K rest ⟨n, upd T' d (.tup [.a (.t (.v (.bool true))), keyC m.k, m.x]), upd L r (some (.iter k since (seen ++ [m.b]) ck)), H⟩) : SeqK P all K (o :: rest) ⟨n, T', L, H⟩ := SeqK.any (OpW.next ho hg hdst hd hx hL hH hs hc hdone hmore)
theorem l_entry {m : ME} (ho : o.op = .entry x) (hx : s.eval x = .lp r 0) (hL : s.L r = some (.iter k since (seen ++ [m.b]) ck)) (hH : s.H k = some (.map kk es ck)) (hm : m ∈ es) (hd : inB o.dst s.n = true) :
    LR P o (.b r :: .h :: lk o) (dstT o) s (s.put o.dst (.tup [keyC m.k, m.x])) :=
  .q (pre := fun c w => ORep c w (.iter k since (seen ++ [m.b]) ck) (c.lam r).1 (c.lam r).2 ∧ ∃ b n, c.β k = some (b, n) ∧ ORep c w (.map kk es ck) b n) (.of_same (fun _ h => by cases h) fun c w a hmm hp hrep => by
    have h0 := hrep x (by rw [ho]; simp [Op.operands])
    rw [hx] at h0
    have h0 : a.eval x = .pointer (some ⟨(c.lam r).1, 0, none⟩) := h0
    obtain ⟨⟨bm, nm, h1, h2⟩, b, nb, hb, ents, h3, h4⟩ := hp
    rw [hb] at h1; injection h1 with h1; injection h1 with e1 e2; subst e1 e2
    obtain ⟨e, he, h5, h6, h7⟩ := h4.at' hm
    have hnd : (ents.toList.map (·.born)).Nodup := by
      have : ents.toList.map (·.born) = es.map (·.b) := by
        apply List.ext_getElem?
        intro i
        rw [List.getElem?_map, List.getElem?_map]
        cases h8 : ents.toList[i]? with
        | none =>
          have : es[i]? = none := by
            rw [List.getElem?_eq_none_iff] at h8 ⊢
            rw [h4.len]; simpa using h8
          rw [this]; rfl
        | some e' =>
          obtain ⟨m', h9, _, h10, _⟩ := h4.at h8
          rw [h9]; simp [h10]
      rw [this]; exact h4.inj
    have hrun := run_entry_at (P := P) w (c.lam r).1 b since seen.toArray ents ck e (by rw [h2, h6]; simp) h3 he hnd
    refine ⟨.tuple #[e.key, e.val], by simp only [execOp, ho, h0, Sem.run_bind, hrun]; rfl, _, rfl, .cons (by rw [h5]; exact keyC_rep (h4.key m hm)) (.cons h7 .nil)⟩) (fun ℓ h => by simp [lk, h]) hd
    fun s1 hs c a w g => by
      have hb : s1.L r = some (.iter k since (seen ++ [m.b]) ck) := Eq.trans (hs (.b r) (by simp)) hL
      obtain ⟨b, n, h1, h2⟩ := g.conc.obj (.l r) _ hb (by simp [AO.empty])
      injection h1 with h1
      have hb2 : s1.H k = some (.map kk es ck) := Eq.trans (congrFun (hs .h (by simp)) k) hH
      exact ⟨by rw [h1]; exact h2, g.conc.obj (.e k) _ hb2 (by simp [AO.empty])⟩

/-! ### tests for nil -/
inductive NK where
  | sl | mp | pt | fn
theorem bool_eqIn {a b : Bool} (ty : P.underlying t = some .bool) (w : World) (dd : Nat) : (Op.equalIn (dd + 1) t (.bool a) (.bool b)).run P w = .ok (a == b) w := by
  unfold Op.equalIn
  rw [Sem.run_bind, run_underlying ty, Result.andThen_ok]
  rfl
theorem bool_eq {a b : Bool} (ty : P.underlying t = some .bool) (w : World) : (Op.equal t (.bool a) (.bool b)).run P w = .ok (a == b) w := bool_eqIn ty w 9999
theorem q_eqlB {u : TypeId} {a b : Bool} (ho : o.op = .binOp .eql t x y u) (ty : P.underlying t = some .bool) (hx : s.eval x = bX a) (hy : s.eval y = bX b) : QV P o s (bX (decide (a = b))) :=
  q_bin ho hx hy rfl fun w => by
    have : (eqGuard .eql t x y (.bool a) (.bool b)).run P w = .ok () w := by unfold eqGuard; split <;> rfl
    rw [Sem.run_bind, this]
    simp only [Result.andThen_ok, binOp, Sem.run_bind, bool_eq ty, Sem.run_pure]
    cases a <;> cases b <;> rfl
end
end Go.Proofs.YtnmfjojhgfipcaaGreatDoor.E
/- More steps on a state that is written out. Plain theorems, for any program. -/
namespace Go.Proofs.YtnmfjojhgfipcaaGreatDoor.E
open Go.RowKit
set_option linter.unusedVariables false
section
variable {P : Program} {all : Array Oper} {o : Oper} {K : S → Prop} {rest : List Oper} {p : Nat} {fp : List Fp} {R W : List Loc} {n d : Nat} {t : Nat → X} {L : Nat → Option AO} {H H' : Heap} {x : X}
/-- a value that nobody keeps -/
theorem LOp.q0 {s : S} (h : QV P o s x) (hg : o.guard = none) (hdst : o.dst = none) : LOp P all o (lookT all o) (dstT o) s s := by
  have := LOp.q (all := all) h hg (by rw [hdst]; rfl)
  rw [hdst] at this
  exact this
theorem SeqK.q0 {s : S} (h : QV P o s x) (hg : o.guard = none) (hdst : o.dst = none) (k : SeqK P all K rest s) : SeqK P all K (o :: rest) s := .step (.q0 h hg hdst) k
theorem LexK.q0 {s : S} (h : QV P o s x) (hg : o.guard = none) (hdst : o.dst = none) (k : LexK P all K rest s p (fp ++ [(lookT all o, dstT o)])) : LexK P all K (o :: rest) s p fp := .cons (.q0 h hg hdst) k
section
variable {tt kt et : TypeId} {y z w : Operand} {kk : KK} {es : List ME} {ck k j : Nat} {kv zv : Value} {ok : Bool} {mo : Option C} {u : C} {r : X}
theorem g_lookup (kl : KeyLaw P kt kk) (ho : o.op = .lookup tt y z ok) (ht : P.underlying tt = some (.map kt et)) (hz : zeroIs P et zv) (hx : S.eval ⟨n, t, L, H⟩ y = .c (.a (.mp k))) (hH : H k = some (.map kk es ck)) (hy : keyX (S.eval ⟨n, t, L, H⟩ z) = some kv) (hk : kok kk kv = true) (hm : mget kv es = mo) (hr : lookX mo (constX zv) ok = r) (hdst : o.dst = some d) (hd : Nat.blt d n = true) :
    LR P o (.h :: lk o) (dstT o) ⟨n, t, L, H⟩ ⟨n, upd t d r, L, H⟩ := lr_cast (h_lookup kl r ho ht hz hx hH hy hk hm hr (inb' hdst hd)) (by rw [hdst]; rfl)
theorem g_mapUpdate (kl : KeyLaw P kt kk) (hdst : o.dst = none) (ho : o.op = .mapUpdate tt y z w) (ht : P.underlying tt = some (.map kt et)) (hx : S.eval ⟨n, t, L, H⟩ y = .c (.a (.mp k))) (hH : H k = some (.map kk es ck)) (hy : keyX (S.eval ⟨n, t, L, H⟩ z) = some kv) (hk : kok kk kv = true) (hz : S.eval ⟨n, t, L, H⟩ w = .c u) :
    LR P o (.h :: lk o) [.h] ⟨n, t, L, H⟩ ⟨n, t, L, upd H k (some (.map kk (mset kv u ck es) (mclock kv es ck)))⟩ := h_mapUpdate kl hdst ho ht hx hH hy hk hz
theorem b_range (ho : o.op = .range tt y) (hdst : o.dst = some d) (ht : P.underlying tt = some (.map kt et)) (hx : S.eval ⟨n, t, L, H⟩ y = .c (.a (.mp k))) (hH : H k = some (.map kk es ck)) (hL : L d = none) (hd : Nat.blt d n = true) :
    LR P o (.b d :: .h :: lk o) [.t d, .b d] ⟨n, t, L, H⟩ ⟨n, upd t d (.lp d 0), upd L d (some (.iter k ck [] ck)), H⟩ := l_range ho hdst ht hx hH hL (inb' hdst hd)
theorem b_entry {m : ME} {since : Nat} {seen : List Nat} (ho : o.op = .entry y) (hx : S.eval ⟨n, t, L, H⟩ y = .lp j 0) (hL : L j = some (.iter k since (seen ++ [m.b]) ck)) (hH : H k = some (.map kk es ck)) (hm : m ∈ es) (hdst : o.dst = some d) (hd : Nat.blt d n = true) :
    LR P o (.b j :: .h :: lk o) (dstT o) ⟨n, t, L, H⟩ ⟨n, upd t d (.tup [keyC m.k, m.x]), L, H⟩ := lr_cast (l_entry ho hx hL hH hm (inb' hdst hd)) (by rw [hdst]; rfl)
end
section
variable {f : FuncId} {ys : Array Operand} {ts : Array TypeId} {args : List C}
theorem g_call {x : X} (ho : o.op = .call { callee := .value (.func f), args := ys, argTypes := ts }) (hf : fnB P f = true) (ha : argsX ⟨n, t, L, H⟩ ys.toList = some args) (h : Spec P f args H fun y H' => y = x ∧ H' = H) (hx : x.loc = none) (hdst : o.dst = some d) (hd : Nat.blt d n = true) :
    LR P o (.h :: lk o) (dstT o) ⟨n, t, L, H⟩ ⟨n, upd t d x, L, H⟩ := lr_cast (h_call ho hf ha h hx (inb' hdst hd)) (by rw [hdst]; rfl)
theorem LexK.callE {Q : X → Heap → Prop} (ho : o.op = .call { callee := .value (.func f), args := ys, argTypes := ts }) (hg : o.guard = none) (hdst : o.dst = some d) (hd : Nat.blt d n = true) (hf : fnB P f = true) (ha : argsX ⟨n, t, L, H⟩ ys.toList = some args) (h : Spec P f args H Q) (hl : ∀ x H', Q x H' → x.loc = none) (hok : okFp all p fp = true) (hb : okBar all p (p + fp.length) = true)
    (k : ∀ x H', Q x H' → LexK P all K rest ⟨n, upd t d x, L, H'⟩ (p + fp.length + 1) []) : LexK P all K (o :: rest) ⟨n, t, L, H⟩ p fp := .bar hok hb (OpW.callE ho hg hdst hd hf ha h hl k)
end
section
variable {tt et : TypeId} {y z : Operand} {agg : Bool} {m k off sz : Nat} {cells r : List A} {c : C}
end
/-! ### steps of the proof alone -/
theorem AW.tip {cd : Code} {Q : Exit → S → Prop} (i : Nat) (e sz : Nat) (hi : t i = tv (.slice none 0 0)) (k : ∀ k, H k = none → AW P cd Q ⟨n, upd t i (.c (.a (.ts k .ne sz []))), L, upd H k (some (.tip e sz 0))⟩) : AW P cd Q ⟨n, t, L, H⟩ :=
  AW.gh (Gh.tip i e sz hi) fun s' ⟨k', h1, h2⟩ => h2 ▸ k k' h1
theorem AW.row {cd : Code} {Q : Exit → S → Prop} (i : Nat) (e sz : Nat) (hi : t i = tv (.slice none 0 0)) (k : ∀ k, H k = none → AW P cd Q ⟨n, upd t i (.c (.a (.os k 0 0 sz))), L, upd H k (some (.row e sz []))⟩) : AW P cd Q ⟨n, t, L, H⟩ :=
  AW.gh (Gh.row i e sz hi) fun s' ⟨k', h1, h2⟩ => h2 ▸ k k' h1
theorem AW.freeze {cd : Code} {Q : Exit → S → Prop} (k sz : Nat) (e : TypeId) (es : List (List T)) (hk : H k = some (.row e sz (es.flatten.map .t))) (hl : ∀ e ∈ es, e.length = sz) (h0 : 0 < sz) (k' : AW P cd Q ⟨n, fun i => fzX k sz es (t i), L, upd H k none⟩) : AW P cd Q ⟨n, t, L, H⟩ :=
  AW.gh (Gh.freeze k sz e es hk hl h0) fun s' h2 => h2 ▸ k'
theorem OpW.tip (i : Nat) (e sz : Nat) (hi : t i = tv (.slice none 0 0)) (k : ∀ k, H k = none → OpW P all o K ⟨n, upd t i (.c (.a (.ts k .ne sz []))), L, upd H k (some (.tip e sz 0))⟩) : OpW P all o K ⟨n, t, L, H⟩ :=
  OpW.gh (Gh.tip i e sz hi) fun s' ⟨k', h1, h2⟩ => h2 ▸ k k' h1
theorem SeqK.tip (i : Nat) (e sz : Nat) (hi : t i = tv (.slice none 0 0)) (k : ∀ k, H k = none → SeqK P all K (o :: rest) ⟨n, upd t i (.c (.a (.ts k .ne sz []))), L, upd H k (some (.tip e sz 0))⟩) : SeqK P all K (o :: rest) ⟨n, t, L, H⟩ := OpW.tip i e sz hi k
theorem OpW.r {s s' : S} (h : LR P o R W s s') (hg : o.guard = none) (k : K s') : OpW P all o K s := (LOp.r (all := all) h hg).opW k
end
end Go.Proofs.YtnmfjojhgfipcaaGreatDoor.E
/- Calls under a guard; min and max. Plain theorems, for any program. -/
namespace Go.Proofs.YtnmfjojhgfipcaaGreatDoor.E
open Go.RowKit
set_option linter.unusedVariables false
section
variable {P : Program} {all : Array Oper} {o : Oper} {s : S} {K : S → Prop} {rest : List Oper} {p : Nat} {fp : List Fp} {n d : Nat} {t : Nat → X} {L : Nat → Option AO} {H : Heap}
section
variable {ts : Array TypeId} {x y : Operand} {k : IntKind} {a b : Int} {u v : ByteArray}
end
end
end Go.Proofs.YtnmfjojhgfipcaaGreatDoor.E
/- Empty slices; tests that memory decides. Plain theorems, for any program. -/
namespace Go.Proofs.YtnmfjojhgfipcaaGreatDoor.E
open Go.RowKit
set_option linter.unusedVariables false
theorem upd_sub {α : Type} {f : Nat → Option α} {k : Nat} {x : Option α} (h : f k = none) : ∀ j o, f j = some o → upd f k x j = some o := fun j o hj => by
  rw [upd_ne _ _ (fun e => by rw [e, h] at hj; cases hj)]; exact hj
/-- what is known may be forgotten -/
def XW (x y : X) : Prop := y.loc = none ∧ ∀ c v, RepX c x v → RepX c y v
theorem XW.nil {sz : Nat} : XW (tv (.slice none 0 0)) (.c (.a (.t (.sl .ne sz [])))) := ⟨rfl, fun c v h => by
  have := rep_tv h; subst this; exact RepA.t (.nil (by simp))⟩
theorem XW.nilU {sz : Nat} : XW (tv (.slice none 0 0)) (.c (.a (.t (.sl .un sz [])))) := ⟨rfl, fun c v h => by
  have := rep_tv h; subst this; exact RepA.t (.nil (by simp))⟩
theorem XW.un {z : Nz} {sz : Nat} {es : List (List T)} : XW (.c (.a (.t (.sl z sz es)))) (.c (.a (.t (.sl .un sz es)))) := ⟨rfl, fun c v h => by
  cases h with | t h => exact RepA.t h.forget⟩
theorem XW.ts {k : Nat} {z : Nz} {sz : Nat} {es : List (List T)} : XW (.c (.a (.ts k z sz es))) (.c (.a (.t (.sl z sz es)))) := ⟨rfl, fun c v h => aw_rep (x := .ts k z sz es) h⟩
theorem XW.any {x : X} : XW x .any := ⟨rfl, fun _ _ _ => trivial⟩
section
variable {P : Program} {all : Array Oper} {o : Oper} {s s' : S} {K : S → Prop} {rest : List Oper} {cd : Code} {Q : Exit → S → Prop} {n d : Nat} {t : Nat → X} {L : Nat → Option AO} {H : Heap}
theorem Wk.xw (i : Nat) {x y : X} (hi : t i = x) (h : XW x y) : Wk ⟨n, t, L, H⟩ ⟨n, upd t i y, L, H⟩ := fun c a w g =>
  ⟨c, g.reT (h.2 c _ (by have := g.tmps i; simp only [hi] at this; exact this)) h.1, .refl _ _ _⟩
theorem AW.xw (i : Nat) {x y : X} (hi : t i = x) (h : XW x y) (k : AW P cd Q ⟨n, upd t i y, L, H⟩) : AW P cd Q ⟨n, t, L, H⟩ := .wk (.xw i hi h) k
end
end Go.Proofs.YtnmfjojhgfipcaaGreatDoor.E
/- Variables of the call's own, seen anew; a rule for what else there is. Plain theorems, for any program. -/
namespace Go.Proofs.YtnmfjojhgfipcaaGreatDoor.E
open Go.RowKit
set_option linter.unusedVariables false
section
variable {P : Program} {cd : Code} {Q : Exit → S → Prop} {n d : Nat} {t : Nat → X} {L : Nat → Option AO} {H : Heap}
theorem Sat.reL {c : Ctx} {a : Act} {w : World} {x x' : AO} (g : Sat c ⟨n, t, L, H⟩ a w) (hd : L d = some x) (hx : ¬ x.empty) (h : ∀ b m, ORep c w x b m → ORep c w x' b m) : Sat c ⟨n, t, upd L d (some x'), H⟩ a w ∧ Ext c (S.own ⟨n, t, L, H⟩) w c (S.own ⟨n, t, upd L d (some x'), H⟩) w := by
  have own' : ∀ i y, S.own ⟨n, t, upd L d (some x'), H⟩ i = some y → (i = .l d ∧ y = x') ∨ (i ≠ .l d ∧ S.own ⟨n, t, L, H⟩ i = some y) := fun i y hi => by
    cases i with
    | e k => exact .inr ⟨by simp, hi⟩
    | l e =>
      have hi : upd L d (some x') e = some y := hi
      by_cases h : e = d
      · subst h; rw [upd_same] at hi; exact .inl ⟨rfl, by injection hi with hi; exact hi.symm⟩
      · rw [upd_ne _ _ h] at hi; exact .inr ⟨by simpa using h, hi⟩
  have old : ∀ i y, S.own ⟨n, t, upd L d (some x'), H⟩ i = some y → ¬ y.empty → ∃ z, S.own ⟨n, t, L, H⟩ i = some z ∧ ¬ z.empty := fun i y hi hy => by
    rcases own' i y hi with ⟨rfl, rfl⟩ | ⟨_, h⟩
    · exact ⟨x, hd, hx⟩
    · exact ⟨y, h, hy⟩
  refine ⟨⟨⟨g.conc.mem, fun i y hi hy => ?_, fun i j y z b n1 n2 hi hj hy hz h1 h2 => ?_, ?_, g.conc.tabw, fun tg cs th i y n1 hi hy h1 => by
    obtain ⟨y', h3, h4⟩ := old i y hi hy
    exact g.conc.tabo tg cs th i y' n1 h3 h4 h1⟩, g.size, g.tmps, g.defers, fun i e hi => ?_⟩, ⟨rfl, rfl, rfl, Nat.le_refl _, fun _ _ _ => rfl, fun _ _ _ h => h, fun _ _ _ h => .inl h, fun _ _ h => h, fun i y b n1 hi hy h1 => ?_, rfl, fun k y hk => .inl (by have hk : H k = some y := hk; show H k ≠ none; rw [hk]; simp)⟩⟩
  · rcases own' i y hi with ⟨rfl, rfl⟩ | ⟨_, h1⟩
    · obtain ⟨b, m, h2, h3⟩ := g.conc.obj (.l d) x hd hx
      exact ⟨b, m, h2, h b m h3⟩
    · exact g.conc.obj i y h1 hy
  · obtain ⟨y', h3, h4⟩ := old i y hi hy
    obtain ⟨z', h5, h6⟩ := old j z hj hz
    exact g.conc.inj i j y' z' b n1 n2 h3 h5 h4 h6 h1 h2
  · exact g.conc.fin
  · show upd L d (some x') e ≠ none
    by_cases h : e = d
    · subst h; rw [upd_same]; simp
    · rw [upd_ne _ _ h]; exact g.wf i e hi
  · obtain ⟨y', h3, h4⟩ := old i y hi hy
    exact .inr ⟨i, y', n1, h3, h4, h1⟩
theorem Gh.tipL (d i : Nat) (e sz : Nat) {cells : List A} (hd : L d = some (.box cells)) (hi : cells[i]? = some (.t (.v (.slice none 0 0)))) : Gh ⟨n, t, L, H⟩ fun s' => ∃ k, H k = none ∧ s' = ⟨n, t, upd L d (some (.box (cells.set i (.ts k .ne sz [])))), upd H k (some (.tip e sz 0))⟩ := by
  intro c a w g
  obtain ⟨k, h1, h2, h3⟩ := g.add0 (x := .tip e sz 0) rfl
  obtain ⟨h4, h5⟩ := h2.reL (x' := .box (cells.set i (.ts k .ne sz []))) hd (by simp [AO.empty]) fun b m ⟨us, ty, q1, q2, q3⟩ => by
    refine ⟨us, ty, q1, ?_, q3⟩
    obtain ⟨v, hv, hr⟩ := q2.get hi
    have hv' : v = .slice none 0 0 := by cases hr with | t h => cases h; rfl
    subst hv'
    have := q2.set i (x := .ts k .ne sz []) (v := .slice none 0 0) .ts0
    have e1 : us.toList.set i (.slice none 0 0) = us.toList := by
      apply List.ext_getElem?
      intro j
      rw [List.getElem?_set]
      split
      · rename_i hij; subst hij
        split
        · exact hv.symm
        · rename_i hh; rw [List.getElem?_eq_none (by omega)]
      · rfl
    rwa [e1] at this
  exact ⟨_, c, ⟨k, h1, rfl⟩, h4, h3.trans h5⟩
theorem AW.tipL (d i : Nat) (e sz : Nat) {cells : List A} (hd : L d = some (.box cells)) (hi : cells[i]? = some (.t (.v (.slice none 0 0)))) (k : ∀ k, H k = none → AW P cd Q ⟨n, t, upd L d (some (.box (cells.set i (.ts k .ne sz [])))), upd H k (some (.tip e sz 0))⟩) : AW P cd Q ⟨n, t, L, H⟩ :=
  AW.gh (Gh.tipL d i e sz hd hi) fun s' ⟨k', h1, h2⟩ => h2 ▸ k k' h1
end
end Go.Proofs.YtnmfjojhgfipcaaGreatDoor.E
/- Structs built, reckoned in one pass. Plain theorems, for any program. -/
namespace Go.Proofs.YtnmfjojhgfipcaaGreatDoor.E
open Go.RowKit
set_option linter.unusedVariables false
section
variable {α : Type}
def buildA : List (Nat × Nat) → Nat → List α → List (Nat × List α) → Option (List α)
  | [], _, z, [] => match z with | [] => some [] | _ => none
  | [], _, _, _ :: _ => none
  | (_, sz) :: pl, i, z, [] => match buildA pl (i + 1) (z.drop sz) [] with | some r => some (z.take sz ++ r) | none => none
  | (_, sz) :: pl, i, z, (j, v) :: ps => bif Nat.beq j i then (bif Nat.beq v.length sz then (match buildA pl (i + 1) (z.drop sz) ps with | some r => some (v ++ r) | none => none) else none)
    else (match buildA pl (i + 1) (z.drop sz) ((j, v) :: ps) with | some r => some (z.take sz ++ r) | none => none)
def contB : List (Nat × Nat) → Nat → Nat → Bool
  | [], o, n => Nat.beq o n
  | (off, sz) :: pl, o, n => Nat.beq off o && contB pl (o + sz) n
theorem splice_mid {pre z v : List α} (h : v.length ≤ z.length) : splice (pre ++ z) pre.length v = pre ++ v ++ z.drop v.length := by
  simp [splice, List.take_append, List.drop_append]
theorem fill_buildA {pl0 : List (Nat × Nat)} : ∀ (pl : List (Nat × Nat)) (i : Nat) (pre z : List α) (ps : List (Nat × List α)) (r : List α), pl0.drop i = pl → contB pl pre.length (pre.length + z.length) = true → buildA pl i z ps = some r → fillA pl0 (pre ++ z) ps = some (pre ++ r)
  | [], i, pre, z, [], r, h0, hc, h => by
    cases z with
    | nil => cases h; rfl
    | cons => cases h
  | [], i, pre, z, _ :: _, r, h0, hc, h => by cases h
  | (off, sz) :: pl, i, pre, z, ps, r, h0, hc, h => by
    simp only [contB, Bool.and_eq_true] at hc
    have ho := Nat.eq_of_beq_eq_true hc.1
    have hz : sz ≤ z.length := by
      have key : ∀ (pl : List (Nat × Nat)) (o n : Nat), contB pl o n = true → o ≤ n := by
        intro pl
        induction pl with
        | nil => intro o n h; exact Nat.le_of_eq (Nat.eq_of_beq_eq_true h)
        | cons p pl ih => intro o n h; simp only [contB, Bool.and_eq_true] at h; have := ih _ _ h.2; omega
      have := key _ _ _ hc.2; omega
    have hpl : pl0[i]? = some (off, sz) := by
      have : (pl0.drop i)[0]? = some (off, sz) := by rw [h0]; rfl
      simpa using this
    have hd : pl0.drop (i + 1) = pl := by
      have : (pl0.drop i).drop 1 = pl := by rw [h0]; rfl
      rw [List.drop_drop] at this; exact this
    have keep : ∀ ps r', buildA pl (i + 1) (z.drop sz) ps = some r' → fillA pl0 (pre ++ z) ps = some (pre ++ (z.take sz ++ r')) := fun ps r' h => by
      have := fill_buildA pl (i + 1) (pre ++ z.take sz) (z.drop sz) ps r' hd (by rw [List.length_append, List.length_take, List.length_drop, Nat.min_eq_left hz, ← Nat.add_sub_assoc hz, Nat.add_right_comm, Nat.add_sub_cancel]; exact hc.2) h
      rw [List.append_assoc, List.take_append_drop] at this
      rw [this, List.append_assoc]
    cases ps with
    | nil =>
      simp only [buildA] at h
      cases h1 : buildA pl (i + 1) (z.drop sz) [] with
      | none => rw [h1] at h; cases h
      | some r' => rw [h1] at h; cases h; exact keep _ _ h1
    | cons p ps =>
      obtain ⟨j, v⟩ := p
      simp only [buildA] at h
      cases hj : Nat.beq j i with
      | false =>
        rw [hj] at h
        simp only [cond_false] at h
        cases h1 : buildA pl (i + 1) (z.drop sz) ((j, v) :: ps) with
        | none => rw [h1] at h; cases h
        | some r' => rw [h1] at h; cases h; exact keep _ _ h1
      | true =>
        rw [hj] at h
        have hj := Nat.eq_of_beq_eq_true hj
        subst hj
        simp only [cond_true] at h
        cases hv : Nat.beq v.length sz with
        | false => rw [hv] at h; cases h
        | true =>
          rw [hv] at h
          have hv := Nat.eq_of_beq_eq_true hv
          simp only [cond_true] at h
          cases h1 : buildA pl (j + 1) (z.drop sz) ps with
          | none => rw [h1] at h; cases h
          | some r' =>
            rw [h1] at h; cases h
            simp only [fillA, hpl]
            rw [if_pos ⟨hv, by rw [ho, List.length_append]; omega⟩, ho, splice_mid (by omega), hv]
            have := fill_buildA pl (j + 1) (pre ++ v) (z.drop sz) ps r' hd (by rw [List.length_append, hv, List.length_drop, ← Nat.add_sub_assoc hz, Nat.add_right_comm, Nat.add_sub_cancel]; exact hc.2) h1
            rw [this, List.append_assoc]
end
section
variable {P : Program} {o : Oper} {s : S}
theorem q_build2 {t : TypeId} {parts : Array (Nat × Operand)} {z : Value} {zs r : List A} (pl : List (Nat × Nat)) (ps : List (Nat × List A)) (ho : o.op = .build t parts) (hz : zeroIs P t z) (h1 : z.cells.toList.all Value.oneCell' = true) (hp : bplB P t pl = true)
    (hps : partsX s parts.toList = some ps) (hzs : z.cells.toList.map litA = zs) (hc : contB pl 0 zs.length = true) (hr : buildA pl 0 zs ps = some r) : QV P o s (.c (.g r)) :=
  q_build pl ps r ho hz h1 hp hps (by
    subst hzs
    have := fill_buildA (pl0 := pl) pl 0 [] _ ps r rfl (by simpa using hc) hr
    simpa using this)
end
end Go.Proofs.YtnmfjojhgfipcaaGreatDoor.E
/- Lists of entries: plain laws. -/
namespace Go.Proofs.YtnmfjojhgfipcaaGreatDoor.E
open Go.RowKit
set_option linter.unusedVariables false
structure MOk (kk : KK) (es : List ME) (ck : Nat) : Prop where
  key : ∀ m ∈ es, kok kk m.k = true
  born : ∀ m ∈ es, m.b < ck
  nodup : (es.map (·.k)).Nodup
  inj : (es.map (·.b)).Nodup
section
variable {kk : KK} {k k' : Value} {x : C} {ck : Nat} {es : List ME}
theorem MOk.nil : MOk kk [] 0 := ⟨fun _ h => by simp at h, fun _ h => by simp at h, by simp, by simp⟩
theorem keq_refl (hk : kok kk k = true) : keq k k = true := (keq_iff hk hk).2 rfl
theorem mget_none (hk : kok kk k = true) (hs : ∀ m ∈ es, kok kk m.k = true) (h : mget k es = none) : ∀ m ∈ es, m.k ≠ k := by
  induction es with
  | nil => intro m hm; simp at hm
  | cons e es ih =>
    simp only [mget] at h
    cases hq : keq k e.k with
    | true => rw [hq] at h; cases h
    | false =>
      rw [hq] at h
      intro m hm
      rcases List.mem_cons.1 hm with rfl | hm
      · intro e1; rw [← e1, keq_refl (hs m (by simp))] at hq; cases hq
      · exact ih (fun m hm => hs m (by simp [hm])) h m hm
theorem mset_keys (hk : kok kk k = true) (hs : ∀ m ∈ es, kok kk m.k = true) : (mset k x ck es).map (·.k) = match mget k es with | some _ => es.map (·.k) | none => es.map (·.k) ++ [k] := by
  induction es with
  | nil => rfl
  | cons e es ih =>
    have ih := ih fun m hm => hs m (by simp [hm])
    simp only [mset, mget]
    cases h : keq k e.k with
    | true => have := (keq_iff hk (hs e (by simp))).1 h; subst this; rfl
    | false =>
      simp only [cond_false, List.map_cons, ih]
      cases mget k es <;> rfl
theorem mset_borns : (mset k x ck es).map (·.b) = match mget k es with | some _ => es.map (·.b) | none => es.map (·.b) ++ [ck] := by
  induction es with
  | nil => rfl
  | cons e es ih =>
    simp only [mset, mget]
    cases h : keq k e.k with
    | true => rfl
    | false =>
      simp only [cond_false, List.map_cons, ih]
      cases mget k es <;> rfl
theorem mem_mset {m : ME} (h : m ∈ mset k x ck es) : m ∈ es ∨ (m.k = k ∧ (m.b = ck ∨ ∃ e ∈ es, m.b = e.b)) := by
  induction es with
  | nil => simp [mset] at h; subst h; exact .inr ⟨rfl, .inl rfl⟩
  | cons e es ih =>
    simp only [mset] at h
    cases hq : keq k e.k with
    | true =>
      rw [hq] at h
      rcases List.mem_cons.1 h with rfl | h
      · exact .inr ⟨rfl, .inr ⟨e, by simp, rfl⟩⟩
      · exact .inl (by simp [h])
    | false =>
      rw [hq] at h
      rcases List.mem_cons.1 h with rfl | h
      · exact .inl (by simp)
      · rcases ih h with h | ⟨h1, h2 | ⟨e', h2, h3⟩⟩
        · exact .inl (by simp [h])
        · exact .inr ⟨h1, .inl h2⟩
        · exact .inr ⟨h1, .inr ⟨e', by simp [h2], h3⟩⟩
theorem MOk.set (h : MOk kk es ck) (hk : kok kk k = true) : MOk kk (mset k x ck es) (mclock k es ck) := by
  have hle : ck ≤ mclock k es ck := by unfold mclock; split <;> omega
  refine ⟨fun m hm => ?_, fun m hm => ?_, ?_, ?_⟩
  · rcases mem_mset hm with h1 | ⟨h1, _⟩
    · exact h.key m h1
    · rw [h1]; exact hk
  · cases hg : mget k es with
    | some y =>
      have hb := mset_borns (k := k) (x := x) (ck := ck) (es := es)
      rw [hg] at hb
      have : m.b ∈ (mset k x ck es).map (·.b) := List.mem_map.2 ⟨m, hm, rfl⟩
      rw [hb] at this
      obtain ⟨e, h1, h2⟩ := List.mem_map.1 this
      have := h.born e h1; omega
    | none =>
      have hc : mclock k es ck = ck + 1 := by simp [mclock, hg]
      rcases mem_mset hm with h1 | ⟨_, h1 | ⟨e, h1, h2⟩⟩
      · have := h.born m h1; omega
      · omega
      · have := h.born e h1; omega
  · rw [mset_keys hk h.key]
    cases hg : mget k es with
    | some y => exact h.nodup
    | none =>
      simp only
      rw [List.nodup_append]
      refine ⟨h.nodup, by simp, fun a ha b hb e => ?_⟩
      simp at hb; subst hb e
      obtain ⟨m, hm, e1⟩ := List.mem_map.1 ha
      exact mget_none hk h.key hg m hm e1
  · rw [mset_borns]
    cases hg : mget k es with
    | some y => exact h.inj
    | none =>
      simp only
      rw [List.nodup_append]
      refine ⟨h.inj, by simp, fun a ha b hb e => ?_⟩
      simp at hb; subst hb e
      obtain ⟨m, hm, e1⟩ := List.mem_map.1 ha
      have := h.born m hm; omega
end
end Go.Proofs.YtnmfjojhgfipcaaGreatDoor.E
/- What a call does not name stays. Plain theorems, for any program. -/
namespace Go.Proofs.YtnmfjojhgfipcaaGreatDoor.E
open Go.RowKit
set_option linter.unusedVariables false
open Classical in
theorem Spec.frame {P : Program} {f : FuncId} {args : List C} {H Hi : Heap} {Q : X → Heap → Prop} (h : Spec P f args Hi Q) (hs : ∀ k o, Hi k = some o → H k = some o) :
    Spec P f args H fun x H'' => ∃ H', Q x H' ∧ (∀ k o, H' k = some o → ¬ o.empty → H'' k = some o) ∧ (∀ k o, H k = some o → Hi k = none → ¬ o.empty → H'' k = some o) ∧ (∀ k o o', H' k = some o → ¬ o.empty → H k = some o' → Hi k = none → o'.empty) := by
  intro c w vs hc hr
  have sub : ∀ i x, ownH Hi i = some x → ownH H i = some x := fun i x hi => by cases i with
    | e k => exact hs k x hi
    | l d => cases hi
  refine (h c w vs (hc.sub sub) hr).mono ?_
  rintro e w' ⟨v, x, H', c', he, hq, hx, hc', hE⟩
  -- the rest
  let Hr : Heap := fun k => match Hi k, H k with | none, some o => if o.empty then none else some o | _, _ => none
  let Hn : Heap := fun k => match H' k with | some o => if o.empty then Hr k else some o | none => Hr k
  have hr1 : ∀ k o, Hr k = some o → H k = some o ∧ Hi k = none ∧ ¬ o.empty := fun k o hk => by
    simp only [Hr] at hk
    cases h1 : Hi k with
    | some y => rw [h1] at hk; cases hk
    | none =>
      rw [h1] at hk
      cases h2 : H k with
      | none => rw [h2] at hk; cases hk
      | some y =>
        rw [h2] at hk
        simp only at hk
        split at hk
        · cases hk
        · injection hk with hk; subst hk; exact ⟨rfl, rfl, by assumption⟩
  -- an object of the rest lies apart from what the call may turn
  have apart : ∀ k o b n, Hr k = some o → c.β k = some (b, n) → b < w.heap.size ∧ ∀ i y m, ownH Hi i = some y → ¬ y.empty → c.pos i ≠ some (b, m) := fun k o b n hk hb => by
    obtain ⟨h1, h2, h3⟩ := hr1 k o hk
    obtain ⟨b', n', h4, h5⟩ := hc.obj (.e k) o h1 h3
    have h4 : c.β k = some (b', n') := h4
    rw [hb] at h4; injection h4 with h4; injection h4 with e1 e2; subst e1 e2
    refine ⟨h5.lt, fun i y m hi hy hp => ?_⟩
    have := hc.inj i (.e k) y o b m n (sub i y hi) h1 hy h3 hp hb
    subst this
    have hi : Hi k = some y := hi
    rw [h2] at hi; cases hi
  have posr : ∀ k o, Hr k = some o → ∃ b n, c.β k = some (b, n) ∧ c'.β k = some (b, n) ∧ ORep c' w' o b n := fun k o hk => by
    obtain ⟨h1, h2, h3⟩ := hr1 k o hk
    obtain ⟨b, n, h4, h5⟩ := hc.obj (.e k) o h1 h3
    obtain ⟨h6, h7⟩ := apart k o b n hk h4
    refine ⟨b, n, h4, hE.ext k _ h4, h5.keep (hE.blk b h6 fun i y m hi hy => h7 i y m hi hy) hE.mem (fun q u hq => ?_) hE.ext⟩
    rcases hE.new b q u hq with h8 | h8 | ⟨i, y, m, h8, h9, h10⟩
    · exact h8
    · omega
    · exact absurd h10 (h7 i y m h8 h9)
  -- two names: one of the call's, one of the rest
  have clash : ∀ k k' o o' b n m, H' k = some o → ¬ o.empty → c'.β k = some (b, n) → Hr k' = some o' → c'.β k' = some (b, m) → False := fun k k' o o' b n m h1 h2 h3 h4 h5 => by
    obtain ⟨b', n', h6, h7, _⟩ := posr k' o' h4
    rw [h5] at h7; injection h7 with h7; injection h7 with e1 e2; subst e1 e2
    obtain ⟨h8, h9⟩ := apart k' o' b m h4 h6
    rcases hE.own (.e k) o b n h1 h2 h3 with h10 | ⟨j, y, q, h10, h11, h12⟩
    · omega
    · exact h9 j y q h10 h11 h12
  have own' : ∀ i y, ownH Hn i = some y → ¬ y.empty ∧ (ownH H' i = some y ∨ ∃ k, i = .e k ∧ Hr k = some y) ∨ (y.empty ∧ False) := fun i y hi => by
    cases i with
    | l d => cases hi
    | e k =>
      have hi : Hn k = some y := hi
      simp only [Hn] at hi
      cases h1 : H' k with
      | none => rw [h1] at hi; exact .inl ⟨(hr1 k y hi).2.2, .inr ⟨k, rfl, hi⟩⟩
      | some z =>
        rw [h1] at hi
        simp only at hi
        split at hi
        · exact .inl ⟨(hr1 k y hi).2.2, .inr ⟨k, rfl, hi⟩⟩
        · injection hi with hi; subst hi; exact .inl ⟨by assumption, .inl h1⟩
  have hcn : Conc c' (ownH Hn) w' := by
    refine ⟨hc'.mem, fun i y hi hy => ?_, fun i j y z b n m hi hj hy hz h1 h2 => ?_, ?_, hc'.tabw, fun tg cs th i y n hi hy hp => by
      rcases own' i y hi with ⟨_, h1 | ⟨k, rfl, h1⟩⟩ | ⟨_, h1⟩
      · exact hc'.tabo tg cs th i y n h1 hy hp
      · obtain ⟨b, m, h2, h3, _⟩ := posr k y h1
        have hp : c'.β k = some (tg, n) := hp
        rw [h3] at hp; injection hp with hp; injection hp with e1 e2; subst e1
        exact hc.tabo b cs th (.e k) y m (hr1 k y h1).1 hy h2
      · exact h1.elim⟩
    · rcases own' i y hi with ⟨_, h1 | ⟨k, rfl, h1⟩⟩ | ⟨_, h1⟩
      · exact hc'.obj i y h1 hy
      · obtain ⟨b, n, _, h2, h3⟩ := posr k y h1; exact ⟨b, n, h2, h3⟩
      · exact h1.elim
    · rcases own' i y hi with ⟨_, h3 | ⟨k, rfl, h3⟩⟩ | ⟨_, h3⟩
      · rcases own' j z hj with ⟨_, h4 | ⟨k', rfl, h4⟩⟩ | ⟨_, h4⟩
        · exact hc'.inj i j y z b n m h3 h4 hy hz h1 h2
        · cases i with
          | l d => cases h3
          | e k => exact (clash k k' y z b n m h3 hy h1 h4 h2).elim
        · exact h4.elim
      · rcases own' j z hj with ⟨_, h4 | ⟨k', rfl, h4⟩⟩ | ⟨_, h4⟩
        · cases j with
          | l d => cases h4
          | e k' => exact (clash k' k z y b m n h4 hz h2 h3 h1).elim
        · obtain ⟨b1, n1, h5, h6, _⟩ := posr k y h3
          obtain ⟨b2, n2, h7, h8, _⟩ := posr k' z h4
          have h1 : c'.β k = some (b, n) := h1
          have h2 : c'.β k' = some (b, m) := h2
          rw [h6] at h1; rw [h8] at h2
          injection h1 with h1; injection h1 with e1 e2; subst e1 e2
          injection h2 with h2; injection h2 with e1 e2; subst e1 e2
          exact hc.inj (.e k) (.e k') y z _ _ _ (hr1 k y h3).1 (hr1 k' z h4).1 hy hz h5 h7
        · exact h4.elim
      · exact h3.elim
    · obtain ⟨N, hN⟩ := hc'.fin
      obtain ⟨N', hN'⟩ := hc.fin
      refine ⟨max N N', fun k hk => ⟨(hN k (by omega)).1, ?_⟩⟩
      cases hn : ownH Hn (.e k) with
      | none => rfl
      | some y =>
        rcases own' _ y hn with ⟨_, h1 | ⟨k', h1, h2⟩⟩ | ⟨_, h1⟩
        · rw [(hN k (by omega)).2] at h1; cases h1
        · injection h1 with h1; subst h1
          have h3 := (hr1 k y h2).1
          have h4 : H k = none := (hN' k (by omega)).2
          rw [h4] at h3; cases h3
        · exact h1.elim
  refine ⟨v, x, Hn, c', he, ⟨H', hq, fun k o hk ho => ?_, fun k o hk hi ho => ?_, fun k o o' hk ho hk' hi => ?_⟩, hx, hcn, ⟨hE.os, hE.tape, hE.output, hE.size, fun b hb hn => hE.blk b hb fun i y n hi => hn i y n (sub i y hi), hE.mem, fun b o u hu => ?_, hE.ext, fun i y b n hi hy hp => ?_, hE.base, fun k y hk => ?_⟩⟩
  · simp only [Hn, hk, if_neg ho]
  · have h1 : Hr k = some o := by simp only [Hr, hi, hk, if_neg ho]
    obtain ⟨b, n, _, h3, _⟩ := posr k o h1
    simp only [Hn]
    cases h2 : H' k with
    | none => exact h1
    | some z =>
      simp only
      split
      · exact h1
      · rename_i hz
        obtain ⟨b', n', h4, _⟩ := hc'.obj (.e k) z h2 hz
        have h4 : c'.β k = some (b', n') := h4
        rw [h3] at h4; injection h4 with h4; injection h4 with e1 e2; subst e1 e2
        exact (clash k k z o b n n h2 hz h3 h1 h3).elim
  · refine Classical.byContradiction fun ho' => ?_
    have h1 : Hr k = some o' := by simp only [Hr, hi, hk', if_neg ho']
    obtain ⟨b, n, _, h3, _⟩ := posr k o' h1
    obtain ⟨b', n', h4, _⟩ := hc'.obj (.e k) o hk ho
    have h4 : c'.β k = some (b', n') := h4
    rw [h3] at h4; injection h4 with h4; injection h4 with e1 e2; subst e1 e2
    exact clash k k o o' b n n hk ho h3 h1 h3
  · rcases hE.new b o u hu with h1 | h1 | ⟨i, y, m, h1, h2, h3⟩
    · exact .inl h1
    · exact .inr (.inl h1)
    · exact .inr (.inr ⟨i, y, m, sub i y h1, h2, h3⟩)
  · rcases own' i y hi with ⟨_, h1 | ⟨k, rfl, h1⟩⟩ | ⟨_, h1⟩
    · rcases hE.own i y b n h1 hy hp with h2 | ⟨j, z, m, h2, h3, h4⟩
      · exact .inl h2
      · exact .inr ⟨j, z, m, sub j z h2, h3, h4⟩
    · obtain ⟨b', n', h2, h3, _⟩ := posr k y h1
      have hp : c'.β k = some (b, n) := hp
      rw [h3] at hp; injection hp with hp; injection hp with e1 e2; subst e1 e2
      exact .inr ⟨.e k, y, n', (hr1 k y h1).1, hy, h2⟩
    · exact h1.elim
  · rcases own' _ y hk with ⟨_, h1 | ⟨k', h1, h2⟩⟩ | ⟨_, h1⟩
    · rcases hE.nm k y h1 with h2 | h2
      · refine .inl fun h3 => h2 ?_
        have h3 : H k = none := h3
        show Hi k = none
        cases h4 : Hi k with
        | none => rfl
        | some z => rw [hs k z h4] at h3; cases h3
      · exact .inr h2
    · injection h1 with h1; subst h1
      exact .inl (by show H k ≠ none; rw [(hr1 k y h2).1]; simp)
    · exact h1.elim
end Go.Proofs.YtnmfjojhgfipcaaGreatDoor.E
