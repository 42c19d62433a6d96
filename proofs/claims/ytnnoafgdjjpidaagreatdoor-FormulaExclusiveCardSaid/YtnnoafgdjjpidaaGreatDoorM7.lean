import Derived.Test.YtnnoafgdjjpidaaGreatDoorM6
import Derived.ChangeMaps4
import Derived.MapKept
import Derived.MapFrom
import Derived.Maps.RangeRun
set_option linter.unusedVariables false
namespace Go.Proofs.YtnnoafgdjjpidaaGreatDoor.E
open Go.RowKit
structure KeyLaw (P : Program) (kt : TypeId) (kk : KK) : Prop where
  check : ∀ (k : Value) (em : Bool) (w : World), kok kk k = true → (Instr.checkKey em 10000 kt k).run P w = .ok () w
  find : ∀ (k : Value) (l : List MapEntry) (w : World), kok kk k = true → (∀ e ∈ l, kok kk e.key = true) →
    ((Instr.findKey kt k l).run P w = .ok none w ∧ ∀ e ∈ l, e.key ≠ k) ∨ ∃ j e, (Instr.findKey kt k l).run P w = .ok (some (j, e.val)) w ∧ l[j]? = some e ∧ e.key = k
  stay : ∀ (k : Value) (w : World), kok kk k = true → (Instr.keyThatStays k k).run P w = .ok k w
theorem KeyLaw.of {P : Program} {kt : TypeId} {kk : KK} {d : TypeDesc} (hd : P.underlying kt = some d) (h : ∀ k, kok kk k = true → MapKept.IsKey d k) : KeyLaw P kt kk where
  check k em w hk := MapKept.run_checkKey hd (h k hk) em 9999
  find k l w hk hl := by
    rcases MapKept.findNow_spec (h k hk) l 0 (fun e he => h _ (hl e he)) with ⟨h1, h2⟩ | ⟨j, e, h1, h2, h3⟩
    · exact .inl ⟨MapKept.run_findKey hd h1, h2⟩
    · exact .inr ⟨j, e, by simpa using MapKept.run_findKey hd h1, h2, h3⟩
  stay k w hk := MapKept.run_keyThatStays (h k hk)
theorem KeyLaw.int {P : Program} {kt : TypeId} {q : IntKind} (hd : P.underlying kt = some (.int q)) : KeyLaw P kt (.int q) :=
  .of hd fun k hk => by cases k <;> simp_all [kok, MapKept.IsKey]
theorem KeyLaw.str {P : Program} {kt : TypeId} (hd : P.underlying kt = some .string) : KeyLaw P kt .str :=
  .of hd fun k hk => by cases k <;> simp_all [kok, MapKept.IsKey]
theorem KeyLaw.bool {P : Program} {kt : TypeId} (hd : P.underlying kt = some .bool) : KeyLaw P kt .bool :=
  .of hd fun k hk => by cases k <;> simp_all [kok, MapKept.IsKey]
theorem keq_iff {kk : KK} {a b : Value} (ha : kok kk a = true) (hb : kok kk b = true) : keq a b = true ↔ a = b := by
  cases kk with
  | int q => cases a <;> cases b <;> simp_all [kok, keq]
  | str => cases a <;> cases b <;> simp_all [kok, keq, MapKept.bytes_beq]
  | bool => cases a <;> cases b <;> simp_all [kok, keq]
  | ints q n =>
    cases a <;> cases b <;> simp_all only [kok, Bool.false_eq_true, keq]
    rename_i x y
    simp only [Bool.and_eq_true, decide_eq_true_eq, List.all_eq_true] at ha hb
    simp only [decide_eq_true_eq, Value.agg.injEq]
    constructor
    · intro h
      have key : ∀ (l m : List Value), (∀ u ∈ l, (match u with | .int q' _ => decide (q' = q) | _ => false) = true) → (∀ u ∈ m, (match u with | .int q' _ => decide (q' = q) | _ => false) = true) → l.map intOf = m.map intOf → l = m := by
        intro l
        induction l with
        | nil => intro m _ _ h; cases m with
          | nil => rfl
          | cons => cases h
        | cons u l ih => intro m h1 h2 h; cases m with
          | nil => cases h
          | cons v m =>
            simp only [List.map_cons, List.cons.injEq] at h
            rw [ih m (fun u hu => h1 u (by simp [hu])) (fun u hu => h2 u (by simp [hu])) h.2]
            have e1 := h1 u (by simp)
            have e2 := h2 v (by simp)
            have e3 := h.1
            cases u <;> simp at e1
            cases v <;> simp at e2
            simp only [intOf, Option.some.injEq] at e3
            rw [e1, e2, e3]
      exact Array.toList_inj.1 (key _ _ ha.2 hb.2 h)
    · intro h; rw [h]
def mget (k : Value) : List ME → Option C
  | [] => none
  | e :: es => bif keq k e.k then some e.x else mget k es
def mset (k : Value) (x : C) (ck : Nat) : List ME → List ME
  | [] => [⟨k, x, ck⟩]
  | e :: es => bif keq k e.k then ⟨k, x, e.b⟩ :: es else e :: mset k x ck es
def mclock (k : Value) (es : List ME) (ck : Nat) : Nat := match mget k es with | some _ => ck | none => ck + 1
def mdel (k : Value) : List ME → List ME
  | [] => []
  | e :: es => bif keq k e.k then es else e :: mdel k es
section
variable {kk : KK} {k : Value} {x : C} {ck : Nat}
theorem m_none : ∀ {es : List ME}, kok kk k = true → (∀ m ∈ es, kok kk m.k = true) → (∀ m ∈ es, m.k ≠ k) → mget k es = none ∧ mset k x ck es = es ++ [⟨k, x, ck⟩] ∧ mdel k es = es
  | [], _, _, _ => ⟨rfl, rfl, rfl⟩
  | e :: es, hk, hs, hn => by
    obtain ⟨h1, h2, h3⟩ := m_none (es := es) hk (fun m hm => hs m (by simp [hm])) (fun m hm => hn m (by simp [hm]))
    have : keq k e.k = false := by
      cases h : keq k e.k with
      | false => rfl
      | true => exact absurd ((keq_iff hk (hs e (by simp))).1 h).symm (hn e (by simp))
    simp [mget, mset, mdel, this, h1, h2, h3]
theorem m_some : ∀ {es : List ME} {j : Nat} {m : ME}, kok kk k = true → (∀ m ∈ es, kok kk m.k = true) → (es.map (·.k)).Nodup → es[j]? = some m → m.k = k → mget k es = some m.x ∧ mset k x ck es = es.set j ⟨k, x, m.b⟩ ∧ mdel k es = es.eraseIdx j
  | e :: es, 0, m, hk, hs, hn, hj, hm => by
    simp at hj; subst hj
    have : keq k e.k = true := (keq_iff hk (hs e (by simp))).2 hm.symm
    simp [mget, mset, mdel, this]
  | e :: es, j + 1, m, hk, hs, hn, hj, hm => by
    have hj : es[j]? = some m := by simpa using hj
    obtain ⟨hn1, hn2⟩ := List.nodup_cons.1 hn
    obtain ⟨h1, h2, h3⟩ := m_some (es := es) hk (fun m hm => hs m (by simp [hm])) hn2 hj hm
    have : keq k e.k = false := by
      cases h : keq k e.k with
      | false => rfl
      | true =>
        have e1 := (keq_iff hk (hs e (by simp))).1 h
        exact absurd (List.mem_map.2 ⟨m, List.mem_of_getElem? hj, hm.trans e1⟩) hn1
    simp [mget, mset, mdel, this, h1, h2, h3]
end
section
variable {P : Program} {c : Ctx} {kk : KK} {es : List ME} {ck : Nat} {ents : Array MapEntry} {w : World} {b : Nat} {t kt et : TypeId} {k : Value} {x : C} {v : Value}
theorem MapRep.keys (h : MapRep c kk es ck ents) : ∀ e ∈ ents.toList, kok kk e.key = true := fun e he => by
  obtain ⟨j, hj⟩ := List.getElem?_of_mem he
  have hlt : j < es.length := by rw [h.len]; simpa using (List.getElem?_eq_some_iff.1 hj).1
  have hm := List.getElem?_eq_getElem hlt
  rw [(h.ent j _ e hm (by simpa using hj)).1]
  exact h.key _ (List.mem_of_getElem? hm)
theorem MapRep.at (h : MapRep c kk es ck ents) {j : Nat} {e : MapEntry} (hj : ents.toList[j]? = some e) : ∃ m, es[j]? = some m ∧ e.key = m.k ∧ e.born = m.b ∧ RepC c.μ c.β m.x e.val := by
  have hlt : j < es.length := by rw [h.len]; simpa using (List.getElem?_eq_some_iff.1 hj).1
  exact ⟨_, List.getElem?_eq_getElem hlt, h.ent j _ e (List.getElem?_eq_getElem hlt) (by simpa using hj)⟩
theorem MapRep.at' (h : MapRep c kk es ck ents) {m : ME} (hm : m ∈ es) : ∃ e ∈ ents.toList, e.key = m.k ∧ e.born = m.b ∧ RepC c.μ c.β m.x e.val := by
  obtain ⟨j, hj⟩ := List.getElem?_of_mem hm
  have hlt : j < ents.size := by rw [← h.len]; exact (List.getElem?_eq_some_iff.1 hj).1
  exact ⟨ents[j], by simp, h.ent j m _ hj (Array.getElem?_eq_getElem hlt)⟩
theorem MapRep.find (h : MapRep c kk es ck ents) (kl : KeyLaw P kt kk) (hk : kok kk k = true) (w : World) :
    ((Instr.findKey kt k ents.toList).run P w = .ok none w ∧ ∀ m ∈ es, m.k ≠ k) ∨ ∃ j e m, (Instr.findKey kt k ents.toList).run P w = .ok (some (j, e.val)) w ∧ ents.toList[j]? = some e ∧ e.key = k ∧ es[j]? = some m ∧ m.k = k ∧ e.born = m.b ∧ RepC c.μ c.β m.x e.val := by
  rcases kl.find k ents.toList w hk h.keys with ⟨h1, h2⟩ | ⟨j, e, h1, h2, h3⟩
  · refine .inl ⟨h1, fun m hm e => ?_⟩
    obtain ⟨e', h3, h4, _⟩ := h.at' hm
    exact h2 e' h3 (h4.trans e)
  · obtain ⟨m, h4, h5, h6, h7⟩ := h.at h2
    exact .inr ⟨j, e, m, h1, h2, h3, h4, h5.symm.trans h3, h6, h7⟩
theorem MapRep.set (h : MapRep c kk es ck ents) (hb : w.heap[b]? = some (.map ents ck)) (ht : P.underlying t = some (.map kt et)) (kl : KeyLaw P kt kk) (hk : kok kk k = true) (hv : RepC c.μ c.β x v) :
    ∃ ents', (Instr.mapUpdate t (.map (some b)) k v).run P w = .ok () (ChangeMaps.setBlock w b (.map ents' (mclock k es ck))) ∧ MapRep c kk (mset k x ck es) (mclock k es ck) ents' := by
  rcases h.find kl hk w with ⟨h1, h2⟩ | ⟨j, e, m, h1, h2, h3, h4, h5, h6, h7⟩
  · obtain ⟨g1, g2, _⟩ := m_none (x := x) (ck := ck) hk h.key h2
    have hc : mclock k es ck = ck + 1 := by simp [mclock, g1]
    refine ⟨ents.push ⟨k, v, ck⟩, ?_, ?_⟩
    · rw [hc]
      simp [Instr.mapUpdate, run_underlying ht, MapKept.run_getObj_map hb, kl.check k _ w hk, h1, MapKept.run_setObj_map _ hb, Result.andThen, ChangeMaps.setBlock]
    · rw [hc, g2]
      refine ⟨by simp [h.len], fun i m e hi he => ?_, fun m hm => ?_, fun m hm => ?_, ?_, ?_⟩
      · by_cases hlt : i < es.length
        · rw [List.getElem?_append_left hlt] at hi
          rw [Array.getElem?_push_lt (by rw [← h.len]; exact hlt)] at he
          exact h.ent i m e hi (by rw [Array.getElem?_eq_getElem (by rw [← h.len]; exact hlt)]; exact he)
        · rw [List.getElem?_append_right (by omega)] at hi
          have hi0 : i = es.length := by
            have := (List.getElem?_eq_some_iff.1 hi).1
            simp at this; omega
          subst hi0
          simp at hi; subst hi
          rw [h.len] at he
          simp at he; subst he
          exact ⟨rfl, rfl, hv⟩
      · rcases List.mem_append.1 hm with hm | hm
        · exact h.key m hm
        · simp at hm; subst hm; exact hk
      · rcases List.mem_append.1 hm with hm | hm
        · have := h.born m hm; omega
        · simp at hm; subst hm; simp
      · rw [List.map_append, List.nodup_append]
        refine ⟨h.nodup, by simp, fun a ha b' hb' => ?_⟩
        simp at hb'; subst hb'
        obtain ⟨m, hm, rfl⟩ := List.mem_map.1 ha
        exact h2 m hm
      · rw [List.map_append, List.nodup_append]
        refine ⟨h.inj, by simp, fun a ha b' hb' => ?_⟩
        simp at hb'; subst hb'
        obtain ⟨m, hm, rfl⟩ := List.mem_map.1 ha
        have := h.born m hm; exact fun e => by omega
  · obtain ⟨g1, g2, _⟩ := m_some (x := x) (ck := ck) hk h.key h.nodup h4 h5
    have hc : mclock k es ck = ck := by simp [mclock, g1]
    have hje : ents[j]? = some e := by simpa using h2
    have hjl : j < ents.size := (Array.getElem?_eq_some_iff.1 hje).1
    refine ⟨ents.modify j (fun e' => { e' with key := k, val := v }), ?_, ?_⟩
    · rw [hc]
      have hst := kl.stay k w hk
      simp [Instr.mapUpdate, run_underlying ht, MapKept.run_getObj_map hb, kl.check k _ w hk, h1, hje, h3, hst, MapKept.run_setObj_map _ hb, Result.andThen, ChangeMaps.setBlock]
    · rw [hc, g2]
      have hjs : j < es.length := by rw [h.len]; exact hjl
      have kset : (es.set j ⟨k, x, m.b⟩).map (·.k) = es.map (·.k) := by
        rw [List.map_set]
        apply List.ext_getElem?
        intro i
        rw [List.getElem?_set]
        split
        · rename_i hij; subst hij
          rw [List.getElem?_map, h4]
          simp [hjs, h5]
        · rfl
      have bset : (es.set j ⟨k, x, m.b⟩).map (·.b) = es.map (·.b) := by
        rw [List.map_set]
        apply List.ext_getElem?
        intro i
        rw [List.getElem?_set]
        split
        · rename_i hij; subst hij
          rw [List.getElem?_map, h4]
          simp [hjs]
        · rfl
      refine ⟨by simp [h.len], fun i m' e' hi he => ?_, fun m' hm => ?_, fun m' hm => ?_, by rw [kset]; exact h.nodup, by rw [bset]; exact h.inj⟩
      · rw [List.getElem?_set] at hi
        rw [Array.getElem?_modify] at he
        by_cases hij : j = i
        · subst hij
          rw [if_pos rfl, if_pos hjs] at hi
          rw [if_pos rfl, hje] at he
          simp at hi he; subst hi he
          exact ⟨rfl, h6, hv⟩
        · rw [if_neg hij] at hi he
          exact h.ent i m' e' hi he
      · rcases List.mem_or_eq_of_mem_set hm with hm | rfl
        · exact h.key m' hm
        · exact hk
      · rcases List.mem_or_eq_of_mem_set hm with hm | rfl
        · exact h.born m' hm
        · exact h.born m (List.mem_of_getElem? h4)
end
section
variable {P : Program} {all : Array Oper} {o : Oper} {s s' : S} {K : S → Prop} {rest : List Oper}
structure OneBlk (w w' : World) (b : Nat) : Prop where
  os : w'.os = w.os
  tape : w'.tape = w.tape
  output : w'.output = w.output
  size : w'.heap.size = w.heap.size
  blk : ∀ j, j ≠ b → w'.heap[j]? = w.heap[j]?
theorem OneBlk.setBlock (w : World) (b : Nat) (x : Obj) : OneBlk w (ChangeMaps.setBlock w b x) b :=
  ⟨rfl, rfl, rfl, by simp [ChangeMaps.setBlock], fun j hj => by simp [ChangeMaps.setBlock, Ne.symm hj]⟩
theorem put_run {a : Act} {w w' : World} {r : Next} {K : Act → World → Prop} (hdst : o.dst = none) (h : (execOp a.eval o).run P w = .ok r w') (hr : r = .skip ∨ ∃ v, r = .value v) (k : K a w') : o.wp P a w K (fun _ _ _ => False) := by
  unfold Oper.wp
  rw [h]
  rcases hr with rfl | ⟨v, rfl⟩
  · simpa [Oper.upon, hdst, Act.put] using k
  · simpa [Oper.upon, hdst, Act.put] using k
theorem h_put {k : Nat} {x x' : AO} (hdst : o.dst = none) (hH : s.H k = some x) (hx : ¬ x.empty)
    (h : ∀ (c : Ctx) (w : World) (a : Act) (b n : Nat), MemOk c w → c.β k = some (b, n) → ORep c w x b n → (∀ y, y ∈ o.op.operands → RepX c (s.eval y) (a.eval y)) → ∃ r w', (execOp a.eval o).run P w = .ok r w' ∧ (r = .skip ∨ ∃ v, r = .value v) ∧ OneBlk w w' b ∧ (∀ o, c.μ b o = none) ∧ ORep c w' x' b n) :
    LR P o (.h :: lk o) [.h] s (s.setOwn (.e k) x') := by
  refine ⟨(setOwn_t s (.e k) x').2, fun ℓ hℓ => ?_, fun s1 hl hs c a w g => ?_⟩
  · cases ℓ with
    | h => exact absurd (by simp) hℓ
    | _ => simp [Same, S.setOwn]
  have hHH : s1.H = s.H := hs .h (by simp)
  rw [over_H hHH]
  have hb : s1.own (.e k) = some x := Eq.trans (congrFun hHH k) hH
  obtain ⟨b, m, h1, h2⟩ := g.conc.obj (.e k) _ hb hx
  obtain ⟨r, w', h3, h4, h5, h6, h7⟩ := h c w a b m g.memOk h1 h2 fun u hu => by rw [← evs hs (fun _ h => List.mem_cons_of_mem _ h) hu]; exact g.eval u
  refine put_run hdst h3 h4 ⟨c, ?_⟩
  exact g.write (c' := c) (i := .e k) hb hx h1 h5.os h5.tape h5.output h5.size h5.blk rfl rfl (fun _ _ _ h => h) (fun _ _ _ h => .inl h) (fun o u h => by rw [h6 o] at h; cases h) h7
end
section
variable {P : Program} {all : Array Oper} {o : Oper} {s s' : S} {K : S → Prop} {rest : List Oper}
theorem Sat.call {c c' : Ctx} {s : S} {a : Act} {w w' : World} {H' : Heap} (g : Sat c s a w) (hc : Conc c' (ownH H') w') (hx : Ext c (ownH s.H) w c' (ownH H') w') :
    Sat { c' with lam := c.lam } ⟨s.n, s.t, s.L, H'⟩ a w' ∧ Ext c s.own w { c' with lam := c.lam } (S.own ⟨s.n, s.t, s.L, H'⟩) w' := by
  have sub : ∀ i x, ownH s.H i = some x → s.own i = some x := fun i x h => by cases i with
    | e k => exact h
    | l d => cases h
  -- the block of a variable of the call's own is nobody else's
  have loc : ∀ d y b n, s.L d = some y → ¬ y.empty → c.lam d = (b, n) → b < w.heap.size ∧ ∀ i x m, ownH s.H i = some x → ¬ x.empty → c.pos i ≠ some (b, m) := fun d y b n h he hl => by
    obtain ⟨b', n', h1, h2⟩ := g.conc.obj (.l d) y h he
    have h1 : some (c.lam d) = some (b', n') := h1
    rw [hl] at h1; injection h1 with h1; injection h1 with e1 e2; subst e1 e2
    refine ⟨h2.lt, fun i x m hi hx hp => ?_⟩
    have := g.conc.inj i (.l d) x y b m n (sub i x hi) h hx he hp (by show some (c.lam d) = _; rw [hl])
    subst this; cases hi
  have own' : ∀ i x, S.own ⟨s.n, s.t, s.L, H'⟩ i = some x → (ownH H' i = some x ∧ ∃ k, i = .e k) ∨ ∃ d, i = .l d ∧ s.L d = some x := fun i x h => by
    cases i with
    | e k => exact .inl ⟨h, k, rfl⟩
    | l d => exact .inr ⟨d, rfl, h⟩
  have fresh : ∀ i x b n d y m, ownH H' i = some x → ¬ x.empty → c'.pos i = some (b, n) → s.L d = some y → ¬ y.empty → c.lam d = (b, m) → False := fun i x b n d y m h1 h2 h3 h4 h5 h6 => by
    obtain ⟨h7, h8⟩ := loc d y b m h4 h5 h6
    rcases hx.own i x b n h1 h2 h3 with h9 | ⟨j, z, q, h9, h10, h11⟩
    · omega
    · exact h8 j z q h9 h10 h11
  refine ⟨⟨⟨hc.mem, fun i x hi he => ?_, fun i j x y b n m hi hj he hf hp hq => ?_, ?_, hc.tabw, fun tg cs th i x n hi hx' hp => by
    rcases own' i x hi with ⟨h1, k, rfl⟩ | ⟨d, rfl, h1⟩
    · exact hc.tabo tg cs th _ x n h1 hx' hp
    · exact g.conc.tabo tg cs th (.l d) x n h1 hx' hp⟩, g.size, fun i => ?_, by
    show DefOk c'.base a.defers w'
    exact g.defers.ext (g.conc.sub sub) hx, g.wf⟩, ⟨hx.os, hx.tape, hx.output, hx.size, fun b hb hn => hx.blk b hb fun i x n hi => hn i x n (sub i x hi), hx.mem, fun b o u h => ?_, hx.ext, fun i x b n hi he hp => ?_, hx.base, fun k y hk => hx.nm k y hk⟩⟩
  · rcases own' i x hi with ⟨h1, k, rfl⟩ | ⟨d, rfl, h1⟩
    · obtain ⟨b, n, h2, h3⟩ := hc.obj _ x h1 he
      exact ⟨b, n, h2, h3.keep rfl (fun _ _ _ h => h) (fun _ _ h => h) (fun _ _ h => h)⟩
    · obtain ⟨b, n, h2, h3⟩ := g.conc.obj (.l d) x h1 he
      have h2 : some (c.lam d) = some (b, n) := h2
      injection h2 with h2
      obtain ⟨h4, h5⟩ := loc d x b n h1 he h2
      refine ⟨b, n, by show some (c.lam d) = _; rw [h2], h3.keep (hx.blk b h4 fun i y m hi hy hp => h5 i y m hi hy hp) hx.mem (fun o u h => ?_) hx.ext⟩
      rcases hx.new b o u h with h6 | h6 | ⟨i, y, m, h6, h7, h8⟩
      · exact h6
      · omega
      · exact absurd h8 (h5 i y m h6 h7)
  · rcases own' i x hi with ⟨h1, k, rfl⟩ | ⟨d, rfl, h1⟩
    · rcases own' j y hj with ⟨h2, k', rfl⟩ | ⟨d, rfl, h2⟩
      · exact hc.inj _ _ x y b n m h1 h2 he hf hp hq
      · have hq : some (c.lam d) = some (b, m) := hq
        injection hq with hq
        exact (fresh _ x b n d y m h1 he hp h2 hf hq).elim
    · have hp : some (c.lam d) = some (b, n) := hp
      injection hp with hp
      rcases own' j y hj with ⟨h2, k', rfl⟩ | ⟨d', rfl, h2⟩
      · exact (fresh _ y b m d x n h2 hf hq h1 he hp).elim
      · exact g.conc.inj _ _ x y b n m h1 h2 he hf (by show some (c.lam d) = _; rw [hp]) hq
  · obtain ⟨N, hN⟩ := hc.fin
    exact ⟨N, hN⟩
  · exact RepX.mono (c := c) (c' := { c' with lam := c.lam }) hx.mem hx.ext rfl (g.tmps i)
  · rcases hx.new b o u h with h6 | h6 | ⟨i, y, m, h6, h7, h8⟩
    · exact .inl h6
    · exact .inr (.inl h6)
    · exact .inr (.inr ⟨i, y, m, sub i y h6, h7, h8⟩)
  · rcases own' i x hi with ⟨h1, k, rfl⟩ | ⟨d, rfl, h1⟩
    · rcases hx.own _ x b n h1 he hp with h2 | ⟨j, y, m, h2, h3, h4⟩
      · exact .inl h2
      · exact .inr ⟨j, y, m, sub j y h2, h3, h4⟩
    · exact .inr ⟨.l d, x, n, h1, he, hp⟩
theorem call_wp {f : FuncId} {ys : Array Operand} {ts : Array TypeId} {args : List C} {Q : X → Heap → Prop} {c : Ctx} {a : Act} {w : World} (g : Sat c s a w) (ho : o.op = .call { callee := .value (.func f), args := ys, argTypes := ts }) (hf : fnB P f = true) (ha : argsX s ys.toList = some args) (h : Spec P f args s.H Q) (hl : ∀ x H', Q x H' → x.loc = none) (hd : inB o.dst s.n = true) :
    o.wp P a w (fun a' w' => ∃ x H' c', Q x H' ∧ Sat c' ((⟨s.n, s.t, s.L, H'⟩ : S).put o.dst x) a' w' ∧ Ext c s.own w c' ((⟨s.n, s.t, s.L, H'⟩ : S).put o.dst x).own w') (fun _ _ _ => False) := by
  have hr : Reps (RepC c.μ c.β) args (ys.map a.eval).toList := by
    have := args_rep (c := c) (f := a.eval) ha fun y _ => g.eval y
    simpa using this
  have hc : Conc c (ownH s.H) w := g.conc.sub fun i x h => by cases i with
    | e k => exact h
    | l d => cases h
  have hcall := h c w (ys.map a.eval) hc hr
  have hrun : (execOp a.eval o).run P w = .ok (.enter f (ys.map a.eval)) w := by
    simp [execOp, ho, resolve, Act.eval, Deferred.ofValue, invoke, enter_run hf]
  unfold Oper.wp
  rw [hrun, Oper.upon_enter]
  refine hcall.mono ?_
  rintro e w' ⟨v, y, H', c', rfl, hq, hrx, hc', hx'⟩
  obtain ⟨g', x'⟩ := g.call hc' hx'
  exact ⟨y, H', _, hq, g'.put o.dst hd (hrx.relam (hl y H' hq)) (fun d e => by rw [hl y H' hq] at e; cases e), by rw [own_put]; exact x'⟩
theorem OpW.callE {f : FuncId} {ys : Array Operand} {ts : Array TypeId} {args : List C} {Q : X → Heap → Prop} {n d : Nat} {t : Nat → X} {L : Nat → Option AO} {H : Heap} (ho : o.op = .call { callee := .value (.func f), args := ys, argTypes := ts }) (hg : o.guard = none) (hdst : o.dst = some d) (hd : Nat.blt d n = true) (hf : fnB P f = true) (ha : argsX ⟨n, t, L, H⟩ ys.toList = some args) (h : Spec P f args H Q) (hl : ∀ x H', Q x H' → x.loc = none)
    (k : ∀ x H', Q x H' → K ⟨n, upd t d x, L, H'⟩) : OpW P all o K ⟨n, t, L, H⟩ := fun c a w g => by
  unfold opRun
  rw [if_pos (by simp [Region.wanted, hg])]
  refine wp_weak (call_wp g ho hf ha h hl (inb' hdst hd)) ?_
  rintro a' w' ⟨x, H', c', hq, g', x'⟩
  rw [hdst] at g' x'
  exact ⟨_, c', k x H' hq, g', x'⟩
theorem SeqK.callE {f : FuncId} {ys : Array Operand} {ts : Array TypeId} {args : List C} {Q : X → Heap → Prop} {n d : Nat} {t : Nat → X} {L : Nat → Option AO} {H : Heap} (ho : o.op = .call { callee := .value (.func f), args := ys, argTypes := ts }) (hg : o.guard = none) (hdst : o.dst = some d) (hd : Nat.blt d n = true) (hf : fnB P f = true) (ha : argsX ⟨n, t, L, H⟩ ys.toList = some args) (h : Spec P f args H Q) (hl : ∀ x H', Q x H' → x.loc = none)
    (k : ∀ x H', Q x H' → SeqK P all K rest ⟨n, upd t d x, L, H'⟩) : SeqK P all K (o :: rest) ⟨n, t, L, H⟩ := SeqK.any (OpW.callE ho hg hdst hd hf ha h hl k)
theorem h_call {f : FuncId} {ys : Array Operand} {ts : Array TypeId} {args : List C} {x : X} (ho : o.op = .call { callee := .value (.func f), args := ys, argTypes := ts }) (hf : fnB P f = true) (ha : argsX s ys.toList = some args) (h : Spec P f args s.H fun y H' => y = x ∧ H' = s.H) (hx : x.loc = none) (hd : inB o.dst s.n = true) :
    LR P o (.h :: lk o) (dstT o) s (s.put o.dst x) := by
  refine ⟨put_len _ _ _, fun ℓ hℓ => put_out hℓ, fun s1 hl hs c a w g => ?_⟩
  unfold dstT
  rw [over_put]
  have hH : s1.H = s.H := hs .h (by simp)
  have ha1 : argsX s1 ys.toList = some args := by
    rw [← ha]
    have : ∀ l : List Operand, (∀ y ∈ l, y ∈ ys.toList) → argsX s1 l = argsX s l := by
      intro l
      induction l with
      | nil => intro _; rfl
      | cons y l ih =>
        intro hl'
        have e1 : s1.eval y = s.eval y := evs hs (fun _ h => List.mem_cons_of_mem _ h) (by rw [ho]; simp [Op.operands, Call.operands]; exact .inr (by simpa using hl' y (by simp)))
        simp only [argsX, e1, ih (fun z hz => hl' z (by simp [hz]))]
    exact this _ fun _ h => h
  refine wp_weak0 (call_wp g ho hf ha1 (Q := fun y H' => y = x ∧ H' = s.H) (by rw [hH]; exact h) (fun y H' e => by rw [e.1]; exact hx) (hl ▸ hd)) ?_
  rintro a' w' ⟨y, H', c', ⟨rfl, rfl⟩, g', x'⟩
  rw [← hH] at g' x'
  exact ⟨c', g', x'⟩
end
section
variable {P : Program} {all : Array Oper} {o : Oper} {s s' : S} {K : S → Prop} {rest : List Oper}
variable {t kt et : TypeId} {x y z : Operand} {kk : KK} {es : List ME} {ck k d r n since c0 : Nat} {seen : List Nat}
theorem OneBlk.drew (w : World) (b : Nat) (x : Obj) : OneBlk w (ChangeMaps.setBlock w.drew b x) b :=
  ⟨rfl, rfl, rfl, by simp [ChangeMaps.setBlock], fun j hj => by simp only [ChangeMaps.setBlock]; rw [Array.getElem?_setIfInBounds_ne (Ne.symm hj)]; rfl⟩
inductive NK where
  | sl | mp | pt | fn
def nkB (P : Program) (t : TypeId) : NK → Bool
  | .sl => match P.underlying t with | some (.slice _) => true | _ => false
  | .mp => match P.underlying t with | some (.map _ _) => true | _ => false
  | .pt => match P.underlying t with | some (.pointer _) => true | _ => false
  | .fn => match P.underlying t with | some (.func _ _ _) => true | _ => false
def NV : NK → Bool → Value → Prop
  | .sl, true, v => ∃ n c, v = .slice none n c
  | .sl, false, v => ∃ a n c, v = .slice (some a) n c
  | .mp, true, v => v = .map none
  | .mp, false, v => ∃ b, v = .map (some b)
  | .pt, true, v => v = .pointer none
  | .pt, false, v => ∃ a, v = .pointer (some a)
  | .fn, true, v => v = .nilFunc
  | .fn, false, v => ∃ f a b, v = .func f a b
def nilT : X → Option (NK × Bool)
  | .c (.a (.t (.v (.slice none _ _)))) => some (.sl, true)
  | .c (.a (.t (.v (.map none)))) => some (.mp, true)
  | .c (.a (.t (.v (.pointer none)))) => some (.pt, true)
  | .c (.a (.t (.v .nilFunc))) => some (.fn, true)
  | .c (.a (.t (.sl .ne _ es))) => some (.sl, es.isEmpty)
  | .c (.a (.t (.sl .nn _ _))) => some (.sl, false)
  | .c (.a (.t (.sl .un _ (_ :: _)))) => some (.sl, false)
  | .c (.a (.ts _ .ne _ es)) => some (.sl, es.isEmpty)
  | .c (.a (.bp _ _)) => some (.pt, false)
  | .c (.a (.mp _)) => some (.mp, false)
  | .c (.a (.fn _ _)) => some (.fn, false)
  | .lp _ _ => some (.pt, false)
  | .pc _ => some (.pt, false)
  | .lmp _ => some (.mp, false)
  | _ => none
theorem sl_nv {μ : Mem} {z : Nz} {sz : Nat} {es : List (List T)} {v : Value} (h : RepT μ (.sl z sz es) v) : (es ≠ [] → NV .sl false v) ∧ (es = [] → z = .ne → NV .sl true v) ∧ (es = [] → z = .nn → NV .sl false v) := by
  cases h with
  | nil h => exact ⟨fun h => absurd rfl h, fun _ _ => ⟨_, _, rfl⟩, fun _ e => absurd e h⟩
  | emp h => exact ⟨fun h => absurd rfl h, fun _ e => absurd e h, fun _ _ => ⟨_, _, _, rfl⟩⟩
  | sl u ne => exact ⟨fun _ => ⟨_, _, _, rfl⟩, fun e => absurd e ne, fun e => absurd e ne⟩
theorem nilT_rep {c : Ctx} {x : X} {v : Value} {nk : NK} {b : Bool} (h : RepX c x v) (hn : nilT x = some (nk, b)) : NV nk b v := by
  unfold nilT at hn
  split at hn <;> first | cases hn | skip
  · have := rep_tv h; subst this; exact ⟨_, _, rfl⟩
  · exact rep_tv h
  · exact rep_tv h
  · exact rep_tv h
  · rename_i es
    cases h with | t h =>
    obtain ⟨h1, h2, _⟩ := sl_nv h
    cases es with
    | nil => exact h2 rfl rfl
    | cons => exact h1 (by simp)
  · rename_i es
    cases h with | t h =>
    obtain ⟨h1, _, h3⟩ := sl_nv h
    cases es with
    | nil => exact h3 rfl rfl
    | cons => exact h1 (by simp)
  · cases h with | t h => exact (sl_nv h).1 (by simp)
  · rename_i es
    cases h with
    | ts0 => exact ⟨_, _, rfl⟩
    | ts hk hne hn h =>
      cases es with
      | nil => exact absurd rfl hne
      | cons => exact ⟨_, _, _, rfl⟩
  · cases h with | bp h => exact ⟨_, rfl⟩
  · cases h with | mp h => exact ⟨_, rfl⟩
  · cases h with | fn u hv h => exact ⟨_, _, _, rfl⟩
  · exact ⟨_, h⟩
  · obtain ⟨b, off, h, _⟩ := h; exact ⟨_, h⟩
  · exact ⟨_, h⟩
theorem nil_eqIn {nk : NK} {b : Bool} {v u : Value} (ty : nkB P t nk = true) (hv : NV nk b v) (hu : NV nk true u) (w : World) (dd : Nat) : (Op.equalIn (dd + 1) t v u).run P w = .ok b w := by
  unfold Op.equalIn
  cases nk <;> simp only [nkB] at ty <;> split at ty <;> first | cases ty | skip
  all_goals
    rename_i h
    rw [Sem.run_bind, run_underlying h, Result.andThen_ok]
    cases b <;> simp only [NV] at hv hu
  · obtain ⟨a, n, c, rfl⟩ := hv; obtain ⟨n', c', rfl⟩ := hu; rfl
  · obtain ⟨n, c, rfl⟩ := hv; obtain ⟨n', c', rfl⟩ := hu; rfl
  · obtain ⟨a, rfl⟩ := hv; subst hu; rfl
  · subst hv hu; rfl
  · obtain ⟨a, rfl⟩ := hv; subst hu; rfl
  · subst hv hu; rfl
  · obtain ⟨f, a, b, rfl⟩ := hv; subst hu; rfl
  · subst hv hu; rfl
theorem nil_eq {nk : NK} {b : Bool} {v u : Value} (ty : nkB P t nk = true) (hv : NV nk b v) (hu : NV nk true u) (w : World) : (Op.equal t v u).run P w = .ok b w := nil_eqIn ty hv hu w 9999
theorem bool_eqIn {a b : Bool} (ty : P.underlying t = some .bool) (w : World) (dd : Nat) : (Op.equalIn (dd + 1) t (.bool a) (.bool b)).run P w = .ok (a == b) w := by
  unfold Op.equalIn
  rw [Sem.run_bind, run_underlying ty, Result.andThen_ok]
  rfl
theorem bool_eq {a b : Bool} (ty : P.underlying t = some .bool) (w : World) : (Op.equal t (.bool a) (.bool b)).run P w = .ok (a == b) w := bool_eqIn ty w 9999
theorem nil_guard {op : BinOp} {nk : NK} {b : Bool} {v u : Value} (hv : NV nk b v) (w : World) : (eqGuard op t x y v u).run P w = .ok () w := by
  unfold eqGuard
  cases nk <;> cases b <;> simp only [NV] at hv
  · obtain ⟨a, n, c, rfl⟩ := hv; split <;> rfl
  · obtain ⟨n, c, rfl⟩ := hv; split <;> rfl
  · obtain ⟨a, rfl⟩ := hv; split <;> rfl
  · subst hv; split <;> rfl
  · obtain ⟨a, rfl⟩ := hv; split <;> rfl
  · subst hv; split <;> rfl
  · obtain ⟨f, a, b, rfl⟩ := hv; split <;> rfl
  · subst hv; split <;> rfl
theorem nil_bin {nk : NK} {b : Bool} {v u : Value} (ty : nkB P t nk = true) (hv : NV nk b v) (hu : NV nk true u) (w : World) : (binOp .eql t v u).run P w = .ok (.bool b) w ∧ (binOp .neq t v u).run P w = .ok (.bool (!b)) w := by
  have h := nil_eq ty hv hu w
  cases nk <;> cases b <;> simp only [NV] at hv hu
  · obtain ⟨a, n, c, rfl⟩ := hv; obtain ⟨n', c', rfl⟩ := hu; constructor <;> simp [binOp, h]
  · obtain ⟨n, c, rfl⟩ := hv; obtain ⟨n', c', rfl⟩ := hu; constructor <;> simp [binOp, h]
  · obtain ⟨a, rfl⟩ := hv; subst hu; constructor <;> simp [binOp, h]
  · subst hv hu; constructor <;> simp [binOp, h]
  · obtain ⟨a, rfl⟩ := hv; subst hu; constructor <;> simp [binOp, h]
  · subst hv hu; constructor <;> simp [binOp, h]
  · obtain ⟨f, a, b, rfl⟩ := hv; subst hu; constructor <;> simp [binOp, h]
  · subst hv hu; constructor <;> simp [binOp, h]
theorem q_eqlN {u : TypeId} {nk : NK} {b : Bool} (ho : o.op = .binOp .eql t x y u) (hx : nilT (s.eval x) = some (nk, b)) (hy : nilT (s.eval y) = some (nk, true)) (ty : nkB P t nk = true) : QV P o s (bX b) :=
  .of_same (fun _ => nolp) fun c w a hm hrep => by
    have ha := nilT_rep (hrep x (by rw [ho]; simp [Op.operands])) hx
    have hb := nilT_rep (hrep y (by rw [ho]; simp [Op.operands])) hy
    exact ⟨.bool b, by simp only [execOp, ho, Sem.run_bind, nil_guard ha, Result.andThen_ok, (nil_bin ty ha hb w).1]; rfl, tv_rep rfl⟩
theorem q_eqlB {u : TypeId} {a b : Bool} (ho : o.op = .binOp .eql t x y u) (ty : P.underlying t = some .bool) (hx : s.eval x = bX a) (hy : s.eval y = bX b) : QV P o s (bX (decide (a = b))) :=
  q_bin ho hx hy rfl fun w => by
    have : (eqGuard .eql t x y (.bool a) (.bool b)).run P w = .ok () w := by unfold eqGuard; split <;> rfl
    rw [Sem.run_bind, this]
    simp only [Result.andThen_ok, binOp, Sem.run_bind, bool_eq ty, Sem.run_pure]
    cases a <;> cases b <;> rfl
theorem q_neqB {u : TypeId} {a b : Bool} (ho : o.op = .binOp .neq t x y u) (ty : P.underlying t = some .bool) (hx : s.eval x = bX a) (hy : s.eval y = bX b) : QV P o s (bX (decide (a ≠ b))) :=
  q_bin ho hx hy rfl fun w => by
    have : (eqGuard .neq t x y (.bool a) (.bool b)).run P w = .ok () w := by unfold eqGuard; split <;> rfl
    rw [Sem.run_bind, this]
    simp only [Result.andThen_ok, binOp, Sem.run_bind, bool_eq ty, Sem.run_pure]
    cases a <;> cases b <;> rfl
end
section
variable {P : Program} {all : Array Oper} {o : Oper} {K : S → Prop} {rest : List Oper} {p : Nat} {fp : List Fp} {R W : List Loc} {n d : Nat} {t : Nat → X} {L : Nat → Option AO} {H H' : Heap} {x : X}
theorem LOp.q0 {s : S} (h : QV P o s x) (hg : o.guard = none) (hdst : o.dst = none) : LOp P all o (lookT all o) (dstT o) s s := by
  have := LOp.q (all := all) h hg (by rw [hdst]; rfl)
  rw [hdst] at this
  exact this
theorem SeqK.q0 {s : S} (h : QV P o s x) (hg : o.guard = none) (hdst : o.dst = none) (k : SeqK P all K rest s) : SeqK P all K (o :: rest) s := .step (.q0 h hg hdst) k
theorem LexK.q0 {s : S} (h : QV P o s x) (hg : o.guard = none) (hdst : o.dst = none) (k : LexK P all K rest s p (fp ++ [(lookT all o, dstT o)])) : LexK P all K (o :: rest) s p fp := .cons (.q0 h hg hdst) k
section
variable {f : FuncId} {ys : Array Operand} {ts : Array TypeId} {args : List C}
theorem g_call {x : X} (ho : o.op = .call { callee := .value (.func f), args := ys, argTypes := ts }) (hf : fnB P f = true) (ha : argsX ⟨n, t, L, H⟩ ys.toList = some args) (h : Spec P f args H fun y H' => y = x ∧ H' = H) (hx : x.loc = none) (hdst : o.dst = some d) (hd : Nat.blt d n = true) :
    LR P o (.h :: lk o) (dstT o) ⟨n, t, L, H⟩ ⟨n, upd t d x, L, H⟩ := lr_cast (h_call ho hf ha h hx (inb' hdst hd)) (by rw [hdst]; rfl)
end
section
variable {tt et : TypeId} {y z : Operand} {agg : Bool} {m k off sz : Nat} {cells r : List A} {c : C}
theorem g_loadR (ho : o.op = .load tt y) (ty : tyB P tt agg m = true) (hy : S.eval ⟨n, t, L, H⟩ y = .c (.a (.bp k off))) (hH : H k = some (.row et sz cells)) (hr : mkC agg ((cells.drop off).take m) = c) (hn : off + m ≤ cells.length) (h0 : 0 < m) (hdst : o.dst = some d) (hd : Nat.blt d n = true) :
    LR P o (.h :: lk o) (dstT o) ⟨n, t, L, H⟩ ⟨n, upd t d (.c c), L, H⟩ := lr_cast (h_loadR c ho ty hy hH hr hn h0 (inb' hdst hd)) (by rw [hdst]; rfl)
theorem g_storeR (ho : o.op = .store tt y z) (hdst : o.dst = none) (ty : tyB P tt agg m = true) (hy : S.eval ⟨n, t, L, H⟩ y = .c (.a (.bp k off))) (hz : S.eval ⟨n, t, L, H⟩ z = .c c) (hH : H k = some (.row et sz cells)) (hr : splice cells off c.cells = r) (hx : c.cells.length = m) (hn : off + m ≤ cells.length) (h0 : 0 < m) :
    LR P o (.h :: lk o) [.h] ⟨n, t, L, H⟩ ⟨n, t, L, upd H k (some (.row et sz r))⟩ := h_storeR r ho hdst ty hy hz hH hr hx hn h0
end
theorem AW.tip {cd : Code} {Q : Exit → S → Prop} (i : Nat) (e sz : Nat) (hi : t i = tv (.slice none 0 0)) (k : ∀ k, H k = none → AW P cd Q ⟨n, upd t i (.c (.a (.ts k .ne sz []))), L, upd H k (some (.tip e sz 0))⟩) : AW P cd Q ⟨n, t, L, H⟩ :=
  AW.gh (Gh.tip i e sz hi) fun s' ⟨k', h1, h2⟩ => h2 ▸ k k' h1
theorem AW.row {cd : Code} {Q : Exit → S → Prop} (i : Nat) (e sz : Nat) (hi : t i = tv (.slice none 0 0)) (k : ∀ k, H k = none → AW P cd Q ⟨n, upd t i (.c (.a (.os k 0 0 sz))), L, upd H k (some (.row e sz []))⟩) : AW P cd Q ⟨n, t, L, H⟩ :=
  AW.gh (Gh.row i e sz hi) fun s' ⟨k', h1, h2⟩ => h2 ▸ k k' h1
theorem AW.freeze {cd : Code} {Q : Exit → S → Prop} (k sz : Nat) (e : TypeId) (es : List (List T)) (hk : H k = some (.row e sz (es.flatten.map .t))) (hl : ∀ e ∈ es, e.length = sz) (h0 : 0 < sz) (k' : AW P cd Q ⟨n, fun i => fzX k sz es (t i), L, upd H k none⟩) : AW P cd Q ⟨n, t, L, H⟩ :=
  AW.gh (Gh.freeze k sz e es hk hl h0) fun s' h2 => h2 ▸ k'
end
section
variable {P : Program} {all : Array Oper} {o : Oper} {s : S} {K : S → Prop} {rest : List Oper} {p : Nat} {fp : List Fp} {n d : Nat} {t : Nat → X} {L : Nat → Option AO} {H : Heap}
theorem OpW.callOn {f : FuncId} {ys : Array Operand} {ts : Array TypeId} {args : List C} {Q : X → Heap → Prop} {j i : Nat} {b : Bool} (ho : o.op = .call { callee := .value (.func f), args := ys, argTypes := ts }) (hg : o.guard = some (j, b)) (hj : (all[j]?).bind (·.dst) = some i) (hb : t i = tv (.bool b)) (hdst : o.dst = some d) (hd : Nat.blt d n = true) (hf : fnB P f = true) (ha : argsX ⟨n, t, L, H⟩ ys.toList = some args) (h : Spec P f args H Q) (hl : ∀ x H', Q x H' → x.loc = none)
    (k : ∀ x H', Q x H' → K ⟨n, upd t d x, L, H'⟩) : OpW P all o K ⟨n, t, L, H⟩ := fun c a w g => by
  unfold opRun
  rw [if_pos (by simp [Region.wanted, hg, yield_of g hj hb])]
  refine wp_weak (call_wp g ho hf ha h hl (inb' hdst hd)) ?_
  rintro a' w' ⟨x, H', c', hq, g', x'⟩
  rw [hdst] at g' x'
  exact ⟨_, c', k x H' hq, g', x'⟩
theorem SeqK.callOn {f : FuncId} {ys : Array Operand} {ts : Array TypeId} {args : List C} {Q : X → Heap → Prop} {j i : Nat} {b : Bool} (ho : o.op = .call { callee := .value (.func f), args := ys, argTypes := ts }) (hg : o.guard = some (j, b)) (hj : (all[j]?).bind (·.dst) = some i) (hb : t i = tv (.bool b)) (hdst : o.dst = some d) (hd : Nat.blt d n = true) (hf : fnB P f = true) (ha : argsX ⟨n, t, L, H⟩ ys.toList = some args) (h : Spec P f args H Q) (hl : ∀ x H', Q x H' → x.loc = none)
    (k : ∀ x H', Q x H' → SeqK P all K rest ⟨n, upd t d x, L, H'⟩) : SeqK P all K (o :: rest) ⟨n, t, L, H⟩ := SeqK.any (OpW.callOn ho hg hj hb hdst hd hf ha h hl k)
theorem q_minmax {b : Builtin} {ts : Array TypeId} {x y : Operand} {a c r : Value} (ho : o.op = .call { callee := .builtin b, args := #[x, y], argTypes := ts }) (hx : s.eval x = tv a) (hy : s.eval y = tv c) (h1 : r.oneCell' = true) (h : ∀ cs w, (builtin b ts o.type cs #[a, c]).run P w = .ok (.value r) w) : QV P o s (tv r) :=
  .of_same (fun _ => nolp) fun cc w f hm hr => by
    have ha := hr x (by rw [ho]; simp [Op.operands, Call.operands])
    have hb := hr y (by rw [ho]; simp [Op.operands, Call.operands])
    rw [hx] at ha
    rw [hy] at hb
    have ha := rep_tv ha
    have hb := rep_tv hb
    exact ⟨r, by simp [execOp, ho, ha, hb, resolve, invoke, h], tv_rep h1⟩
section
variable {ts : Array TypeId} {x y : Operand} {k : IntKind} {a b : Int} {u v : ByteArray}
theorem q_min (ho : o.op = .call { callee := .builtin .min, args := #[x, y], argTypes := ts }) (hx : s.eval x = iX k a) (hy : s.eval y = iX k b) : QV P o s (iX k (min a b)) :=
  q_minmax ho hx hy rfl fun cs w => by
    have : min a b = if b < a then b else a := by rw [Int.min_def]; split <;> split <;> omega
    simp [builtin, Builtin.min_, Builtin.min2, this]
theorem q_max (ho : o.op = .call { callee := .builtin .max, args := #[x, y], argTypes := ts }) (hx : s.eval x = iX k a) (hy : s.eval y = iX k b) : QV P o s (iX k (max a b)) :=
  q_minmax ho hx hy rfl fun cs w => by
    have : max a b = if b > a then b else a := by rw [Int.max_def]; split <;> split <;> omega
    simp [builtin, Builtin.max_, Builtin.max2, this]
end
end
theorem upd_sub {α : Type} {f : Nat → Option α} {k : Nat} {x : Option α} (h : f k = none) : ∀ j o, f j = some o → upd f k x j = some o := fun j o hj => by
  rw [upd_ne _ _ (fun e => by rw [e, h] at hj; cases hj)]; exact hj
def XW (x y : X) : Prop := y.loc = none ∧ ∀ c v, RepX c x v → RepX c y v
theorem XW.nil {sz : Nat} : XW (tv (.slice none 0 0)) (.c (.a (.t (.sl .ne sz [])))) := ⟨rfl, fun c v h => by
  have := rep_tv h; subst this; exact RepA.t (.nil (by simp))⟩
theorem XW.nilU {sz : Nat} : XW (tv (.slice none 0 0)) (.c (.a (.t (.sl .un sz [])))) := ⟨rfl, fun c v h => by
  have := rep_tv h; subst this; exact RepA.t (.nil (by simp))⟩
theorem XW.un {z : Nz} {sz : Nat} {es : List (List T)} : XW (.c (.a (.t (.sl z sz es)))) (.c (.a (.t (.sl .un sz es)))) := ⟨rfl, fun c v h => by
  cases h with | t h => exact RepA.t h.forget⟩
theorem XW.ts {k : Nat} {z : Nz} {sz : Nat} {es : List (List T)} : XW (.c (.a (.ts k z sz es))) (.c (.a (.t (.sl z sz es)))) := ⟨rfl, fun c v h => aw_rep (x := .ts k z sz es) h⟩
theorem XW.any {x : X} : XW x .any := ⟨rfl, fun _ _ _ => trivial⟩
section
variable {P : Program} {all : Array Oper} {o : Oper} {s s' : S} {K : S → Prop} {rest : List Oper} {cd : Code} {Q : Exit → S → Prop} {n d : Nat} {t : Nat → X} {L : Nat → Option AO} {H : Heap}
theorem Wk.xw (i : Nat) {x y : X} (hi : t i = x) (h : XW x y) : Wk ⟨n, t, L, H⟩ ⟨n, upd t i y, L, H⟩ := fun c a w g =>
  ⟨c, g.reT (h.2 c _ (by have := g.tmps i; simp only [hi] at this; exact this)) h.1, .refl _ _ _⟩
theorem AW.xw (i : Nat) {x y : X} (hi : t i = x) (h : XW x y) (k : AW P cd Q ⟨n, upd t i y, L, H⟩) : AW P cd Q ⟨n, t, L, H⟩ := .wk (.xw i hi h) k
theorem SeqK.eqlNU {tt u : TypeId} {x y : Operand} {z : Nz} {sz : Nat} {es : List (List T)} (ho : o.op = .binOp .eql tt x y u) (hg : o.guard = none) (hdst : o.dst = some d) (hd : Nat.blt d n = true) (hx : S.eval ⟨n, t, L, H⟩ x = .c (.a (.t (.sl z sz es)))) (hy : nilT (S.eval ⟨n, t, L, H⟩ y) = some (.sl, true)) (ty : nkB P tt .sl = true)
    (k : ∀ b, (b = true → es = []) → SeqK P all K rest ⟨n, upd t d (bX b), L, H⟩) : SeqK P all K (o :: rest) ⟨n, t, L, H⟩ := by
  intro c a w g
  unfold opRun
  rw [if_pos (by simp [Region.wanted, hg])]
  have ha := g.eval x
  rw [hx] at ha
  have hb := nilT_rep (g.eval y) hy
  obtain ⟨b, hv, he⟩ : ∃ b, NV .sl b (a.eval x) ∧ (b = true → es = []) := by
    generalize a.eval x = v at ha
    cases ha with | t ha =>
    cases ha with
    | nil h => exact ⟨true, ⟨_, _, rfl⟩, fun _ => rfl⟩
    | emp h => exact ⟨false, ⟨_, _, _, rfl⟩, fun h => by cases h⟩
    | sl u ne => exact ⟨false, ⟨_, _, _, rfl⟩, fun h => by cases h⟩
  have hrun : (execOp a.eval o).run P w = .ok (.value (.bool b)) w := by
    simp only [execOp, ho, Sem.run_bind, nil_guard hv, Result.andThen_ok, (nil_bin ty hv hb w).1]; rfl
  refine wp_to ?_
  unfold Oper.wp
  rw [hrun]
  refine ⟨_, c, k b he, ?_, .refl _ _ _⟩
  have := g.put (some d) (x := bX b) (v := .bool b) (by have h9 := inb' (o := o) hdst hd; rw [hdst] at h9; exact h9) (tv_rep rfl) (fun _ h => by cases h)
  rw [hdst]; exact this
theorem q_build0 {tt e : TypeId} {sz bytes : Nat} (ho : o.op = .buildSlice tt 0 #[]) (ty : elB P tt e sz bytes = true) : QV P o s (.c (.a (.ts 0 .nn sz []))) :=
  .of_run (fun _ => nolp) fun c w a hm hrep => by
    obtain ⟨i, z, h1, h2, h3, h4, h5, h6, h7⟩ := elB_get ty
    refine ⟨.slice (some ⟨w.heap.size, 0, none⟩) 0 0, w.alloc (.cells #[] e), c, ?_, .tsE, .alloc hm _⟩
    have e0 : Array.map (fun x : Nat => (default : Value)) (Array.range 0) = #[] := by simp
    simp [execOp, ho, Instr.buildSlice, run_underlying h1, sizeOf, typeInfo, h2, newRow, Instr.fill, e0]
end
section
variable {P : Program} {cd : Code} {Q : Exit → S → Prop} {n d : Nat} {t : Nat → X} {L : Nat → Option AO} {H : Heap}
theorem Sat.reL {c : Ctx} {a : Act} {w : World} {x x' : AO} (g : Sat c ⟨n, t, L, H⟩ a w) (hd : L d = some x) (hx : ¬ x.empty) (h : ∀ b m, ORep c w x b m → ORep c w x' b m) : Sat c ⟨n, t, upd L d (some x'), H⟩ a w ∧ Ext c (S.own ⟨n, t, L, H⟩) w c (S.own ⟨n, t, upd L d (some x'), H⟩) w := by
  have own' : ∀ i y, S.own ⟨n, t, upd L d (some x'), H⟩ i = some y → (i = .l d ∧ y = x') ∨ (i ≠ .l d ∧ S.own ⟨n, t, L, H⟩ i = some y) := fun i y hi => by
    cases i with
    | e k => exact .inr ⟨by simp, hi⟩
    | l e =>
      have hi : upd L d (some x') e = some y := hi
      by_cases h : e = d
      · subst h; rw [upd_same] at hi; exact .inl ⟨rfl, by injection hi with hi; exact hi.symm⟩
      · rw [upd_ne _ _ h] at hi; exact .inr ⟨by simpa using h, hi⟩
  have old : ∀ i y, S.own ⟨n, t, upd L d (some x'), H⟩ i = some y → ¬ y.empty → ∃ z, S.own ⟨n, t, L, H⟩ i = some z ∧ ¬ z.empty := fun i y hi hy => by
    rcases own' i y hi with ⟨rfl, rfl⟩ | ⟨_, h⟩
    · exact ⟨x, hd, hx⟩
    · exact ⟨y, h, hy⟩
  refine ⟨⟨⟨g.conc.mem, fun i y hi hy => ?_, fun i j y z b n1 n2 hi hj hy hz h1 h2 => ?_, ?_, g.conc.tabw, fun tg cs th i y n1 hi hy h1 => by
    obtain ⟨y', h3, h4⟩ := old i y hi hy
    exact g.conc.tabo tg cs th i y' n1 h3 h4 h1⟩, g.size, g.tmps, g.defers, fun i e hi => ?_⟩, ⟨rfl, rfl, rfl, Nat.le_refl _, fun _ _ _ => rfl, fun _ _ _ h => h, fun _ _ _ h => .inl h, fun _ _ h => h, fun i y b n1 hi hy h1 => ?_, rfl, fun k y hk => .inl (by have hk : H k = some y := hk; show H k ≠ none; rw [hk]; simp)⟩⟩
  · rcases own' i y hi with ⟨rfl, rfl⟩ | ⟨_, h1⟩
    · obtain ⟨b, m, h2, h3⟩ := g.conc.obj (.l d) x hd hx
      exact ⟨b, m, h2, h b m h3⟩
    · exact g.conc.obj i y h1 hy
  · obtain ⟨y', h3, h4⟩ := old i y hi hy
    obtain ⟨z', h5, h6⟩ := old j z hj hz
    exact g.conc.inj i j y' z' b n1 n2 h3 h5 h4 h6 h1 h2
  · exact g.conc.fin
  · show upd L d (some x') e ≠ none
    by_cases h : e = d
    · subst h; rw [upd_same]; simp
    · rw [upd_ne _ _ h]; exact g.wf i e hi
  · obtain ⟨y', h3, h4⟩ := old i y hi hy
    exact .inr ⟨i, y', n1, h3, h4, h1⟩
theorem Gh.tipL (d i : Nat) (e sz : Nat) {cells : List A} (hd : L d = some (.box cells)) (hi : cells[i]? = some (.t (.v (.slice none 0 0)))) : Gh ⟨n, t, L, H⟩ fun s' => ∃ k, H k = none ∧ s' = ⟨n, t, upd L d (some (.box (cells.set i (.ts k .ne sz [])))), upd H k (some (.tip e sz 0))⟩ := by
  intro c a w g
  obtain ⟨k, h1, h2, h3⟩ := g.add0 (x := .tip e sz 0) rfl
  obtain ⟨h4, h5⟩ := h2.reL (x' := .box (cells.set i (.ts k .ne sz []))) hd (by simp [AO.empty]) fun b m ⟨us, ty, q1, q2, q3⟩ => by
    refine ⟨us, ty, q1, ?_, q3⟩
    obtain ⟨v, hv, hr⟩ := q2.get hi
    have hv' : v = .slice none 0 0 := by cases hr with | t h => cases h; rfl
    subst hv'
    have := q2.set i (x := .ts k .ne sz []) (v := .slice none 0 0) .ts0
    have e1 : us.toList.set i (.slice none 0 0) = us.toList := by
      apply List.ext_getElem?
      intro j
      rw [List.getElem?_set]
      split
      · rename_i hij; subst hij
        split
        · exact hv.symm
        · rename_i hh; rw [List.getElem?_eq_none (by omega)]
      · rfl
    rwa [e1] at this
  exact ⟨_, c, ⟨k, h1, rfl⟩, h4, h3.trans h5⟩
theorem AW.tipL (d i : Nat) (e sz : Nat) {cells : List A} (hd : L d = some (.box cells)) (hi : cells[i]? = some (.t (.v (.slice none 0 0)))) (k : ∀ k, H k = none → AW P cd Q ⟨n, t, upd L d (some (.box (cells.set i (.ts k .ne sz [])))), upd H k (some (.tip e sz 0))⟩) : AW P cd Q ⟨n, t, L, H⟩ :=
  AW.gh (Gh.tipL d i e sz hd hi) fun s' ⟨k', h1, h2⟩ => h2 ▸ k k' h1
end
section
variable {α : Type}
def buildA : List (Nat × Nat) → Nat → List α → List (Nat × List α) → Option (List α)
  | [], _, z, [] => match z with | [] => some [] | _ => none
  | [], _, _, _ :: _ => none
  | (_, sz) :: pl, i, z, [] => match buildA pl (i + 1) (z.drop sz) [] with | some r => some (z.take sz ++ r) | none => none
  | (_, sz) :: pl, i, z, (j, v) :: ps => bif Nat.beq j i then (bif Nat.beq v.length sz then (match buildA pl (i + 1) (z.drop sz) ps with | some r => some (v ++ r) | none => none) else none)
    else (match buildA pl (i + 1) (z.drop sz) ((j, v) :: ps) with | some r => some (z.take sz ++ r) | none => none)
def contB : List (Nat × Nat) → Nat → Nat → Bool
  | [], o, n => Nat.beq o n
  | (off, sz) :: pl, o, n => Nat.beq off o && contB pl (o + sz) n
theorem splice_mid {pre z v : List α} (h : v.length ≤ z.length) : splice (pre ++ z) pre.length v = pre ++ v ++ z.drop v.length := by
  simp [splice, List.take_append, List.drop_append]
theorem fill_buildA {pl0 : List (Nat × Nat)} : ∀ (pl : List (Nat × Nat)) (i : Nat) (pre z : List α) (ps : List (Nat × List α)) (r : List α), pl0.drop i = pl → contB pl pre.length (pre.length + z.length) = true → buildA pl i z ps = some r → fillA pl0 (pre ++ z) ps = some (pre ++ r)
  | [], i, pre, z, [], r, h0, hc, h => by
    cases z with
    | nil => cases h; rfl
    | cons => cases h
  | [], i, pre, z, _ :: _, r, h0, hc, h => by cases h
  | (off, sz) :: pl, i, pre, z, ps, r, h0, hc, h => by
    simp only [contB, Bool.and_eq_true] at hc
    have ho := Nat.eq_of_beq_eq_true hc.1
    have hz : sz ≤ z.length := by
      have key : ∀ (pl : List (Nat × Nat)) (o n : Nat), contB pl o n = true → o ≤ n := by
        intro pl
        induction pl with
        | nil => intro o n h; exact Nat.le_of_eq (Nat.eq_of_beq_eq_true h)
        | cons p pl ih => intro o n h; simp only [contB, Bool.and_eq_true] at h; have := ih _ _ h.2; omega
      have := key _ _ _ hc.2; omega
    have hpl : pl0[i]? = some (off, sz) := by
      have : (pl0.drop i)[0]? = some (off, sz) := by rw [h0]; rfl
      simpa using this
    have hd : pl0.drop (i + 1) = pl := by
      have : (pl0.drop i).drop 1 = pl := by rw [h0]; rfl
      rw [List.drop_drop] at this; exact this
    have keep : ∀ ps r', buildA pl (i + 1) (z.drop sz) ps = some r' → fillA pl0 (pre ++ z) ps = some (pre ++ (z.take sz ++ r')) := fun ps r' h => by
      have := fill_buildA pl (i + 1) (pre ++ z.take sz) (z.drop sz) ps r' hd (by rw [List.length_append, List.length_take, List.length_drop, Nat.min_eq_left hz, ← Nat.add_sub_assoc hz, Nat.add_right_comm, Nat.add_sub_cancel]; exact hc.2) h
      rw [List.append_assoc, List.take_append_drop] at this
      rw [this, List.append_assoc]
    cases ps with
    | nil =>
      simp only [buildA] at h
      cases h1 : buildA pl (i + 1) (z.drop sz) [] with
      | none => rw [h1] at h; cases h
      | some r' => rw [h1] at h; cases h; exact keep _ _ h1
    | cons p ps =>
      obtain ⟨j, v⟩ := p
      simp only [buildA] at h
      cases hj : Nat.beq j i with
      | false =>
        rw [hj] at h
        simp only [cond_false] at h
        cases h1 : buildA pl (i + 1) (z.drop sz) ((j, v) :: ps) with
        | none => rw [h1] at h; cases h
        | some r' => rw [h1] at h; cases h; exact keep _ _ h1
      | true =>
        rw [hj] at h
        have hj := Nat.eq_of_beq_eq_true hj
        subst hj
        simp only [cond_true] at h
        cases hv : Nat.beq v.length sz with
        | false => rw [hv] at h; cases h
        | true =>
          rw [hv] at h
          have hv := Nat.eq_of_beq_eq_true hv
          simp only [cond_true] at h
          cases h1 : buildA pl (j + 1) (z.drop sz) ps with
          | none => rw [h1] at h; cases h
          | some r' =>
            rw [h1] at h; cases h
            simp only [fillA, hpl]
            rw [if_pos ⟨hv, by rw [ho, List.length_append]; omega⟩, ho, splice_mid (by omega), hv]
            have := fill_buildA pl (j + 1) (pre ++ v) (z.drop sz) ps r' hd (by rw [List.length_append, hv, List.length_drop, ← Nat.add_sub_assoc hz, Nat.add_right_comm, Nat.add_sub_cancel]; exact hc.2) h1
            rw [this, List.append_assoc]
end
section
variable {P : Program} {o : Oper} {s : S}
theorem q_build2 {t : TypeId} {parts : Array (Nat × Operand)} {z : Value} {zs r : List A} (pl : List (Nat × Nat)) (ps : List (Nat × List A)) (ho : o.op = .build t parts) (hz : zeroIs P t z) (h1 : z.cells.toList.all Value.oneCell' = true) (hp : bplB P t pl = true)
    (hps : partsX s parts.toList = some ps) (hzs : z.cells.toList.map litA = zs) (hc : contB pl 0 zs.length = true) (hr : buildA pl 0 zs ps = some r) : QV P o s (.c (.g r)) :=
  q_build pl ps r ho hz h1 hp hps (by
    subst hzs
    have := fill_buildA (pl0 := pl) pl 0 [] _ ps r rfl (by simpa using hc) hr
    simpa using this)
end
structure MOk (kk : KK) (es : List ME) (ck : Nat) : Prop where
  key : ∀ m ∈ es, kok kk m.k = true
  born : ∀ m ∈ es, m.b < ck
  nodup : (es.map (·.k)).Nodup
  inj : (es.map (·.b)).Nodup
section
variable {kk : KK} {k k' : Value} {x : C} {ck : Nat} {es : List ME}
theorem MOk.nil : MOk kk [] 0 := ⟨fun _ h => by simp at h, fun _ h => by simp at h, by simp, by simp⟩
theorem keq_refl (hk : kok kk k = true) : keq k k = true := (keq_iff hk hk).2 rfl
theorem mget_none (hk : kok kk k = true) (hs : ∀ m ∈ es, kok kk m.k = true) (h : mget k es = none) : ∀ m ∈ es, m.k ≠ k := by
  induction es with
  | nil => intro m hm; simp at hm
  | cons e es ih =>
    simp only [mget] at h
    cases hq : keq k e.k with
    | true => rw [hq] at h; cases h
    | false =>
      rw [hq] at h
      intro m hm
      rcases List.mem_cons.1 hm with rfl | hm
      · intro e1; rw [← e1, keq_refl (hs m (by simp))] at hq; cases hq
      · exact ih (fun m hm => hs m (by simp [hm])) h m hm
theorem mset_keys (hk : kok kk k = true) (hs : ∀ m ∈ es, kok kk m.k = true) : (mset k x ck es).map (·.k) = match mget k es with | some _ => es.map (·.k) | none => es.map (·.k) ++ [k] := by
  induction es with
  | nil => rfl
  | cons e es ih =>
    have ih := ih fun m hm => hs m (by simp [hm])
    simp only [mset, mget]
    cases h : keq k e.k with
    | true => have := (keq_iff hk (hs e (by simp))).1 h; subst this; rfl
    | false =>
      simp only [cond_false, List.map_cons, ih]
      cases mget k es <;> rfl
theorem mset_borns : (mset k x ck es).map (·.b) = match mget k es with | some _ => es.map (·.b) | none => es.map (·.b) ++ [ck] := by
  induction es with
  | nil => rfl
  | cons e es ih =>
    simp only [mset, mget]
    cases h : keq k e.k with
    | true => rfl
    | false =>
      simp only [cond_false, List.map_cons, ih]
      cases mget k es <;> rfl
theorem mem_mset {m : ME} (h : m ∈ mset k x ck es) : m ∈ es ∨ (m.k = k ∧ (m.b = ck ∨ ∃ e ∈ es, m.b = e.b)) := by
  induction es with
  | nil => simp [mset] at h; subst h; exact .inr ⟨rfl, .inl rfl⟩
  | cons e es ih =>
    simp only [mset] at h
    cases hq : keq k e.k with
    | true =>
      rw [hq] at h
      rcases List.mem_cons.1 h with rfl | h
      · exact .inr ⟨rfl, .inr ⟨e, by simp, rfl⟩⟩
      · exact .inl (by simp [h])
    | false =>
      rw [hq] at h
      rcases List.mem_cons.1 h with rfl | h
      · exact .inl (by simp)
      · rcases ih h with h | ⟨h1, h2 | ⟨e', h2, h3⟩⟩
        · exact .inl (by simp [h])
        · exact .inr ⟨h1, .inl h2⟩
        · exact .inr ⟨h1, .inr ⟨e', by simp [h2], h3⟩⟩
theorem MOk.set (h : MOk kk es ck) (hk : kok kk k = true) : MOk kk (mset k x ck es) (mclock k es ck) := by
  have hle : ck ≤ mclock k es ck := by unfold mclock; split <;> omega
  refine ⟨fun m hm => ?_, fun m hm => ?_, ?_, ?_⟩
  · rcases mem_mset hm with h1 | ⟨h1, _⟩
    · exact h.key m h1
    · rw [h1]; exact hk
  · cases hg : mget k es with
    | some y =>
      have hb := mset_borns (k := k) (x := x) (ck := ck) (es := es)
      rw [hg] at hb
      have : m.b ∈ (mset k x ck es).map (·.b) := List.mem_map.2 ⟨m, hm, rfl⟩
      rw [hb] at this
      obtain ⟨e, h1, h2⟩ := List.mem_map.1 this
      have := h.born e h1; omega
    | none =>
      have hc : mclock k es ck = ck + 1 := by simp [mclock, hg]
      rcases mem_mset hm with h1 | ⟨_, h1 | ⟨e, h1, h2⟩⟩
      · have := h.born m h1; omega
      · omega
      · have := h.born e h1; omega
  · rw [mset_keys hk h.key]
    cases hg : mget k es with
    | some y => exact h.nodup
    | none =>
      simp only
      rw [List.nodup_append]
      refine ⟨h.nodup, by simp, fun a ha b hb e => ?_⟩
      simp at hb; subst hb e
      obtain ⟨m, hm, e1⟩ := List.mem_map.1 ha
      exact mget_none hk h.key hg m hm e1
  · rw [mset_borns]
    cases hg : mget k es with
    | some y => exact h.inj
    | none =>
      simp only
      rw [List.nodup_append]
      refine ⟨h.inj, by simp, fun a ha b hb e => ?_⟩
      simp at hb; subst hb e
      obtain ⟨m, hm, e1⟩ := List.mem_map.1 ha
      have := h.born m hm; omega
end
open Classical in
theorem Spec.frame {P : Program} {f : FuncId} {args : List C} {H Hi : Heap} {Q : X → Heap → Prop} (h : Spec P f args Hi Q) (hs : ∀ k o, Hi k = some o → H k = some o) :
    Spec P f args H fun x H'' => ∃ H', Q x H' ∧ (∀ k o, H' k = some o → ¬ o.empty → H'' k = some o) ∧ (∀ k o, H k = some o → Hi k = none → ¬ o.empty → H'' k = some o) ∧ (∀ k o o', H' k = some o → ¬ o.empty → H k = some o' → Hi k = none → o'.empty) := by
  intro c w vs hc hr
  have sub : ∀ i x, ownH Hi i = some x → ownH H i = some x := fun i x hi => by cases i with
    | e k => exact hs k x hi
    | l d => cases hi
  refine (h c w vs (hc.sub sub) hr).mono ?_
  rintro e w' ⟨v, x, H', c', he, hq, hx, hc', hE⟩
  -- the rest
  let Hr : Heap := fun k => match Hi k, H k with | none, some o => if o.empty then none else some o | _, _ => none
  let Hn : Heap := fun k => match H' k with | some o => if o.empty then Hr k else some o | none => Hr k
  have hr1 : ∀ k o, Hr k = some o → H k = some o ∧ Hi k = none ∧ ¬ o.empty := fun k o hk => by
    simp only [Hr] at hk
    cases h1 : Hi k with
    | some y => rw [h1] at hk; cases hk
    | none =>
      rw [h1] at hk
      cases h2 : H k with
      | none => rw [h2] at hk; cases hk
      | some y =>
        rw [h2] at hk
        simp only at hk
        split at hk
        · cases hk
        · injection hk with hk; subst hk; exact ⟨rfl, rfl, by assumption⟩
  -- an object of the rest lies apart from what the call may turn
  have apart : ∀ k o b n, Hr k = some o → c.β k = some (b, n) → b < w.heap.size ∧ ∀ i y m, ownH Hi i = some y → ¬ y.empty → c.pos i ≠ some (b, m) := fun k o b n hk hb => by
    obtain ⟨h1, h2, h3⟩ := hr1 k o hk
    obtain ⟨b', n', h4, h5⟩ := hc.obj (.e k) o h1 h3
    have h4 : c.β k = some (b', n') := h4
    rw [hb] at h4; injection h4 with h4; injection h4 with e1 e2; subst e1 e2
    refine ⟨h5.lt, fun i y m hi hy hp => ?_⟩
    have := hc.inj i (.e k) y o b m n (sub i y hi) h1 hy h3 hp hb
    subst this
    have hi : Hi k = some y := hi
    rw [h2] at hi; cases hi
  have posr : ∀ k o, Hr k = some o → ∃ b n, c.β k = some (b, n) ∧ c'.β k = some (b, n) ∧ ORep c' w' o b n := fun k o hk => by
    obtain ⟨h1, h2, h3⟩ := hr1 k o hk
    obtain ⟨b, n, h4, h5⟩ := hc.obj (.e k) o h1 h3
    obtain ⟨h6, h7⟩ := apart k o b n hk h4
    refine ⟨b, n, h4, hE.ext k _ h4, h5.keep (hE.blk b h6 fun i y m hi hy => h7 i y m hi hy) hE.mem (fun q u hq => ?_) hE.ext⟩
    rcases hE.new b q u hq with h8 | h8 | ⟨i, y, m, h8, h9, h10⟩
    · exact h8
    · omega
    · exact absurd h10 (h7 i y m h8 h9)
  -- two names: one of the call's, one of the rest
  have clash : ∀ k k' o o' b n m, H' k = some o → ¬ o.empty → c'.β k = some (b, n) → Hr k' = some o' → c'.β k' = some (b, m) → False := fun k k' o o' b n m h1 h2 h3 h4 h5 => by
    obtain ⟨b', n', h6, h7, _⟩ := posr k' o' h4
    rw [h5] at h7; injection h7 with h7; injection h7 with e1 e2; subst e1 e2
    obtain ⟨h8, h9⟩ := apart k' o' b m h4 h6
    rcases hE.own (.e k) o b n h1 h2 h3 with h10 | ⟨j, y, q, h10, h11, h12⟩
    · omega
    · exact h9 j y q h10 h11 h12
  have own' : ∀ i y, ownH Hn i = some y → ¬ y.empty ∧ (ownH H' i = some y ∨ ∃ k, i = .e k ∧ Hr k = some y) ∨ (y.empty ∧ False) := fun i y hi => by
    cases i with
    | l d => cases hi
    | e k =>
      have hi : Hn k = some y := hi
      simp only [Hn] at hi
      cases h1 : H' k with
      | none => rw [h1] at hi; exact .inl ⟨(hr1 k y hi).2.2, .inr ⟨k, rfl, hi⟩⟩
      | some z =>
        rw [h1] at hi
        simp only at hi
        split at hi
        · exact .inl ⟨(hr1 k y hi).2.2, .inr ⟨k, rfl, hi⟩⟩
        · injection hi with hi; subst hi; exact .inl ⟨by assumption, .inl h1⟩
  have hcn : Conc c' (ownH Hn) w' := by
    refine ⟨hc'.mem, fun i y hi hy => ?_, fun i j y z b n m hi hj hy hz h1 h2 => ?_, ?_, hc'.tabw, fun tg cs th i y n hi hy hp => by
      rcases own' i y hi with ⟨_, h1 | ⟨k, rfl, h1⟩⟩ | ⟨_, h1⟩
      · exact hc'.tabo tg cs th i y n h1 hy hp
      · obtain ⟨b, m, h2, h3, _⟩ := posr k y h1
        have hp : c'.β k = some (tg, n) := hp
        rw [h3] at hp; injection hp with hp; injection hp with e1 e2; subst e1
        exact hc.tabo b cs th (.e k) y m (hr1 k y h1).1 hy h2
      · exact h1.elim⟩
    · rcases own' i y hi with ⟨_, h1 | ⟨k, rfl, h1⟩⟩ | ⟨_, h1⟩
      · exact hc'.obj i y h1 hy
      · obtain ⟨b, n, _, h2, h3⟩ := posr k y h1; exact ⟨b, n, h2, h3⟩
      · exact h1.elim
    · rcases own' i y hi with ⟨_, h3 | ⟨k, rfl, h3⟩⟩ | ⟨_, h3⟩
      · rcases own' j z hj with ⟨_, h4 | ⟨k', rfl, h4⟩⟩ | ⟨_, h4⟩
        · exact hc'.inj i j y z b n m h3 h4 hy hz h1 h2
        · cases i with
          | l d => cases h3
          | e k => exact (clash k k' y z b n m h3 hy h1 h4 h2).elim
        · exact h4.elim
      · rcases own' j z hj with ⟨_, h4 | ⟨k', rfl, h4⟩⟩ | ⟨_, h4⟩
        · cases j with
          | l d => cases h4
          | e k' => exact (clash k' k z y b m n h4 hz h2 h3 h1).elim
        · obtain ⟨b1, n1, h5, h6, _⟩ := posr k y h3
          obtain ⟨b2, n2, h7, h8, _⟩ := posr k' z h4
          have h1 : c'.β k = some (b, n) := h1
          have h2 : c'.β k' = some (b, m) := h2
          rw [h6] at h1; rw [h8] at h2
          injection h1 with h1; injection h1 with e1 e2; subst e1 e2
          injection h2 with h2; injection h2 with e1 e2; subst e1 e2
          exact hc.inj (.e k) (.e k') y z _ _ _ (hr1 k y h3).1 (hr1 k' z h4).1 hy hz h5 h7
        · exact h4.elim
      · exact h3.elim
    · obtain ⟨N, hN⟩ := hc'.fin
      obtain ⟨N', hN'⟩ := hc.fin
      refine ⟨max N N', fun k hk => ⟨(hN k (by omega)).1, ?_⟩⟩
      cases hn : ownH Hn (.e k) with
      | none => rfl
      | some y =>
        rcases own' _ y hn with ⟨_, h1 | ⟨k', h1, h2⟩⟩ | ⟨_, h1⟩
        · rw [(hN k (by omega)).2] at h1; cases h1
        · injection h1 with h1; subst h1
          have h3 := (hr1 k y h2).1
          have h4 : H k = none := (hN' k (by omega)).2
          rw [h4] at h3; cases h3
        · exact h1.elim
  refine ⟨v, x, Hn, c', he, ⟨H', hq, fun k o hk ho => ?_, fun k o hk hi ho => ?_, fun k o o' hk ho hk' hi => ?_⟩, hx, hcn, ⟨hE.os, hE.tape, hE.output, hE.size, fun b hb hn => hE.blk b hb fun i y n hi => hn i y n (sub i y hi), hE.mem, fun b o u hu => ?_, hE.ext, fun i y b n hi hy hp => ?_, hE.base, fun k y hk => ?_⟩⟩
  · simp only [Hn, hk, if_neg ho]
  · have h1 : Hr k = some o := by simp only [Hr, hi, hk, if_neg ho]
    obtain ⟨b, n, _, h3, _⟩ := posr k o h1
    simp only [Hn]
    cases h2 : H' k with
    | none => exact h1
    | some z =>
      simp only
      split
      · exact h1
      · rename_i hz
        obtain ⟨b', n', h4, _⟩ := hc'.obj (.e k) z h2 hz
        have h4 : c'.β k = some (b', n') := h4
        rw [h3] at h4; injection h4 with h4; injection h4 with e1 e2; subst e1 e2
        exact (clash k k z o b n n h2 hz h3 h1 h3).elim
  · refine Classical.byContradiction fun ho' => ?_
    have h1 : Hr k = some o' := by simp only [Hr, hi, hk', if_neg ho']
    obtain ⟨b, n, _, h3, _⟩ := posr k o' h1
    obtain ⟨b', n', h4, _⟩ := hc'.obj (.e k) o hk ho
    have h4 : c'.β k = some (b', n') := h4
    rw [h3] at h4; injection h4 with h4; injection h4 with e1 e2; subst e1 e2
    exact clash k k o o' b n n hk ho h3 h1 h3
  · rcases hE.new b o u hu with h1 | h1 | ⟨i, y, m, h1, h2, h3⟩
    · exact .inl h1
    · exact .inr (.inl h1)
    · exact .inr (.inr ⟨i, y, m, sub i y h1, h2, h3⟩)
  · rcases own' i y hi with ⟨_, h1 | ⟨k, rfl, h1⟩⟩ | ⟨_, h1⟩
    · rcases hE.own i y b n h1 hy hp with h2 | ⟨j, z, m, h2, h3, h4⟩
      · exact .inl h2
      · exact .inr ⟨j, z, m, sub j z h2, h3, h4⟩
    · obtain ⟨b', n', h2, h3, _⟩ := posr k y h1
      have hp : c'.β k = some (b, n) := hp
      rw [h3] at hp; injection hp with hp; injection hp with e1 e2; subst e1 e2
      exact .inr ⟨.e k, y, n', (hr1 k y h1).1, hy, h2⟩
    · exact h1.elim
  · rcases own' _ y hk with ⟨_, h1 | ⟨k', h1, h2⟩⟩ | ⟨_, h1⟩
    · rcases hE.nm k y h1 with h2 | h2
      · refine .inl fun h3 => h2 ?_
        have h3 : H k = none := h3
        show Hi k = none
        cases h4 : Hi k with
        | none => rfl
        | some z => rw [hs k z h4] at h3; cases h3
      · exact .inr h2
    · injection h1 with h1; subst h1
      exact .inl (by show H k ≠ none; rw [(hr1 k y h2).1]; simp)
    · exact h1.elim
end Go.Proofs.YtnnoafgdjjpidaaGreatDoor.E
