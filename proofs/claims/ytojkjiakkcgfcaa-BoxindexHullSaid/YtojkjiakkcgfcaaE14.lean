/- Maps: keys, the laws of lists of entries, the runs. Plain theorems, for any program. -/
import Derived.Test.YtojkjiakkcgfcaaE13
import Derived.ChangeMaps4
import Derived.MapKept
import Derived.MapFrom
import Derived.Maps.RangeRun
namespace Go.Proofs.Ytojkjiakkcgfcaa.E
open Go.RowKit
set_option linter.unusedVariables false

/-! ### keys -/
structure KeyLaw (P : Program) (kt : TypeId) (kk : KK) : Prop where
  check : ∀ (k : Value) (em : Bool) (w : World), kok kk k = true → (Instr.checkKey em 10000 kt k).run P w = .ok () w
  find : ∀ (k : Value) (l : List MapEntry) (w : World), kok kk k = true → (∀ e ∈ l, kok kk e.key = true) →
    ((Instr.findKey kt k l).run P w = .ok none w ∧ ∀ e ∈ l, e.key ≠ k) ∨ ∃ j e, (Instr.findKey kt k l).run P w = .ok (some (j, e.val)) w ∧ l[j]? = some e ∧ e.key = k
  stay : ∀ (k : Value) (w : World), kok kk k = true → (Instr.keyThatStays k k).run P w = .ok k w
theorem KeyLaw.of {P : Program} {kt : TypeId} {kk : KK} {d : TypeDesc} (hd : P.underlying kt = some d) (h : ∀ k, kok kk k = true → MapKept.IsKey d k) : KeyLaw P kt kk where
  check k em w hk := MapKept.run_checkKey hd (h k hk) em 9999
  find k l w hk hl := by
    rcases MapKept.findNow_spec (h k hk) l 0 (fun e he => h _ (hl e he)) with ⟨h1, h2⟩ | ⟨j, e, h1, h2, h3⟩
    · exact .inl ⟨MapKept.run_findKey hd h1, h2⟩
    · exact .inr ⟨j, e, by simpa using MapKept.run_findKey hd h1, h2, h3⟩
  stay k w hk := MapKept.run_keyThatStays (h k hk)
theorem KeyLaw.int {P : Program} {kt : TypeId} {q : IntKind} (hd : P.underlying kt = some (.int q)) : KeyLaw P kt (.int q) :=
  .of hd fun k hk => by cases k <;> simp_all [kok, MapKept.IsKey]
theorem KeyLaw.str {P : Program} {kt : TypeId} (hd : P.underlying kt = some .string) : KeyLaw P kt .str :=
  .of hd fun k hk => by cases k <;> simp_all [kok, MapKept.IsKey]
theorem KeyLaw.bool {P : Program} {kt : TypeId} (hd : P.underlying kt = some .bool) : KeyLaw P kt .bool :=
  .of hd fun k hk => by cases k <;> simp_all [kok, MapKept.IsKey]
theorem keq_iff {kk : KK} {a b : Value} (ha : kok kk a = true) (hb : kok kk b = true) : keq a b = true ↔ a = b := by
  cases kk with
  | int q => cases a <;> cases b <;> simp_all [kok, keq]
  | str => cases a <;> cases b <;> simp_all [kok, keq, MapKept.bytes_beq]
  | bool => cases a <;> cases b <;> simp_all [kok, keq]
  | ints q n =>
    cases a <;> cases b <;> simp_all only [kok, Bool.false_eq_true, keq]
    rename_i x y
    simp only [Bool.and_eq_true, decide_eq_true_eq, List.all_eq_true] at ha hb
    simp only [decide_eq_true_eq, Value.agg.injEq]
    constructor
    · intro h
      have key : ∀ (l m : List Value), (∀ u ∈ l, (match u with | .int q' _ => decide (q' = q) | _ => false) = true) → (∀ u ∈ m, (match u with | .int q' _ => decide (q' = q) | _ => false) = true) → l.map intOf = m.map intOf → l = m := by
        intro l
        induction l with
        | nil => intro m _ _ h; cases m with
          | nil => rfl
          | cons => cases h
        | cons u l ih => intro m h1 h2 h; cases m with
          | nil => cases h
          | cons v m =>
            simp only [List.map_cons, List.cons.injEq] at h
            rw [ih m (fun u hu => h1 u (by simp [hu])) (fun u hu => h2 u (by simp [hu])) h.2]
            have e1 := h1 u (by simp)
            have e2 := h2 v (by simp)
            have e3 := h.1
            cases u <;> simp at e1
            cases v <;> simp at e2
            simp only [intOf, Option.some.injEq] at e3
            rw [e1, e2, e3]
      exact Array.toList_inj.1 (key _ _ ha.2 hb.2 h)
    · intro h; rw [h]
def mget (k : Value) : List ME → Option C
  | [] => none
  | e :: es => bif keq k e.k then some e.x else mget k es
def mset (k : Value) (x : C) (ck : Nat) : List ME → List ME
  | [] => [⟨k, x, ck⟩]
  | e :: es => bif keq k e.k then ⟨k, x, e.b⟩ :: es else e :: mset k x ck es
def mclock (k : Value) (es : List ME) (ck : Nat) : Nat := match mget k es with | some _ => ck | none => ck + 1
def mdel (k : Value) : List ME → List ME
  | [] => []
  | e :: es => bif keq k e.k then es else e :: mdel k es
section
variable {kk : KK} {k : Value} {x : C} {ck : Nat}
theorem m_none : ∀ {es : List ME}, kok kk k = true → (∀ m ∈ es, kok kk m.k = true) → (∀ m ∈ es, m.k ≠ k) → mget k es = none ∧ mset k x ck es = es ++ [⟨k, x, ck⟩] ∧ mdel k es = es
  | [], _, _, _ => ⟨rfl, rfl, rfl⟩
  | e :: es, hk, hs, hn => by
    obtain ⟨h1, h2, h3⟩ := m_none (es := es) hk (fun m hm => hs m (by simp [hm])) (fun m hm => hn m (by simp [hm]))
    have : keq k e.k = false := by
      cases h : keq k e.k with
      | false => rfl
      | true => exact absurd ((keq_iff hk (hs e (by simp))).1 h).symm (hn e (by simp))
    simp [mget, mset, mdel, this, h1, h2, h3]
theorem m_some : ∀ {es : List ME} {j : Nat} {m : ME}, kok kk k = true → (∀ m ∈ es, kok kk m.k = true) → (es.map (·.k)).Nodup → es[j]? = some m → m.k = k → mget k es = some m.x ∧ mset k x ck es = es.set j ⟨k, x, m.b⟩ ∧ mdel k es = es.eraseIdx j
  | e :: es, 0, m, hk, hs, hn, hj, hm => by
    simp at hj; subst hj
    have : keq k e.k = true := (keq_iff hk (hs e (by simp))).2 hm.symm
    simp [mget, mset, mdel, this]
  | e :: es, j + 1, m, hk, hs, hn, hj, hm => by
    have hj : es[j]? = some m := by simpa using hj
    obtain ⟨hn1, hn2⟩ := List.nodup_cons.1 hn
    obtain ⟨h1, h2, h3⟩ := m_some (es := es) hk (fun m hm => hs m (by simp [hm])) hn2 hj hm
    have : keq k e.k = false := by
      cases h : keq k e.k with
      | false => rfl
      | true =>
        have e1 := (keq_iff hk (hs e (by simp))).1 h
        exact absurd (List.mem_map.2 ⟨m, List.mem_of_getElem? hj, hm.trans e1⟩) hn1
    simp [mget, mset, mdel, this, h1, h2, h3]
end
section
variable {P : Program} {c : Ctx} {kk : KK} {es : List ME} {ck : Nat} {ents : Array MapEntry} {w : World} {b : Nat} {t kt et : TypeId} {k : Value} {x : C} {v : Value}
theorem MapRep.keys (h : MapRep c kk es ck ents) : ∀ e ∈ ents.toList, kok kk e.key = true := fun e he => by
  obtain ⟨j, hj⟩ := List.getElem?_of_mem he
  have hlt : j < es.length := by rw [h.len]; simpa using (List.getElem?_eq_some_iff.1 hj).1
  have hm := List.getElem?_eq_getElem hlt
  rw [(h.ent j _ e hm (by simpa using hj)).1]
  exact h.key _ (List.mem_of_getElem? hm)
theorem MapRep.at (h : MapRep c kk es ck ents) {j : Nat} {e : MapEntry} (hj : ents.toList[j]? = some e) : ∃ m, es[j]? = some m ∧ e.key = m.k ∧ e.born = m.b ∧ RepC c.μ c.β m.x e.val := by
  have hlt : j < es.length := by rw [h.len]; simpa using (List.getElem?_eq_some_iff.1 hj).1
  exact ⟨_, List.getElem?_eq_getElem hlt, h.ent j _ e (List.getElem?_eq_getElem hlt) (by simpa using hj)⟩
theorem MapRep.at' (h : MapRep c kk es ck ents) {m : ME} (hm : m ∈ es) : ∃ e ∈ ents.toList, e.key = m.k ∧ e.born = m.b ∧ RepC c.μ c.β m.x e.val := by
  obtain ⟨j, hj⟩ := List.getElem?_of_mem hm
  have hlt : j < ents.size := by rw [← h.len]; exact (List.getElem?_eq_some_iff.1 hj).1
  exact ⟨ents[j], by simp, h.ent j m _ hj (Array.getElem?_eq_getElem hlt)⟩
theorem MapRep.find (h : MapRep c kk es ck ents) (kl : KeyLaw P kt kk) (hk : kok kk k = true) (w : World) :
    ((Instr.findKey kt k ents.toList).run P w = .ok none w ∧ ∀ m ∈ es, m.k ≠ k) ∨ ∃ j e m, (Instr.findKey kt k ents.toList).run P w = .ok (some (j, e.val)) w ∧ ents.toList[j]? = some e ∧ e.key = k ∧ es[j]? = some m ∧ m.k = k ∧ e.born = m.b ∧ RepC c.μ c.β m.x e.val := by
  rcases kl.find k ents.toList w hk h.keys with ⟨h1, h2⟩ | ⟨j, e, h1, h2, h3⟩
  · refine .inl ⟨h1, fun m hm e => ?_⟩
    obtain ⟨e', h3, h4, _⟩ := h.at' hm
    exact h2 e' h3 (h4.trans e)
  · obtain ⟨m, h4, h5, h6, h7⟩ := h.at h2
    exact .inr ⟨j, e, m, h1, h2, h3, h4, h5.symm.trans h3, h6, h7⟩
theorem MapRep.lookup (h : MapRep c kk es ck ents) (hb : w.heap[b]? = some (.map ents ck)) (ht : P.underlying t = some (.map kt et)) (kl : KeyLaw P kt kk) (hk : kok kk k = true) {z : Value} (hz : zeroIs P et z) (ok : Bool) :
    (mget k es = none ∧ (Instr.lookup t (.map (some b)) k ok).run P w = .ok (if ok then .tuple #[z, .bool false] else z) w) ∨ ∃ x v, mget k es = some x ∧ RepC c.μ c.β x v ∧ (Instr.lookup t (.map (some b)) k ok).run P w = .ok (if ok then .tuple #[v, .bool true] else v) w := by
  rcases h.find kl hk w with ⟨h1, h2⟩ | ⟨j, e, m, h1, h2, h3, h4, h5, h6, h7⟩
  · refine .inl ⟨(m_none (x := .g []) (ck := 0) hk h.key h2).1, ?_⟩
    simp [Instr.lookup, run_underlying ht, MapKept.run_getObj_map hb, kl.check k _ w hk, h1, zero_run hz, Result.andThen]
  · refine .inr ⟨m.x, e.val, (m_some (x := .g []) (ck := 0) hk h.key h.nodup h4 h5).1, h7, ?_⟩
    simp [Instr.lookup, run_underlying ht, MapKept.run_getObj_map hb, kl.check k _ w hk, h1, Result.andThen]
theorem lookup_nil (ht : P.underlying t = some (.map kt et)) (kl : KeyLaw P kt kk) (hk : kok kk k = true) {z : Value} (hz : zeroIs P et z) (ok : Bool) (w : World) :
    (Instr.lookup t (.map none) k ok).run P w = .ok (if ok then .tuple #[z, .bool false] else z) w := by
  have : (Instr.findKey kt k []).run P w = .ok none w := by
    rcases kl.find k [] w hk (fun _ h => by simp at h) with ⟨h, _⟩ | ⟨j, e, _, h, _⟩
    · exact h
    · simp at h
  simp [Instr.lookup, run_underlying ht, kl.check k _ w hk, this, zero_run hz, Result.andThen]
theorem MapRep.set (h : MapRep c kk es ck ents) (hb : w.heap[b]? = some (.map ents ck)) (ht : P.underlying t = some (.map kt et)) (kl : KeyLaw P kt kk) (hk : kok kk k = true) (hv : RepC c.μ c.β x v) :
    ∃ ents', (Instr.mapUpdate t (.map (some b)) k v).run P w = .ok () (ChangeMaps.setBlock w b (.map ents' (mclock k es ck))) ∧ MapRep c kk (mset k x ck es) (mclock k es ck) ents' := by
  rcases h.find kl hk w with ⟨h1, h2⟩ | ⟨j, e, m, h1, h2, h3, h4, h5, h6, h7⟩
  · obtain ⟨g1, g2, _⟩ := m_none (x := x) (ck := ck) hk h.key h2
    have hc : mclock k es ck = ck + 1 := by simp [mclock, g1]
    refine ⟨ents.push ⟨k, v, ck⟩, ?_, ?_⟩
    · rw [hc]
      simp [Instr.mapUpdate, run_underlying ht, MapKept.run_getObj_map hb, kl.check k _ w hk, h1, MapKept.run_setObj_map _ hb, Result.andThen, ChangeMaps.setBlock]
    · rw [hc, g2]
      refine ⟨by simp [h.len], fun i m e hi he => ?_, fun m hm => ?_, fun m hm => ?_, ?_, ?_⟩
      · by_cases hlt : i < es.length
        · rw [List.getElem?_append_left hlt] at hi
          rw [Array.getElem?_push_lt (by rw [← h.len]; exact hlt)] at he
          exact h.ent i m e hi (by rw [Array.getElem?_eq_getElem (by rw [← h.len]; exact hlt)]; exact he)
        · rw [List.getElem?_append_right (by omega)] at hi
          have hi0 : i = es.length := by
            have := (List.getElem?_eq_some_iff.1 hi).1
            simp at this; omega
          subst hi0
          simp at hi; subst hi
          rw [h.len] at he
          simp at he; subst he
          exact ⟨rfl, rfl, hv⟩
      · rcases List.mem_append.1 hm with hm | hm
        · exact h.key m hm
        · simp at hm; subst hm; exact hk
      · rcases List.mem_append.1 hm with hm | hm
        · have := h.born m hm; omega
        · simp at hm; subst hm; simp
      · rw [List.map_append, List.nodup_append]
        refine ⟨h.nodup, by simp, fun a ha b' hb' => ?_⟩
        simp at hb'; subst hb'
        obtain ⟨m, hm, rfl⟩ := List.mem_map.1 ha
        exact h2 m hm
      · rw [List.map_append, List.nodup_append]
        refine ⟨h.inj, by simp, fun a ha b' hb' => ?_⟩
        simp at hb'; subst hb'
        obtain ⟨m, hm, rfl⟩ := List.mem_map.1 ha
        have := h.born m hm; exact fun e => by omega
  · obtain ⟨g1, g2, _⟩ := m_some (x := x) (ck := ck) hk h.key h.nodup h4 h5
    have hc : mclock k es ck = ck := by simp [mclock, g1]
    have hje : ents[j]? = some e := by simpa using h2
    have hjl : j < ents.size := (Array.getElem?_eq_some_iff.1 hje).1
    refine ⟨ents.modify j (fun e' => { e' with key := k, val := v }), ?_, ?_⟩
    · rw [hc]
      have hst := kl.stay k w hk
      simp [Instr.mapUpdate, run_underlying ht, MapKept.run_getObj_map hb, kl.check k _ w hk, h1, hje, h3, hst, MapKept.run_setObj_map _ hb, Result.andThen, ChangeMaps.setBlock]
    · rw [hc, g2]
      have hjs : j < es.length := by rw [h.len]; exact hjl
      have kset : (es.set j ⟨k, x, m.b⟩).map (·.k) = es.map (·.k) := by
        rw [List.map_set]
        apply List.ext_getElem?
        intro i
        rw [List.getElem?_set]
        split
        · rename_i hij; subst hij
          rw [List.getElem?_map, h4]
          simp [hjs, h5]
        · rfl
      have bset : (es.set j ⟨k, x, m.b⟩).map (·.b) = es.map (·.b) := by
        rw [List.map_set]
        apply List.ext_getElem?
        intro i
        rw [List.getElem?_set]
        split
        · rename_i hij; subst hij
          rw [List.getElem?_map, h4]
          simp [hjs]
        · rfl
      refine ⟨by simp [h.len], fun i m' e' hi he => ?_, fun m' hm => ?_, fun m' hm => ?_, by rw [kset]; exact h.nodup, by rw [bset]; exact h.inj⟩
      · rw [List.getElem?_set] at hi
        rw [Array.getElem?_modify] at he
        by_cases hij : j = i
        · subst hij
          rw [if_pos rfl, if_pos hjs] at hi
          rw [if_pos rfl, hje] at he
          simp at hi he; subst hi he
          exact ⟨rfl, h6, hv⟩
        · rw [if_neg hij] at hi he
          exact h.ent i m' e' hi he
      · rcases List.mem_or_eq_of_mem_set hm with hm | rfl
        · exact h.key m' hm
        · exact hk
      · rcases List.mem_or_eq_of_mem_set hm with hm | rfl
        · exact h.born m' hm
        · exact h.born m (List.mem_of_getElem? h4)
theorem MapRep.del (h : MapRep c kk es ck ents) (hb : w.heap[b]? = some (.map ents ck)) (ht : P.underlying t = some (.map kt et)) (kl : KeyLaw P kt kk) (hk : kok kk k = true) (u : TypeId) :
    ∃ ents', (Builtin.delete_ #[t, kt] u #[.map (some b), k]).run P w = .ok (.tuple #[]) (ChangeMaps.setBlock w b (.map ents' ck)) ∧ MapRep c kk (mdel k es) ck ents' := by
  rcases h.find kl hk w with ⟨h1, h2⟩ | ⟨j, e, m, h1, h2, h3, h4, h5, h6, h7⟩
  · obtain ⟨_, _, g3⟩ := m_none (x := .g []) (ck := 0) hk h.key h2
    refine ⟨ents, ?_, by rw [g3]; exact h⟩
    simp [Builtin.delete_, run_underlying ht, MapKept.run_getObj_map hb, kl.check k _ w hk, h1, MapKept.run_setObj_map _ hb, Result.andThen, ChangeMaps.setBlock]
  · obtain ⟨_, _, g3⟩ := m_some (x := .g []) (ck := 0) hk h.key h.nodup h4 h5
    have hje : ents[j]? = some e := by simpa using h2
    have hjl : j < ents.size := (Array.getElem?_eq_some_iff.1 hje).1
    have hsub : (ents.eraseIdxIfInBounds j).toList = ents.toList.eraseIdx j := by
      unfold Array.eraseIdxIfInBounds
      rw [dif_pos hjl]
      simp
    refine ⟨ents.eraseIdxIfInBounds j, ?_, ?_⟩
    · simp [Builtin.delete_, run_underlying ht, MapKept.run_getObj_map hb, kl.check k _ w hk, h1, MapKept.run_setObj_map _ hb, Result.andThen, ChangeMaps.setBlock]
    · rw [g3]
      have sub := List.eraseIdx_sublist es j
      refine ⟨?_, fun i m' e' hi he => ?_, fun m' hm => h.key m' (sub.subset hm), fun m' hm => h.born m' (sub.subset hm), (sub.map _).nodup h.nodup, (sub.map _).nodup h.inj⟩
      · have e1 : (ents.eraseIdxIfInBounds j).size = (ents.toList.eraseIdx j).length := by rw [← hsub, Array.length_toList]
        have e2 : ents.toList.length = es.length := by simp [h.len]
        rw [e1, List.length_eraseIdx, List.length_eraseIdx, e2]
      · have he : ents.toList[if i < j then i else i + 1]? = some e' := by
          have : (ents.eraseIdxIfInBounds j).toList[i]? = some e' := by rw [Array.getElem?_toList]; exact he
          rw [hsub, List.getElem?_eraseIdx] at this
          by_cases hij : i < j
          · rw [if_pos hij] at this ⊢; exact this
          · rw [if_neg hij] at this ⊢; exact this
        rw [List.getElem?_eraseIdx] at hi
        have hi : es[if i < j then i else i + 1]? = some m' := by
          by_cases hij : i < j
          · rw [if_pos hij] at hi ⊢; exact hi
          · rw [if_neg hij] at hi ⊢; exact hi
        exact h.ent _ m' e' hi (by simpa using he)
end
end Go.Proofs.Ytojkjiakkcgfcaa.E
