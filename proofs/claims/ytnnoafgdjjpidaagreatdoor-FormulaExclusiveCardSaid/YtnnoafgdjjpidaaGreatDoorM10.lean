import Derived.Test.YtnnoafgdjjpidaaGreatDoorM9
import Derived.Laws.BytesString
import Derived.Lib.AppendStr
set_option linter.unusedVariables false
namespace Go.Proofs.YtnnoafgdjjpidaaGreatDoor.E
open Go.RowKit
abbrev bT (s : ByteArray) : List (List T) := s.data.toList.map fun b => [.v (.int .u8 b.toNat)]
theorem bT_length (s : ByteArray) : (bT s).length = s.size := by simp [bT]
theorem bT_one (s : ByteArray) : ∀ e ∈ bT s, e.length = 1 := fun e he => by
  obtain ⟨b, _, rfl⟩ := List.mem_map.1 he; rfl
theorem bT_reps {μ : Mem} (s : ByteArray) : Reps (RepT μ) (bT s).flatten (Lib.strCells s) := by
  unfold bT Lib.strCells
  induction s.data.toList with
  | nil => exact .nil
  | cons b r ih => simp only [List.map_cons, List.flatten_cons, List.singleton_append]; exact .cons (.v rfl) ih
theorem bT_append (s s' : ByteArray) : bT s ++ bT s' = bT (s ++ s') := by simp [bT]
section
variable {P : Program}
theorem app_runS (w : World) {t u e : TypeId} (ty : elB P t e 1 1 = true) (hu : P.underlying u = some .string) (hz : (P.info? e).bind (·.zero) = some (.int .u8 0)) (rt : TypeId) (v : Value) (n : Nat) (xs : List Value) (hown : w.ownsRow 0 e 1 v n xs) (s : ByteArray) (hb : n + s.size ≤ 140737488355328) :
    ∃ v' w', (Builtin.append_ #[t, u] rt #[v, .string s]).run P w = .ok v' w' ∧ w'.ownsRow 0 e 1 v' (n + s.size) (xs ++ Lib.strCells s) ∧ ((v'.ownBlock = v.ownBlock ∧ w.grownBy w' v.ownBlock) ∨ (v'.ownBlock = some w.heap.size ∧ w.grownBy w' none)) ∧ (v' = .slice none 0 0 ↔ v = .slice none 0 0 ∧ s.size = 0) := by
  obtain ⟨i, z, h2, h3, h4, h5, h6, h7, h8⟩ := elB_get ty
  have hz' : i.zero = some (.int .u8 0) := by rw [h3] at hz; exact hz
  obtain ⟨v', w', g1, g2, g3, g4⟩ := Lib.run_append_own_string (P := P) w 0 t u rt e i h2 hu h3 hz' h4 h6 v n xs hown s (by unfold maxLen; omega) hb (Nat.zero_le _)
  refine ⟨v', w', g1, g2, ?_, g4⟩
  have hxl : xs.length = n := by simpa using hown.1
  rcases hown.2 with ⟨rfl, rfl⟩ | ⟨g, cap, cur, rfl, hbg, hg, hnc, hcm, hcs, htake⟩
  · by_cases hm : s.size = 0
    · have := g4.2 ⟨rfl, hm⟩
      subst this
      exact .inl ⟨rfl, g3⟩
    · have hr := run_append_nil_string (P := P) w t u rt e i (.int .u8 0) h2 hu h3 hz' s (by omega) (by omega) (by rw [h6]; omega)
      rw [g1] at hr; injection hr with hr1 hr2
      subst hr1
      exact .inr ⟨rfl, by simpa [Value.ownBlock] using g3⟩
  · by_cases hroom : n + s.size ≤ cap
    · have hcs' : cur.size = cap := by simpa using hcs
      have hr := Lib.run_append_room_string (P := P) w t u rt e i h2 hu h3 h4 g n cap cur hg s hroom (by omega)
      rw [g1] at hr; injection hr with hr1 hr2
      subst hr1
      exact .inl ⟨rfl, g3⟩
    · have holds : ∀ j u, xs[j]? = some u → w.cell? ((⟨g, 0, none⟩ : Addr).add j) = some u := hown.cells (g := g) rfl
      have hr := Lib.run_append_grow_string (P := P) w t u rt e i (.int .u8 0) h2 hu h3 hz' ⟨g, 0, none⟩ n cap xs (by rw [h4]; simpa using hxl) holds s (by omega) (by omega) (by rw [h6]; exact growslice_fits (by omega) (by omega))
      rw [g1] at hr; injection hr with hr1 hr2
      subst hr1 hr2
      exact .inr ⟨rfl, ⟨rfl, rfl, rfl, by simp, fun k hk _ => Below.heap_alloc w.drew _ k hk⟩⟩
theorem app0_runS (w : World) {t u e : TypeId} (ty : elB P t e 1 1 = true) (hu : P.underlying u = some .string) (hz : (P.info? e).bind (·.zero) = some (.int .u8 0)) (rt : TypeId) (b : Option Addr) (s : ByteArray) (hb : s.size ≤ 140737488355328) :
    (s.size = 0 ∧ (Builtin.append_ #[t, u] rt #[.slice b 0 0, .string s]).run P w = .ok (.slice b 0 0) w) ∨
    (s.size ≠ 0 ∧ ∃ cap w', (Builtin.append_ #[t, u] rt #[.slice b 0 0, .string s]).run P w = .ok (.slice (some ⟨w.heap.size, 0, none⟩) s.size cap) w' ∧ w'.ownsRow 0 e 1 (.slice (some ⟨w.heap.size, 0, none⟩) s.size cap) s.size (Lib.strCells s) ∧ w.grownBy w' none) := by
  obtain ⟨i, z, h2, h3, h4, h5, h6, h7, h8⟩ := elB_get ty
  have hz' : i.zero = some (.int .u8 0) := by rw [h3] at hz; exact hz
  have hlen := Lib.strCells_length s
  by_cases hm : s.size = 0
  · refine .inl ⟨hm, ?_⟩
    have hf := Lib.run_firstCells_string (P := P) w 1 s
    have hn : Lib.strCells s = [] := List.eq_nil_of_length_eq_zero (by rw [hlen]; exact hm)
    rw [hm, hn] at hf
    cases b with
    | none => simp [Builtin.append_, run_underlying h2, run_underlying hu, sizeOf, typeInfo, h3, h4, Builtin.lenOf, hm, hf]
    | some b => simp [Builtin.append_, run_underlying h2, run_underlying hu, sizeOf, typeInfo, h3, h4, Builtin.lenOf, hm, hf, storeCells]
  · refine .inr ⟨hm, ?_⟩
    have hge := grownCap_ge w s.size 0 e
    have hcm : grownCap w s.size 0 e ≤ maxLen := grownCap_le_maxLen w s.size 0 e (by unfold maxLen; omega)
    have hfit := growslice_fits (need := s.size) (old := 0) (bytes := i.bytes) (by omega) (by rw [h6]; omega)
    have hrun : (Builtin.append_ #[t, u] rt #[.slice b 0 0, .string s]).run P w = .ok (.slice (some ⟨w.heap.size, 0, none⟩) s.size (grownCap w s.size 0 e)) (w.drew.alloc (.cells ((Lib.strCells s).toArray ++ Builtin.zeroCells (Value.int .u8 0).cells (grownCap w s.size 0 e - s.size)) e)) := by
      cases b with
      | none =>
        have hr := run_append_nil_string (P := P) w t u rt e i (.int .u8 0) h2 hu h3 hz' s (by omega) (by omega) (by rw [h6]; omega)
        have e1 : (s.data.map fun b => Value.int .u8 b.toNat) = (Lib.strCells s).toArray := by
          apply Array.ext'
          simp [Lib.strCells]
        rw [e1] at hr
        exact hr
      | some b =>
        have := Lib.run_append_grow_string (P := P) w t u rt e i (.int .u8 0) h2 hu h3 hz' b 0 0 [] (by simp) (fun j v h => by simp at h) s (by omega) (by omega) (by simpa using hfit)
        simpa using this
    refine ⟨_, _, hrun, ⟨by simpa using hlen, .inr ⟨w.heap.size, _, _, rfl, Nat.zero_le _, heap_alloc_new w.drew _, hge, hcm, ?_, ?_⟩⟩, ⟨rfl, rfl, rfl, by simp, fun k hk _ => Below.heap_alloc w.drew _ k hk⟩⟩
    · have hz1 : (Value.int IntKind.u8 0).cells.size = 1 := rfl
      simp only [Array.size_append, List.size_toArray, size_zeroCells, hz1, hlen]
      omega
    · simp only [Array.toList_append]
      rw [← hlen]
      simp
end
section
variable {P : Program} {all : Array Oper} {o : Oper} {s s' : S} {K : S → Prop}
theorem e_appS {x y : Operand} {t u e : TypeId} {k d n : Nat} {z : Nz} {es : List (List T)} {str : ByteArray} {T' : Nat → X} {L : Nat → Option AO} {H : Heap} (hg : o.guard = none) (ho : o.op = .call { callee := .builtin .append, args := #[x, y], argTypes := #[t, u] }) (ty : elB P t e 1 1 = true) (hu : P.underlying u = some .string) (hz0 : (P.info? e).bind (·.zero) = some (.int .u8 0)) (hx : S.eval ⟨n, T', L, H⟩ x = .c (.a (.ts k z 1 es))) (hH : H k = some (.tip e 1 es.length)) (hy : S.eval ⟨n, T', L, H⟩ y = sX str) (hb : es.length + str.size ≤ 140737488355328) (hdst : o.dst = some d) (hd : Nat.blt d n = true)
    (hk : ∀ k', H k' = none → K ⟨n, upd T' d (.c (.a (.ts k' z 1 (es ++ bT str)))), L, upd (upd H k none) k' (some (.tip e 1 (es ++ bT str).length))⟩) : OpW P all o K ⟨n, T', L, H⟩ := by
  intro c a w g
  unfold opRun
  rw [if_pos (by simp [Region.wanted, hg])]
  refine wp_to ?_
  obtain ⟨i, zz, g1, g2, g3, g4, g5, g6, g7⟩ := elB_get ty
  have ha := g.eval x
  rw [hx] at ha
  have hv := g.eval y
  rw [hy] at hv
  replace hv := rep_tv hv
  obtain ⟨es', hes⟩ : ∃ es', es' = bT str := ⟨_, rfl⟩
  obtain ⟨cs, hcs0⟩ : ∃ cs, cs = Lib.strCells str := ⟨_, rfl⟩
  have hel : ∀ e ∈ es', e.length = 1 := by rw [hes]; exact bT_one str
  have hr : Reps (RepT c.μ) es'.flatten cs := by rw [hes, hcs0]; exact bT_reps str
  have hl' : es'.length = str.size := by rw [hes]; exact bT_length str
  have hcl : cs.length = es'.length * 1 := by rw [hl', hcs0, Lib.strCells_length]; omega
  rw [← hes] at hk
  -- what is left to do once the new value is known, if it is not empty
  have fin : ∀ (v' : Value) (w' : World) (g0 cap : Nat) (cur : Array Value) (xs : List Value), (execOp a.eval o).run P w = .ok (.value v') w' → w'.os = w.os → w'.tape = w.tape → w'.output = w.output → w.heap.size ≤ w'.heap.size →
      (∀ b, b < w.heap.size → b ≠ g0 → w'.heap[b]? = w.heap[b]?) → (w.heap.size ≤ g0 ∨ ∃ y n, H k = some y ∧ ¬ y.empty ∧ c.β k = some (g0, n)) →
      v' = .slice (some ⟨g0, 0, none⟩) (es ++ es').length cap → es ++ es' ≠ [] → (es ++ es').length ≤ cap → cap ≤ maxLen → w'.heap[g0]? = some (.cells cur e (0, 0)) → cur.size = cap * 1 → (∀ (j : Nat) (u : Value), (xs ++ cs)[j]? = some u → w'.cell? ⟨g0, j, none⟩ = some u) →
      (∀ o u, c.μ g0 o = some u → xs[o]? = some u) → (∀ e ∈ es, e.length = 1) → Reps (RepT c.μ) es.flatten xs →
      o.wp P a w (fun a' w' => ∃ s' c', K s' ∧ Sat c' s' a' w' ∧ Ext c (S.own ⟨n, T', L, H⟩) w c' s'.own w') (fun _ _ _ => False) := by
    intro v' w' g0 cap cur xs h1 h2 h3 h4 h5 h6 h7 hv' hne hc1 hc2 hg0 hcs2 hcell hold hlen hxs
    have hxl : xs.length = es.length * 1 := by rw [← hxs.1, flat_length es hlen]
    have hall : (xs ++ cs).length = (es ++ es').length * 1 := by rw [List.length_append, List.length_append, Nat.add_mul, hxl, hcl]
    have hext : ∀ b o u, c.μ b o = some u → c.μ.add g0 (xs ++ cs) b o = some u := Mem.add_ext fun o u h hlt => by
      have := hold o u h
      rw [List.getElem?_append_left (List.getElem?_eq_some_iff.1 this).1]; exact this
    have hmem : ∀ b o u, c.μ.add g0 (xs ++ cs) b o = some u → w'.cell? ⟨b, o, none⟩ = some u := fun b o u hq => by
      rcases Mem.add_new hq with h8 | ⟨hbg, h8⟩
      · by_cases hb : b = g0
        · rw [hb] at h8 ⊢
          refine hcell o u ?_
          have := hold o u h8
          rw [List.getElem?_append_left (List.getElem?_eq_some_iff.1 this).1]; exact this
        · have h8 := g.conc.mem _ _ _ h8
          have hlt := World.block_lt_of_cell? w _ h8
          unfold World.cell? at h8 ⊢
          rw [h6 b hlt hb]; exact h8
      · rw [hbg]; exact hcell o u h8
    have hO : ORep { c with μ := c.μ.add g0 (xs ++ cs) } w' (.tip e 1 (es ++ es').length) g0 cap := by
      refine ⟨cur, hg0, hcs2, hc2, fun q hq => ?_⟩
      cases hz : c.μ.add g0 (xs ++ cs) g0 q with
      | none => exact hz
      | some u =>
        exfalso
        rcases Mem.add_new hz with h | ⟨_, h⟩
        · have := (List.getElem?_eq_some_iff.1 (hold q u h)).1
          rw [hxl] at this
          have h9 : es.length * 1 ≤ (es ++ es').length * 1 := Nat.mul_le_mul_right _ (by simp)
          omega
        · have := (List.getElem?_eq_some_iff.1 h).1
          omega
    obtain ⟨k', q1, q2, q3, q4⟩ := Sat.turn (k := k) g h2 h3 h4 h5 h6 h7 hext (fun b o u h => (Mem.add_new h).imp id (·.1)) hmem hO
    unfold Oper.wp
    rw [h1]
    refine ⟨_, ⟨_, _, _, _⟩, hk k' q1, ?_, q4⟩
    have hrep : RepT (c.μ.add g0 (xs ++ cs)) (.sl .un 1 (es ++ es')) (.slice (some ⟨g0, 0, none⟩) (es ++ es').length cap) := by
      refine flat_sl hne hc1 (fun e he => (List.mem_append.1 he).elim (hlen e) (hel e)) ?_ fun j u hu => by rw [Nat.zero_add]; exact Mem.add_in hu
      rw [List.flatten_append]
      exact (hxs.monoT hext).append (hr.monoT hext)
    subst hv'
    have := q3.put (some d) (x := .c (.a (.ts k' z 1 (es ++ es')))) (v := .slice (some ⟨g0, 0, none⟩) (es ++ es').length cap) (by simpa [inB] using inb hd) (RepA.ts (upd_same _ _ _) hne rfl hrep) (fun _ h => by cases h)
    rw [hdst]; exact this
  by_cases hne : es = []
  · subst hne
    obtain ⟨b0, hb0, hz⟩ : ∃ b0, a.eval x = .slice b0 0 0 ∧ (∀ k', RepA c.μ c.β (.ts k' z 1 []) (.slice b0 0 0)) := by
      generalize a.eval x = v at ha
      cases ha with
      | ts0 => exact ⟨none, rfl, fun _ => .ts0⟩
      | tsE => exact ⟨some _, rfl, fun _ => .tsE⟩
      | ts hk hne => exact absurd rfl hne
    rcases app0_runS (P := P) w ty hu hz0 o.type b0 str (by omega) with ⟨h0, hrun⟩ | ⟨h0, cap, w', hrun, hown, hgr⟩
    · have hes' : es' = [] := List.eq_nil_of_length_eq_zero (by omega)
      subst hes'
      obtain ⟨k', q1, q3, q4⟩ := g.turn0 (k := k) (x := .tip e 1 (([] : List (List T)) ++ ([] : List (List T))).length) (by simp [AO.empty])
      have hrun' : (execOp a.eval o).run P w = .ok (.value (.slice b0 0 0)) w := by simp [execOp, ho, hb0, hv, resolve, invoke, builtin, hrun]
      unfold Oper.wp
      rw [hrun']
      refine ⟨_, c, hk k' q1, ?_, q4⟩
      have := q3.put (some d) (x := .c (.a (.ts k' z 1 ([] ++ [])))) (v := .slice b0 0 0) (by simpa [inB] using inb hd) (by rw [List.append_nil]; exact hz k') (fun _ h => by cases h)
      rw [hdst]; exact this
    · rw [← hl'] at hrun
      rw [← hl', ← hcs0] at hown
      have hne' : es' ≠ [] := fun h => h0 (by rw [← hl', h]; rfl)
      obtain ⟨g1, cap1, cur, e1, k1, k2, k3, k4, k5⟩ := own_cells hown (by simp)
      injection e1 with e1 _ e2; injection e1 with e1; injection e1 with e1; subst e1 e2
      refine fin (.slice (some ⟨w.heap.size, 0, none⟩) es'.length cap) w' w.heap.size cap cur [] (by simp [execOp, ho, hb0, hv, resolve, invoke, builtin, hrun]) hgr.os hgr.tape hgr.output hgr.size (fun b hb _ => hgr.block b hb (by simp)) (.inl (Nat.le_refl _)) (by simp) (by simpa using hne') (by simpa using k4) k3 k1 k2 (by simpa using k5) (fun o u h => ?_) (by simp) .nil
      have := World.block_lt_of_cell? w _ (g.conc.mem _ o u h); simp at this
  · generalize hax : a.eval x = v at ha
    cases ha with
    | ts0 => exact absurd rfl hne
    | tsE => exact absurd rfl hne
    | @ts _ _ b c0 n0 _ _ hβ hne hn h =>
      obtain ⟨b', off, c', xs, e1, hc, hlen, hxs, hcx⟩ := sl_flat h hne (by omega)
      injection e1 with e1 e2 e3; injection e1 with e1; injection e1 with e1 e4; subst e1 e3 e4 hn
      have hnm : ¬ (AO.tip e 1 es.length).empty := fun h => hne (List.eq_nil_of_length_eq_zero h)
      obtain ⟨b1, n1, p1, us, u1, u2, u3, u4⟩ := g.conc.obj (.e k) _ hH hnm
      have p1 : c.β k = some (b1, n1) := p1
      rw [hβ] at p1; injection p1 with p1; injection p1 with p1 p2; subst p1 p2
      have hxl : xs.length = es.length * 1 := by rw [← hxs.1, flat_length es hlen]
      have hcw : ∀ (j : Nat) (u : Value), xs[j]? = some u → us.toList[j]? = some u := fun j u hu => by
        have := g.conc.mem _ _ _ (hcx j u hu)
        simpa [World.cell?, u1] using this
      have hown : w.ownsRow 0 e 1 (.slice (some ⟨b, 0, none⟩) es.length c0) es.length xs := by
        refine ⟨hxl, .inr ⟨b, c0, us, rfl, Nat.zero_le _, u1, hc, u3, u2, ?_⟩⟩
        apply List.ext_getElem?
        intro j
        rw [List.getElem?_take]
        split
        · rename_i hj
          rw [← hxl] at hj
          rw [List.getElem?_eq_getElem hj]
          exact hcw j _ (List.getElem?_eq_getElem hj)
        · rename_i hj
          rw [List.getElem?_eq_none (by omega)]
      obtain ⟨v', w', h1, h2, h3, h5⟩ := app_runS (P := P) w ty hu hz0 o.type _ _ _ hown str hb
      rw [← hl', ← hcs0] at h2
      have hv' : v' ≠ .slice none 0 0 := fun e => by have := (h5.1 e).1; cases this
      obtain ⟨g1, cap1, cur, rfl, k1, k2, k3, k4, k5⟩ := own_cells h2 hv'
      have gr : ((g1 = b ∧ w.grownBy w' (some b)) ∨ (g1 = w.heap.size ∧ w.grownBy w' none)) := by
        rcases h3 with ⟨h4, h6⟩ | ⟨h4, h6⟩
        · simp [Value.ownBlock] at h4 h6; exact .inl ⟨h4, h6⟩
        · simp [Value.ownBlock] at h4 h6; exact .inr ⟨h4, h6⟩
      have holdb : ∀ q u, c.μ b q = some u → xs[q]? = some u := fun q u hq => by
        have hlt : q < es.length * 1 := by
          rcases Nat.lt_or_ge q (es.length * 1) with h | h
          · exact h
          · rw [u4 q h] at hq; cases hq
        rw [← hxl] at hlt
        have := hcx q _ (List.getElem?_eq_getElem hlt)
        rw [Nat.zero_add, hq] at this
        rw [List.getElem?_eq_getElem hlt]; exact this.symm
      rcases gr with ⟨rfl, q3⟩ | ⟨rfl, q3⟩
      · exact fin (.slice (some ⟨g1, 0, none⟩) (es.length + es'.length) cap1) w' g1 cap1 cur xs (by simp [execOp, ho, hax, hv, resolve, invoke, builtin, h1]) q3.os q3.tape q3.output q3.size (fun b2 hb2 hb3 => q3.block b2 hb2 (by simpa using hb3)) (.inr ⟨_, _, hH, hnm, hβ⟩) (by simp) (by simp [hne]) (by simpa using k4) k3 k1 k2 k5 holdb hlen hxs
      · exact fin (.slice (some ⟨w.heap.size, 0, none⟩) (es.length + es'.length) cap1) w' w.heap.size cap1 cur xs (by simp [execOp, ho, hax, hv, resolve, invoke, builtin, h1]) q3.os q3.tape q3.output q3.size (fun b2 hb2 hb3 => q3.block b2 hb2 (by simp)) (.inl (Nat.le_refl _)) (by simp) (by simp [hne]) (by simpa using k4) k3 k1 k2 k5 (fun q u hq => by
          have := World.block_lt_of_cell? w _ (g.conc.mem _ q u hq); simp at this) hlen hxs
theorem SeqK.appS {rest : List Oper} {x y : Operand} {t u e : TypeId} {k d n : Nat} {z : Nz} {es : List (List T)} {str : ByteArray} {T' : Nat → X} {L : Nat → Option AO} {H : Heap} (hg : o.guard = none) (ho : o.op = .call { callee := .builtin .append, args := #[x, y], argTypes := #[t, u] }) (ty : elB P t e 1 1 = true) (hu : P.underlying u = some .string) (hz0 : (P.info? e).bind (·.zero) = some (.int .u8 0)) (hx : S.eval ⟨n, T', L, H⟩ x = .c (.a (.ts k z 1 es))) (hH : H k = some (.tip e 1 es.length)) (hy : S.eval ⟨n, T', L, H⟩ y = sX str) (hb : es.length + str.size ≤ 140737488355328) (hdst : o.dst = some d) (hd : Nat.blt d n = true)
    (hk : ∀ k', H k' = none → SeqK P all K rest ⟨n, upd T' d (.c (.a (.ts k' z 1 (es ++ bT str)))), L, upd (upd H k none) k' (some (.tip e 1 (es ++ bT str).length))⟩) : SeqK P all K (o :: rest) ⟨n, T', L, H⟩ :=
  SeqK.any (e_appS hg ho ty hu hz0 hx hH hy hb hdst hd hk)
end
end Go.Proofs.YtnnoafgdjjpidaaGreatDoor.E
