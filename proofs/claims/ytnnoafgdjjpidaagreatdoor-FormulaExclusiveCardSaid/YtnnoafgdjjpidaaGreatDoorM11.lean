import Derived.Test.YtnnoafgdjjpidaaGreatDoorM10
import Derived.Lib.UnsafeStr
import Derived.Lib.Builder
import Derived.Sort.Grow
set_option linter.unusedVariables false
namespace Go.Proofs.YtnnoafgdjjpidaaGreatDoor.E
open Go.RowKit
section
variable {P : Program} {all : Array Oper} {o : Oper} {s : S} {K : S → Prop} {rest : List Oper} {n d : Nat} {t : Nat → X} {L : Nat → Option AO} {H : Heap}
theorem e_allocR {e : TypeId} {z : Value} (r : List A) (hg : o.guard = none) (ho : o.op = .alloc e) (hz : zeroIs P e z) (h1 : z.cells.toList.all Value.oneCell' = true) (hr : z.cells.toList.map litA = r) (hd : inB o.dst s.n = true)
    (hk : ∀ k, s.H k = none → K ((s.setOwn (.e k) (.row e r.length r)).put o.dst (.c (.a (.bp k 0))))) : OpW P all o K s :=
  e_new (y := fun k => .c (.a (.bp k 0))) hg hd (fun _ => rfl) (fun c w a hm hrep => by
    refine ⟨.pointer (some ⟨w.heap.size, 0, none⟩), w.alloc (.cells z.cells e), c, w.heap.size, 1, by simp [execOp, ho, Instr.alloc, zero_run hz, newVar, newRow], Mk.alloc hm _, Nat.le_refl _, ?_, fun k _ => ?_⟩
    · have h0 := boxes (c := c) (vs := z.cells.toList) e hm (lits _ h1)
      rw [hr] at h0
      obtain ⟨us, ty, h2, h3, h4⟩ := h0
      have h5 : (w.alloc (.cells z.cells e)).heap[w.heap.size]? = some (.cells z.cells e (0, 0)) := heap_alloc_new w _
      have h6 := h2
      simp only [Array.toArray_toList] at h6
      rw [h5] at h6
      injection h6 with h6; injection h6 with h6 h7; subst h6
      have hl : r.length = z.cells.size := by rw [← hr]; simp
      refine ⟨z.cells, h5, by omega, by unfold maxLen; omega, ?_, h4⟩
      rw [hl, List.take_of_length_le (by simp)]
      exact h3
    · exact RepA.bp (c := 1) (upd_same _ _ _)) hk
theorem SeqK.newAllocR {e : TypeId} {z : Value} {r : List A} (m : Nat) (ho : o.op = .alloc e) (hg : o.guard = none) (hdst : o.dst = some d) (hz : zeroIs P e z) (h1 : z.cells.toList.all Value.oneCell' = true) (hr : z.cells.toList.map litA = r) (hm : r.length = m) (hd : Nat.blt d n = true)
    (k : ∀ k, H k = none → SeqK P all K rest ⟨n, upd t d (.c (.a (.bp k 0))), L, upd H k (some (.row e m r))⟩) : SeqK P all K (o :: rest) ⟨n, t, L, H⟩ :=
  SeqK.any (e_allocR r hg ho hz h1 hr (inb' hdst hd) fun k' hk' => by rw [hdst, hm]; exact k k' hk')
theorem e_val {x : X} (hg : o.guard = none) (hdst : o.dst = some d) (hd : Nat.blt d n = true) (hx : x.loc = none) (h : ∀ c a w, Sat c ⟨n, t, L, H⟩ a w → ∃ v, (execOp a.eval o).run P w = .ok (.value v) w ∧ RepX c x v)
    (k : K ⟨n, upd t d x, L, H⟩) : OpW P all o K ⟨n, t, L, H⟩ := by
  intro c a w g
  unfold opRun
  rw [if_pos (by simp [Region.wanted, hg])]
  refine wp_to ?_
  obtain ⟨v, h1, h2⟩ := h c a w g
  unfold Oper.wp
  rw [h1]
  simp only [Oper.upon]
  refine ⟨_, c, k, ?_, Ext.refl _ _ _⟩
  have := g.put (some d) (x := x) (v := v) (by simpa [inB] using inb hd) h2 (fun _ e => by rw [hx] at e; cases e)
  rw [hdst]; exact this
theorem row_shape {c : Ctx} {a : Act} {w : World} {k kb : Nat} {e : TypeId} {sz : Nat} {cs : List A} (g : Sat c ⟨n, t, L, H⟩ a w) (hH : H k = some (.row e sz cs)) (hne : cs ≠ []) : ∃ b m, c.β k = some (b, m) ∧ w.shape? b = some (e, m * sz) ∧ cs.length ≤ m * sz ∧ ∃ us, w.heap[b]? = some (.cells us e (0, 0)) ∧ us.size = m * sz ∧ Reps (RepA c.μ c.β) cs (us.toList.take cs.length) := by
  obtain ⟨b, m, h1, us, h2, h3, h4, h5, h6⟩ := g.conc.obj (.e k) _ hH (by simp [AO.empty, hne])
  have h7 := h5.1
  rw [List.length_take] at h7
  exact ⟨b, m, h1, by simp [World.shape?, h2, h3], by simp at h7; omega, us, h2, h3, h5⟩
theorem ptr_block {c : Ctx} {k b m off : Nat} {v : Value} (hv : RepA c.μ c.β (.bp k off) v) (h1 : c.β k = some (b, m)) : v = .pointer (some ⟨b, off, none⟩) := by
  cases hv with
  | bp h4 => rw [h1] at h4; injection h4 with h4; injection h4 with h4 h5; subst h4; rfl
theorem SeqK.toU {src dst ty e : TypeId} {x : Operand} {k sz : Nat} {cs : List A} (ho : o.op = .convert src dst x) (hg : o.guard = none) (hdst : o.dst = some d) (hd : Nat.blt d n = true) (hx : S.eval ⟨n, t, L, H⟩ x = .c (.a (.bp k 0))) (hH : H k = some (.row e sz cs)) (hne : cs ≠ [])
    (hs : P.underlying src = some (.pointer ty)) (hu : P.underlying dst = some .unsafePointer) (ht : (P.info? ty).any (·.size != 0) = true)
    (k' : SeqK P all K rest ⟨n, upd t d (.c (.a (.bp k 0))), L, H⟩) : SeqK P all K (o :: rest) ⟨n, t, L, H⟩ :=
  SeqK.any (e_val (d := d) hg hdst hd rfl (fun c a w g => by
    obtain ⟨b, m, h1, h2, h3, _⟩ := row_shape (kb := 0) g hH hne
    have hv := g.eval x
    rw [hx] at hv
    have hv := ptr_block hv h1
    have hl : 0 < cs.length := List.length_pos_iff.2 hne
    cases hi : P.info? ty with
    | none => rw [hi] at ht; simp at ht
    | some j =>
      rw [hi] at ht
      have hr := Lib.run_to_unsafe (P := P) w (src := src) (dst := dst) ⟨b, 0, none⟩ hs hu hi (by simpa using ht) h2 (by show 0 < _; omega)
      exact ⟨.pointer (some ⟨b, 0, none⟩), by simp [execOp, ho, hv, hr], RepA.bp h1⟩) k')
theorem SeqK.noEsc {f : FuncId} {ys : Operand} {ts : Array TypeId} {k : Nat} {fn : Func} (ho : o.op = .call { callee := .value (.func f), args := #[ys], argTypes := ts }) (hg : o.guard = none) (hdst : o.dst = some d) (hd : Nat.blt d n = true) (hx : S.eval ⟨n, t, L, H⟩ ys = .c (.a (.bp k 0)))
    (hf : P.funcs[f]? = some fn) (hname : (fn.name == "runtime.NumGoroutine") = false) (hb : fn.body.isNone = true) (hn : Extern.findNext fn = none) (he : Extern.find fn = some Extern.AbiNoEscape.same)
    (k' : SeqK P all K rest ⟨n, upd t d (.c (.a (.bp k 0))), L, H⟩) : SeqK P all K (o :: rest) ⟨n, t, L, H⟩ :=
  SeqK.any (e_val (d := d) hg hdst hd rfl (fun c a w g => by
    have hv := g.eval ys
    rw [hx] at hv
    refine ⟨a.eval ys, ?_, hv⟩
    have hr := run_callFunc_extern (P := P) hf hname hb hn he #[a.eval ys] w
    rw [Lib.run_noEscape] at hr
    simp only [Result.andThen] at hr
    have e1 : a.eval (.func f) = .func (.func f) #[] #[] := rfl
    simp [execOp, ho, resolve, e1, Deferred.ofValue, invoke, hr]) k')
theorem SeqK.fromU {src dst ty e : TypeId} {x : Operand} {k sz : Nat} {cs : List A} (ho : o.op = .convert src dst x) (hg : o.guard = none) (hdst : o.dst = some d) (hd : Nat.blt d n = true) (hx : S.eval ⟨n, t, L, H⟩ x = .c (.a (.bp k 0))) (hH : H k = some (.row ty sz cs)) (hne : cs ≠ [])
    (hs : P.underlying src = some .unsafePointer) (hu : P.underlying dst = some (.pointer ty)) (ht : (P.info? ty).isSome = true) (hc : P.cellsOf ty = sz) (hs0 : 0 < sz) (hlies : ∀ m, 0 < m → liesAt P P.depth ty m 0 ty 1 = true)
    (k' : SeqK P all K rest ⟨n, upd t d (.c (.a (.bp k 0))), L, H⟩) : SeqK P all K (o :: rest) ⟨n, t, L, H⟩ :=
  SeqK.any (e_val (d := d) hg hdst hd rfl (fun c a w g => by
    obtain ⟨b, m, h1, h2, h3, _⟩ := row_shape (kb := 0) g hH hne
    have hv := g.eval x
    rw [hx] at hv
    have hv := ptr_block hv h1
    have hl : 0 < cs.length := List.length_pos_iff.2 hne
    have hm : 0 < m := by rcases Nat.eq_zero_or_pos m with h | h; (subst h; omega); exact h
    cases hi : P.info? ty with
    | none => rw [hi] at ht; simp at ht
    | some j =>
      have hr := Lib.run_from_unsafe (P := P) w (src := src) (dst := dst) ⟨b, 0, none⟩ hs hu hi h2 (by rw [hc, Nat.mul_div_cancel _ hs0]; exact hlies m hm)
      exact ⟨.pointer (some ⟨b, 0, none⟩), by simp [execOp, ho, hv, hr], RepA.bp h1⟩) k')
theorem q_neqSame {tp te u : TypeId} {x y : Operand} {k off : Nat} (ho : o.op = .binOp .neq tp x y u) (hp : P.underlying tp = some (.pointer te)) (ht : (P.info? te).isSome = true) (hx : s.eval x = .c (.a (.bp k off))) (hy : s.eval y = .c (.a (.bp k off))) : QV P o s (bX false) :=
  .of_same (fun _ => nolp) fun c w a hm hrep => by
    have ha := hrep x (by rw [ho]; simp [Op.operands])
    have hb := hrep y (by rw [ho]; simp [Op.operands])
    rw [hx] at ha
    rw [hy] at hb
    have ha : RepA c.μ c.β (.bp k off) (a.eval x) := ha
    have hb : RepA c.μ c.β (.bp k off) (a.eval y) := hb
    obtain ⟨b, m, h1⟩ : ∃ b m, c.β k = some (b, m) := by
      generalize a.eval x = v at ha
      cases ha with
      | bp h => exact ⟨_, _, h⟩
    have e1 := ptr_block ha h1
    have e2 := ptr_block hb h1
    cases hi : P.info? te with
    | none => rw [hi] at ht; simp at ht
    | some j =>
      refine ⟨.bool false, ?_, tv_rep rfl⟩
      have hr := Lib.run_neq_ptr_same (P := P) w (tp := tp) ⟨b, off, none⟩ hp hi
      have hg : (eqGuard .neq tp x y (.pointer (some ⟨b, off, none⟩)) (.pointer (some ⟨b, off, none⟩))).run P w = .ok () w := by simp [eqGuard]
      simp only [execOp, ho, e1, e2, Sem.run_bind, hg, Result.andThen_ok, hr]; rfl
theorem q_sliceData {x : Operand} {ts : Array TypeId} {k sz : Nat} {z : Nz} {es : List (List T)} (ho : o.op = .call { callee := .builtin .unsafeSliceData, args := #[x], argTypes := ts }) (hx : s.eval x = .c (.a (.ts k z sz es))) (hne : es ≠ []) : QV P o s (.c (.a (.bp k 0))) :=
  .of_same (fun _ => nolp) fun c w a hm hrep => by
    have ha := hrep x (by rw [ho]; simp [Op.operands, Call.operands])
    rw [hx] at ha
    have ha : RepA c.μ c.β (.ts k z sz es) (a.eval x) := ha
    generalize hav : a.eval x = v at ha
    cases ha with
    | ts0 => exact absurd rfl hne
    | tsE => exact absurd rfl hne
    | @ts _ _ b c0 n0 _ _ hβ _ hn h =>
      have hpos : 0 < es.length := List.length_pos_iff.2 hne
      have hcap : c0 ≠ 0 := by
        cases h with
        | emp h => exact absurd rfl hne
        | sl u ne hn hc => omega
      have hr := Lib.run_unsafeSliceData_row (P := P) w ts o.type ⟨b, 0, none⟩ n0 c0 hcap
      refine ⟨.pointer (some ⟨b, 0, none⟩), ?_, RepA.bp hβ⟩
      simp [execOp, ho, hav, resolve, invoke, builtin, hr]
end
theorem Sat.drop {c : Ctx} {s : S} {a : Act} {w w' : World} {k : Nat} {y : AO} {g n : Nat} (sat : Sat c s a w) (hos : w'.os = w.os) (ht : w'.tape = w.tape) (hout : w'.output = w.output) (hs : w.heap.size ≤ w'.heap.size)
    (hblk : ∀ b, b < w.heap.size → b ≠ g → w'.heap[b]? = w.heap[b]?) (hy : s.H k = some y) (hne : ¬ y.empty) (hβ : c.β k = some (g, n)) (hmem : ∀ b o u, c.μ b o = some u → w'.cell? ⟨b, o, none⟩ = some u) :
    Sat c ⟨s.n, s.t, s.L, upd s.H k none⟩ a w' ∧ Ext c s.own w c (S.own ⟨s.n, s.t, s.L, upd s.H k none⟩) w' := by
  have own' : ∀ j z, S.own ⟨s.n, s.t, s.L, upd s.H k none⟩ j = some z → j ≠ .e k ∧ s.own j = some z := fun j z h => by
    cases j with
    | l d => exact ⟨by simp, h⟩
    | e i =>
      have h : upd s.H k none i = some z := h
      by_cases hi : i = k
      · subst hi; rw [upd_same] at h; cases h
      · rw [upd_ne _ _ hi] at h
        exact ⟨by simp [hi], h⟩
  have away : ∀ j z b1 n1, j ≠ .e k → s.own j = some z → ¬ z.empty → c.pos j = some (b1, n1) → b1 ≠ g ∧ b1 < w.heap.size := fun j z b1 n1 hj h hz hp => by
    obtain ⟨b2, n2, h1, h2⟩ := sat.conc.obj j z h hz
    rw [hp] at h1; injection h1 with h1; injection h1 with h1; subst h1
    refine ⟨fun e => ?_, h2.lt⟩
    subst e
    exact hj (sat.conc.inj j (.e k) z y b1 n1 n h hy hz hne hp hβ)
  obtain ⟨b0, n0, hb1, hb2⟩ := sat.conc.obj (.e k) y hy hne
  rw [show c.pos (.e k) = _ from hβ] at hb1; injection hb1 with hb1; injection hb1 with hb1 hb3; subst hb1 hb3
  refine ⟨⟨⟨hmem, fun j z hj hz => ?_, fun j i z z' b1 n1 n2 hj hi hz hz' h1 h2 => sat.conc.inj j i z z' b1 n1 n2 (own' j z hj).2 (own' i z' hi).2 hz hz' h1 h2, ?_, sat.conc.tabw.of sat.conc.tabo (fun b hb hn => hblk b hb fun e => hn (.e k) y n hy hne (by rw [e]; exact hβ)), fun tg cs th j z n1 hj hz => sat.conc.tabo tg cs th j z n1 (own' j z hj).2 hz⟩, sat.size, sat.tmps, sat.defers.blk hs fun D hD => hblk D (Array.getElem?_eq_some_iff.1 hD).1 fun e => by subst e; exact hb2.nd hD, fun j d h => sat.wf j d h⟩,
    ⟨hos, ht, hout, hs, fun b hb hn => hblk b hb fun e => hn (.e k) y n hy hne (by rw [e]; exact hβ), fun _ _ _ h => h, fun _ _ _ h => .inl h, fun _ _ h => h, fun j z b1 n1 hj hz h1 => .inr ⟨j, z, n1, (own' j z hj).2, hz, h1⟩, rfl, fun i z hi => .inl (by rw [(own' _ z hi).2]; simp)⟩⟩
  · obtain ⟨hnk, hj'⟩ := own' j z hj
    obtain ⟨b1, n1, h1, h2⟩ := sat.conc.obj j z hj' hz
    obtain ⟨h3, h4⟩ := away j z b1 n1 hnk hj' hz h1
    exact ⟨b1, n1, h1, h2.keep (hblk b1 h4 h3) (fun _ _ _ h => h) (fun _ _ h => h) (fun _ _ h => h)⟩
  · obtain ⟨N, hN⟩ := sat.conc.fin
    refine ⟨N, fun i hi => ⟨(hN i hi).1, ?_⟩⟩
    show upd s.H k none i = none
    by_cases hik : i = k
    · subst hik; exact upd_same _ _ _
    · rw [upd_ne _ _ hik]; exact (hN i hi).2
theorem repT_v {μ : Mem} {u v : Value} (h : RepT μ (.v u) v) : v = u := by cases h; rfl
theorem freeze_cell (w : World) (a p : Addr) (n : Nat) : (w.freeze a n).cell? p = w.cell? p := by
  unfold World.freeze
  split
  · rfl
  · unfold World.cell?
    simp only [Array.getElem?_modify]
    by_cases h : a.block = p.block
    · rw [if_pos h]
      cases hb : w.heap[p.block]? with
      | none => rfl
      | some o => cases o <;> rfl
    · rw [if_neg h]
theorem freeze_other (w : World) (a : Addr) (n b : Nat) (h : b ≠ a.block) : (w.freeze a n).heap[b]? = w.heap[b]? := by
  unfold World.freeze
  split
  · rfl
  · simp only [Array.getElem?_modify]
    rw [if_neg (fun e => h e.symm)]
section
variable {P : Program} {all : Array Oper} {o : Oper} {s : S} {K : S → Prop} {n d : Nat} {t : Nat → X} {L : Nat → Option AO} {H : Heap}
theorem e_string {pt it e te : TypeId} {x y : Operand} {kb kt : Nat} {z : Nz} {str : ByteArray} {p0 : A} {sz : Nat} (hg : o.guard = none) (hdst : o.dst = some d) (hd : Nat.blt d n = true) (ho : o.op = .call { callee := .builtin .unsafeString, args := #[x, y], argTypes := #[pt, it] })
    (hp : P.underlying pt = some (.pointer e)) (hc : P.cellsOf e = 1) (hx : S.eval ⟨n, t, L, H⟩ x = .c (.a (.bp kt 0))) (hy : S.eval ⟨n, t, L, H⟩ y = iX .i64 ((str.size : Nat) : Int))
    (hb : H kb = some (.row te sz [p0, .ts kt z 1 (bT str)])) (hH : H kt = some (.tip e 1 (bT str).length)) (h0 : str.size ≠ 0) (h63 : str.size ≤ 9223372036854775807)
    (k : K ⟨n, upd t d (sX str), L, upd H kt none⟩) : OpW P all o K ⟨n, t, L, H⟩ := by
  intro c a w g
  unfold opRun
  rw [if_pos (by simp [Region.wanted, hg])]
  refine wp_to ?_
  have hne : bT str ≠ [] := fun h => h0 (by rw [← bT_length, h]; rfl)
  obtain ⟨b1, n1, h1, us, h2, h3, h4, h5, h6⟩ := g.conc.obj (.e kb) _ hb (by simp [AO.empty])
  obtain ⟨b2, n2, p1, vs, p2, p3, p4, p5⟩ := g.conc.obj (.e kt) _ hH (by simp only [AO.empty]; exact fun h => hne (List.eq_nil_of_length_eq_zero h))
  have p1 : c.β kt = some (b2, n2) := p1
  obtain ⟨v1, hv1⟩ : ∃ v1, (us.toList.take 2)[1]? = some v1 := by
    have := h5.1
    exact ⟨_, List.getElem?_eq_getElem (by simp at this ⊢; omega)⟩
  have hr1 := h5.2 1 (.ts kt z 1 (bT str)) v1 rfl hv1
  obtain ⟨bs, hbs⟩ : ∃ bs, bs = bT str := ⟨_, rfl⟩
  rw [← hbs] at hr1 hne
  cases hr1 with
  | ts0 => exact absurd rfl hne
  | tsE => exact absurd rfl hne
  | @ts _ _ b c0 n0 _ _ hβ _ hn h =>
    subst hbs
    rw [p1] at hβ; injection hβ with hβ; injection hβ with hβ hβ2; subst hβ hβ2
    obtain ⟨b', off, c', xs, e1, hcp, hlen, hxs, hcx⟩ := sl_flat h hne (by decide)
    injection e1 with e1 e2 e3; injection e1 with e1; injection e1 with e1 e4; subst e1 e4
    have hxx : xs = Lib.strCells str := by
      have hb2 := bT_reps (μ := c.μ) str
      apply List.ext_getElem?
      intro i
      have l1 := hxs.1
      have l2 := hb2.1
      rcases Nat.lt_or_ge i xs.length with hi | hi
      · have q1 := hxs.2 i _ _ (List.getElem?_eq_getElem (by omega)) (List.getElem?_eq_getElem hi)
        have q2 := hb2.2 i _ _ (List.getElem?_eq_getElem (by omega)) (List.getElem?_eq_getElem (by omega))
        rw [List.getElem?_eq_getElem hi, List.getElem?_eq_getElem (by omega)]
        congr 1
        have q3 : ∃ u, (bT str).flatten[i]'(by omega) = T.v u := by
          have : (bT str).flatten[i]'(by omega) ∈ (bT str).flatten := List.getElem_mem _
          obtain ⟨l, hl, hm⟩ := List.mem_flatten.1 this
          obtain ⟨u, _, rfl⟩ := List.mem_map.1 hl
          exact ⟨_, by simpa using hm⟩
        obtain ⟨u, q3⟩ := q3
        rw [q3] at q1 q2
        rw [repT_v q1, repT_v q2]
      · rw [List.getElem?_eq_none hi, List.getElem?_eq_none (by omega)]
    have ha := g.eval x
    rw [hx] at ha
    have ha := ptr_block ha p1
    have hb' := g.eval y
    rw [hy] at hb'
    have hb' := rep_tv hb'
    have hsz : str.data.toList.length = str.size := by rw [Array.length_toList]; rfl
    have hcz : vs.size = n2 * 1 := p3
    have hroom : str.size ≤ vs.size := by
      have q := g.conc.mem b2 (str.size - 1) _ (by
        have := hcx (str.size - 1) _ (List.getElem?_eq_getElem (by rw [hxx, Lib.strCells_length]; omega))
        rw [Nat.zero_add] at this; exact this)
      simp only [World.cell?, p2] at q
      have := (Array.getElem?_eq_some_iff.1 q).1
      omega
    have hrun := Lib.run_unsafeString_row (P := P) w pt it o.type e hp hc b2 vs.size (by simp [World.shape?, p2]) str.data.toList (by intro h; apply h0; rw [← hsz, h]; rfl) (by rw [hsz]; exact hroom) (by rw [hsz]; exact h63) (fun j q hj => by
      have := hcx j (.int .u8 q.toNat) (by rw [hxx]; simp only [Lib.strCells, List.getElem?_map, hj]; rfl)
      rw [add_mid]
      exact g.conc.mem _ _ _ this)
    rw [hsz] at hrun
    have hstr : (⟨str.data.toList.toArray⟩ : ByteArray) = str := rfl
    have hex : (execOp a.eval o).run P w = .ok (.value (.string str)) (w.freeze ⟨b2, 0, none⟩ str.size) := by
      simp [execOp, ho, ha, hb', resolve, invoke, builtin, hrun]
    obtain ⟨q1, q2⟩ := Sat.drop (k := kt) (w' := w.freeze ⟨b2, 0, none⟩ str.size) g (by unfold World.freeze; split <;> rfl) (by unfold World.freeze; split <;> rfl) (by unfold World.freeze; split <;> rfl) (by unfold World.freeze; split <;> simp) (fun b hb hne => freeze_other w _ _ b hne) hH (by simp only [AO.empty]; exact fun h => hne (List.eq_nil_of_length_eq_zero h)) p1 (fun b o u hu => by rw [freeze_cell]; exact g.conc.mem b o u hu)
    unfold Oper.wp
    rw [hex]
    refine ⟨_, c, k, ?_, q2⟩
    have := q1.put (some d) (x := sX str) (v := .string str) (by simpa [inB] using inb hd) (tv_rep rfl) (fun _ e => by cases e)
    rw [hdst]; exact this
theorem LexO.string {hs : List Hi} {j : Nat} {rest : List Nat} {pt it e te : TypeId} {x y : Operand} {kb kt : Nat} {z : Nz} {str : ByteArray} {p0 : A} {sz : Nat} (hj : all[j]? = some o) (ha : aheadO all (hs.map (·.1)) j = true) (hok1 : okX all j rest = true) (hok : okO all (hs ++ [(j, fpE o d)]) = true) (hg : o.guard = none) (hdst : o.dst = some d) (hd : Nat.blt d n = true) (ho : o.op = .call { callee := .builtin .unsafeString, args := #[x, y], argTypes := #[pt, it] })
    (hp : P.underlying pt = some (.pointer e)) (hc : P.cellsOf e = 1) (hx : S.eval ⟨n, t, L, H⟩ x = .c (.a (.bp kt 0))) (hy : S.eval ⟨n, t, L, H⟩ y = iX .i64 ((str.size : Nat) : Int))
    (hb : H kb = some (.row te sz [p0, .ts kt z 1 (bT str)])) (hH : H kt = some (.tip e 1 (bT str).length)) (h0 : str.size ≠ 0) (h63 : str.size ≤ 9223372036854775807)
    (k : LexO P all K rest ⟨n, upd t d (sX str), L, upd H kt none⟩ (hs ++ [(j, fpE o d)])) : LexO P all K (j :: rest) ⟨n, t, L, H⟩ hs :=
  .e (Q := fun x H' => x = sX str ∧ H' = upd H kt none) hj ha hok1 hok (.of fun t1 L1 ev => e_string hg hdst hd ho hp hc (by rw [ev x (by rw [ho]; simp [Op.operands, Call.operands])]; exact hx) (by rw [ev y (by rw [ho]; simp [Op.operands, Call.operands])]; exact hy) hb hH h0 h63 ⟨_, _, ⟨rfl, rfl⟩, rfl⟩) (fun x' H' ⟨e1, e2⟩ => by subst e1 e2; exact k)
end
section
variable {P : Program}
abbrev vC (v : Value) : C := .a (.t (.v v))
theorem reps_vals {c : Ctx} : ∀ {us vs : List Value}, Reps (RepC c.μ c.β) (us.map vC) vs → vs = us
  | [], vs, h => by
    have := h.1
    cases vs with
    | nil => rfl
    | cons a r => simp at this
  | u :: us, vs, h => by
    match vs, h with
    | [], h => have := h.1; simp at this
    | v :: vs, h =>
      have h0 : RepX c (.c (vC u)) v := h.2 0 _ _ rfl rfl
      have h1 := rep_tv h0
      subst h1
      rw [reps_vals (us := us) (vs := vs) ⟨by have := h.1; simpa using this, fun i x w hx hw => h.2 (i + 1) x w (by simpa using hx) (by simpa using hw)⟩]
theorem Pure.of_calls {f : FuncId} (us : List Value) {v : Value} {x : X} (h : ∀ w, Calls P f us.toArray w fun e w' => e = .returned v ∧ w' = w) (hx : ∀ c, RepX c x v) : Pure P f (us.map vC) x := by
  intro H c w vs hc hr
  have h1 := reps_vals hr
  have h2 : vs = us.toArray := by rw [← h1]
  rw [h2]
  refine (h w).mono ?_
  rintro e w' ⟨rfl, rfl⟩
  exact ⟨v, x, H, c, rfl, ⟨rfl, rfl⟩, hx c, hc, Ext.refl _ _ _⟩
theorem q_ext {o : Oper} {s : S} {f : FuncId} {ys : Array Operand} {ts : Array TypeId} {fn : Func} {ex : Array Value → Sem Value} {us : List Value} {v : Value} {x : X} (ho : o.op = .call { callee := .value (.func f), args := ys, argTypes := ts }) (hx : argsX s ys.toList = some (us.map vC))
    (hf : P.funcs[f]? = some fn) (hname : (fn.name == "runtime.NumGoroutine") = false) (hb : fn.body.isNone = true) (hn : Extern.findNext fn = none) (he : Extern.find fn = some ex) (hv : ∀ w, (ex us.toArray).run P w = .ok v w) (hr : ∀ c, RepX c x v) (hl : x.loc = none) : QV P o s x :=
  .of_same (fun d e => by rw [hl] at e; cases e) fun c w a hm hrep => by
    have hr' : Reps (RepC c.μ c.β) (us.map vC) (ys.map a.eval).toList := by
      have := args_rep (c := c) (f := a.eval) hx fun y hy => hrep y (by rw [ho]; simp [Op.operands, Call.operands]; exact .inr (by simpa using hy))
      simpa using this
    have h1 := reps_vals hr'
    have h2 : ys.map a.eval = us.toArray := by rw [← h1]
    have hrun := run_callFunc_extern (P := P) hf hname hb hn he us.toArray w
    rw [hv w] at hrun
    simp only [Result.andThen] at hrun
    have e1 : a.eval (.func f) = .func (.func f) #[] #[] := rfl
    exact ⟨v, by simp [execOp, ho, resolve, e1, Deferred.ofValue, invoke, h2, hrun], hr c⟩
theorem run_three (x y : Nat) (w : World) : (Extern.MathBitsCarry.three "Add64" #[.int .u64 (x : Int), .int .u64 (y : Int), .int .u64 0]).run P w = .ok (x, y, 0) w := by
  rfl
def add64F : Array Value → Sem Value := fun args => do
    let (x, y, c) ← Extern.MathBitsCarry.three "Add64" args
    pure (Extern.MathBitsCarry.pair ((x + y + c) % Extern.MathBitsCarry.m64) ((x + y + c) / Extern.MathBitsCarry.m64))
theorem run_add64N (x y : Nat) (w : World) : (add64F [Value.int .u64 (x : Int), .int .u64 (y : Int), .int .u64 0].toArray).run P w = .ok (.tuple #[.int .u64 (((x + y) % 2 ^ 64 : Nat) : Int), .int .u64 (((x + y) / 2 ^ 64 : Nat) : Int)]) w := by
  have h := run_three (P := P) x y w
  unfold add64F
  simp only [Sem.run_bind]
  show ((Extern.MathBitsCarry.three "Add64" #[.int .u64 (x : Int), .int .u64 (y : Int), .int .u64 0]).run P w).andThen _ = _
  rw [h]
  rfl
end
theorem Spec.compact {α : Type} [Inhabited α] {P : Program} {f : FuncId} (enc : α → Value) (henc : ∀ x, (enc x).oneCell' = true) (cm : List α → List α) (z : α) (hcm : ∀ l, (cm l).length ≤ l.length) (hpos : ∀ l, l ≠ [] → 0 < (cm l).length) (hnil : cm [] = [])
    (hS : ∀ (blk off cap : Nat) (zs : List α) (w : World), Go.Sort.Holds enc w blk off zs.toArray → zs.length ≤ 9223372036854775807 → zs.length ≤ cap →
      Calls P f #[.slice (some ⟨blk, off, none⟩) zs.length cap] w fun e w' => e = .returned (.slice (some ⟨blk, off, none⟩) (cm zs).length cap) ∧ ∃ q, w' = Go.Sort.putRow enc (Go.Sort.ahead w q) blk off (cm zs ++ List.replicate (zs.length - (cm zs).length) z).toArray)
    (hN : ∀ (p : Option Addr) (cap : Nat) (w : World), Calls P f #[.slice p 0 cap] w fun e w' => e = .returned (.slice p 0 cap) ∧ w' = w)
    (H : Heap) (k : Nat) (e : TypeId) (l : List α) (hk : H k = some (.row e 1 (l.map fun x => .t (.v (enc x))))) (hl : l.length < 4611686018427387904) :
    Spec P f [.a (.os k 0 l.length 1)] H fun x H' => x = .c (.a (.os k 0 (cm l).length 1)) ∧ H' = upd H k (some (.row e 1 ((cm l).map fun x => .t (.v (enc x))))) := by
  intro c w vs hc hr
  obtain ⟨v, hv⟩ : ∃ v, vs = #[v] := by
    have := hr.1
    simp at this
    match vs, this with
    | ⟨[v]⟩, _ => exact ⟨v, rfl⟩
  subst hv
  have hv : RepA c.μ c.β (.os k 0 l.length 1) v := hr.2 0 (.a (.os k 0 l.length 1)) v rfl rfl
  have same : l = [] → upd H k (some (.row e 1 ((cm l).map fun x => .t (.v (enc x))))) = H := fun h => by
    subst h
    rw [hnil]
    funext j
    by_cases hj : j = k
    · subst hj; rw [upd_same, hk]
    · rw [upd_ne _ _ hj]
  generalize hn : l.length = n at hv
  cases hv with
  | @os0 _ _ _ a =>
    have he : l = [] := List.length_eq_zero_iff.1 hn
    refine (hN _ _ w).mono ?_
    rintro ex w' ⟨rfl, rfl⟩
    refine ⟨_, .c (.a (.os k 0 0 1)), H, c, rfl, ⟨by rw [he, hnil]; rfl, (same he).symm⟩, .os0, hc, .refl _ _ _⟩
  | osub hb ho => exact absurd ho (by omega)
  | @os _ _ _ b cap hb hpos' =>
    have hl0 : l ≠ [] := fun h => by subst h; simp at hn; omega
    have hne : ¬ (AO.row e 1 (l.map fun x => A.t (.v (enc x)))).empty := fun h => by simp only [AO.empty] at h; have := congrArg List.length h; simp at this; exact hl0 this
    obtain ⟨b', n', h1, h2⟩ := hc.obj (.e k) _ hk hne
    have h1 : c.β k = some (b', n') := h1
    rw [hb] at h1; injection h1 with h1; injection h1 with e1 e2; subst e1 e2
    have hlt := h2.lt
    obtain ⟨us, h3, h4, h5, h6, h7⟩ := h2
    have hus : l.length ≤ us.size := by have := h6.1; simp at this; omega
    have hget : ∀ j (hj : j < l.length), us[j]? = some (enc l[j]) := fun j hj => by
      have hu : j < us.size := by omega
      have := h6.2 j (.t (.v (enc l[j]))) us[j] (by simp [hj]) (by simp [hj, hu])
      rw [Array.getElem?_eq_getElem hu]
      generalize us[j] = u at this
      cases this with | t h => cases h; rfl
    subst hn
    have hcl := hcm l
    refine (hS b 0 cap l w (fun j hj => ?_) (by omega) (by omega)).mono ?_
    · have hj : j < l.length := by simpa using hj
      refine ⟨?_, ?_⟩
      · unfold World.cell?; rw [h3]
        simp only [Nat.zero_add]
        rw [hget j hj]; simp [hj]
      · unfold World.frozen?; rw [h3]; simp
    · rintro ex w' ⟨rfl, m, rfl⟩
      generalize hd : (cm l ++ List.replicate (l.length - (cm l).length) z).toArray = d
      have hds : d.size = l.length := by rw [← hd]; simp; omega
      have hb2 : (Go.Sort.putRow enc (Go.Sort.ahead w m) b 0 d).heap[b]? = some (.cells (Go.Sort.putCells enc 0 d us) e (0, 0)) := by
        simp [Go.Sort.putRow, Go.Sort.mapBlock, Array.getElem?_modify, h3, Go.Sort.onCells]
      have hob : ∀ j, j ≠ b → (Go.Sort.putRow enc (Go.Sort.ahead w m) b 0 d).heap[j]? = w.heap[j]? := fun j hj => by
        simp [Go.Sort.putRow, Go.Sort.mapBlock, Array.getElem?_modify, Ne.symm hj]
      obtain ⟨q1, q2⟩ := hc.write (w' := Go.Sort.putRow enc (Go.Sort.ahead w m) b 0 d) (x' := .row e 1 ((cm l).map fun x => .t (.v (enc x)))) hk hne hb rfl rfl rfl (by simp) hob h7
        ⟨_, hb2, by simpa [Go.Sort.putCells] using h4, h5, ⟨by simp [Go.Sort.putCells]; omega, fun j x u hx hu => by
          have hj : j < (cm l).length := by
            have := (List.getElem?_eq_some_iff.1 hx).1
            simpa using this
          have hju : j < us.size := by omega
          have hjd : j < d.size := by omega
          have hx' : x = .t (.v (enc (cm l)[j])) := by
            have := (List.getElem?_eq_some_iff.1 hx).2
            simpa using this.symm
          have hdj : d[j] = (cm l)[j] := by subst hd; simp [hj]
          have hu' : u = enc d[j] := by
            rw [List.getElem?_take] at hu
            split at hu
            · simp [Go.Sort.putCells, hju, hjd] at hu
              exact hu.symm
            · cases hu
          subst hx'
          rw [hu', hdj]
          exact .t (.v (henc _))⟩, h7⟩
      exact ⟨_, .c (.a (.os k 0 (cm l).length 1)), _, c, rfl, ⟨rfl, rfl⟩, .os hb (hpos l hl0), q1, q2⟩
end Go.Proofs.YtnnoafgdjjpidaaGreatDoor.E
