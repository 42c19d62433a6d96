/- Parts of the proof, one after the other: E41, E42, E43, E44. No condition. -/
import Derived.Test.YtnmfjojhgfipcaaGreatDoorM10
import Derived.Lib.UnsafeStr
import Derived.Lib.Builder
import Derived.Sort.Grow
/- What a strings.Builder needs: an object that keeps its type, a pointer's way through unsafe.Pointer, and the string of the buffer. Plain theorems, for any program. -/
namespace Go.Proofs.YtnmfjojhgfipcaaGreatDoor.E
open Go.RowKit
set_option linter.unusedVariables false
section
variable {P : Program} {all : Array Oper} {o : Oper} {s : S} {K : S → Prop} {rest : List Oper} {n d : Nat} {t : Nat → X} {L : Nat → Option AO} {H : Heap}
theorem ptr_block {c : Ctx} {k b m off : Nat} {v : Value} (hv : RepA c.μ c.β (.bp k off) v) (h1 : c.β k = some (b, m)) : v = .pointer (some ⟨b, off, none⟩) := by
  cases hv with
  | bp h4 => rw [h1] at h4; injection h4 with h4; injection h4 with h4 h5; subst h4; rfl
end
end Go.Proofs.YtnmfjojhgfipcaaGreatDoor.E
/- The string of a buffer: its bytes are frozen, and the buffer is given up. Plain theorems, for any program. -/
namespace Go.Proofs.YtnmfjojhgfipcaaGreatDoor.E
open Go.RowKit
set_option linter.unusedVariables false
/-- an object is given up; its block may turn -/
theorem Sat.drop {c : Ctx} {s : S} {a : Act} {w w' : World} {k : Nat} {y : AO} {g n : Nat} (sat : Sat c s a w) (hos : w'.os = w.os) (ht : w'.tape = w.tape) (hout : w'.output = w.output) (hs : w.heap.size ≤ w'.heap.size)
    (hblk : ∀ b, b < w.heap.size → b ≠ g → w'.heap[b]? = w.heap[b]?) (hy : s.H k = some y) (hne : ¬ y.empty) (hβ : c.β k = some (g, n)) (hmem : ∀ b o u, c.μ b o = some u → w'.cell? ⟨b, o, none⟩ = some u) :
    Sat c ⟨s.n, s.t, s.L, upd s.H k none⟩ a w' ∧ Ext c s.own w c (S.own ⟨s.n, s.t, s.L, upd s.H k none⟩) w' := by
  have own' : ∀ j z, S.own ⟨s.n, s.t, s.L, upd s.H k none⟩ j = some z → j ≠ .e k ∧ s.own j = some z := fun j z h => by
    cases j with
    | l d => exact ⟨by simp, h⟩
    | e i =>
      have h : upd s.H k none i = some z := h
      by_cases hi : i = k
      · subst hi; rw [upd_same] at h; cases h
      · rw [upd_ne _ _ hi] at h
        exact ⟨by simp [hi], h⟩
  have away : ∀ j z b1 n1, j ≠ .e k → s.own j = some z → ¬ z.empty → c.pos j = some (b1, n1) → b1 ≠ g ∧ b1 < w.heap.size := fun j z b1 n1 hj h hz hp => by
    obtain ⟨b2, n2, h1, h2⟩ := sat.conc.obj j z h hz
    rw [hp] at h1; injection h1 with h1; injection h1 with h1; subst h1
    refine ⟨fun e => ?_, h2.lt⟩
    subst e
    exact hj (sat.conc.inj j (.e k) z y b1 n1 n h hy hz hne hp hβ)
  obtain ⟨b0, n0, hb1, hb2⟩ := sat.conc.obj (.e k) y hy hne
  rw [show c.pos (.e k) = _ from hβ] at hb1; injection hb1 with hb1; injection hb1 with hb1 hb3; subst hb1 hb3
  refine ⟨⟨⟨hmem, fun j z hj hz => ?_, fun j i z z' b1 n1 n2 hj hi hz hz' h1 h2 => sat.conc.inj j i z z' b1 n1 n2 (own' j z hj).2 (own' i z' hi).2 hz hz' h1 h2, ?_, sat.conc.tabw.of sat.conc.tabo (fun b hb hn => hblk b hb fun e => hn (.e k) y n hy hne (by rw [e]; exact hβ)), fun tg cs th j z n1 hj hz => sat.conc.tabo tg cs th j z n1 (own' j z hj).2 hz⟩, sat.size, sat.tmps, sat.defers.blk hs fun D hD => hblk D (Array.getElem?_eq_some_iff.1 hD).1 fun e => by subst e; exact hb2.nd hD, fun j d h => sat.wf j d h⟩,
    ⟨hos, ht, hout, hs, fun b hb hn => hblk b hb fun e => hn (.e k) y n hy hne (by rw [e]; exact hβ), fun _ _ _ h => h, fun _ _ _ h => .inl h, fun _ _ h => h, fun j z b1 n1 hj hz h1 => .inr ⟨j, z, n1, (own' j z hj).2, hz, h1⟩, rfl, fun i z hi => .inl (by rw [(own' _ z hi).2]; simp)⟩⟩
  · obtain ⟨hnk, hj'⟩ := own' j z hj
    obtain ⟨b1, n1, h1, h2⟩ := sat.conc.obj j z hj' hz
    obtain ⟨h3, h4⟩ := away j z b1 n1 hnk hj' hz h1
    exact ⟨b1, n1, h1, h2.keep (hblk b1 h4 h3) (fun _ _ _ h => h) (fun _ _ h => h) (fun _ _ h => h)⟩
  · obtain ⟨N, hN⟩ := sat.conc.fin
    refine ⟨N, fun i hi => ⟨(hN i hi).1, ?_⟩⟩
    show upd s.H k none i = none
    by_cases hik : i = k
    · subst hik; exact upd_same _ _ _
    · rw [upd_ne _ _ hik]; exact (hN i hi).2
theorem repT_v {μ : Mem} {u v : Value} (h : RepT μ (.v u) v) : v = u := by cases h; rfl
theorem freeze_cell (w : World) (a p : Addr) (n : Nat) : (w.freeze a n).cell? p = w.cell? p := by
  unfold World.freeze
  split
  · rfl
  · unfold World.cell?
    simp only [Array.getElem?_modify]
    by_cases h : a.block = p.block
    · rw [if_pos h]
      cases hb : w.heap[p.block]? with
      | none => rfl
      | some o => cases o <;> rfl
    · rw [if_neg h]
theorem freeze_other (w : World) (a : Addr) (n b : Nat) (h : b ≠ a.block) : (w.freeze a n).heap[b]? = w.heap[b]? := by
  unfold World.freeze
  split
  · rfl
  · simp only [Array.getElem?_modify]
    rw [if_neg (fun e => h e.symm)]
section
variable {P : Program} {all : Array Oper} {o : Oper} {s : S} {K : S → Prop} {n d : Nat} {t : Nat → X} {L : Nat → Option AO} {H : Heap}
theorem e_string {pt it e te : TypeId} {x y : Operand} {kb kt : Nat} {z : Nz} {str : ByteArray} {p0 : A} {sz : Nat} (hg : o.guard = none) (hdst : o.dst = some d) (hd : Nat.blt d n = true) (ho : o.op = .call { callee := .builtin .unsafeString, args := #[x, y], argTypes := #[pt, it] })
    (hp : P.underlying pt = some (.pointer e)) (hc : P.cellsOf e = 1) (hx : S.eval ⟨n, t, L, H⟩ x = .c (.a (.bp kt 0))) (hy : S.eval ⟨n, t, L, H⟩ y = iX .i64 ((str.size : Nat) : Int))
    (hb : H kb = some (.row te sz [p0, .ts kt z 1 (bT str)])) (hH : H kt = some (.tip e 1 (bT str).length)) (h0 : str.size ≠ 0) (h63 : str.size ≤ 9223372036854775807)
    (k : K ⟨n, upd t d (sX str), L, upd H kt none⟩) : OpW P all o K ⟨n, t, L, H⟩ := by
  intro c a w g
  unfold opRun
  rw [if_pos (by simp [Region.wanted, hg])]
  refine wp_to ?_
  have hne : bT str ≠ [] := fun h => h0 (by rw [← bT_length, h]; rfl)
  obtain ⟨b1, n1, h1, us, h2, h3, h4, h5, h6⟩ := g.conc.obj (.e kb) _ hb (by simp [AO.empty])
  obtain ⟨b2, n2, p1, vs, p2, p3, p4, p5⟩ := g.conc.obj (.e kt) _ hH (by simp only [AO.empty]; exact fun h => hne (List.eq_nil_of_length_eq_zero h))
  have p1 : c.β kt = some (b2, n2) := p1
  obtain ⟨v1, hv1⟩ : ∃ v1, (us.toList.take 2)[1]? = some v1 := by
    have := h5.1
    exact ⟨_, List.getElem?_eq_getElem (by simp at this ⊢; omega)⟩
  have hr1 := h5.2 1 (.ts kt z 1 (bT str)) v1 rfl hv1
  obtain ⟨bs, hbs⟩ : ∃ bs, bs = bT str := ⟨_, rfl⟩
  rw [← hbs] at hr1 hne
  cases hr1 with
  | ts0 => exact absurd rfl hne
  | tsE => exact absurd rfl hne
  | @ts _ _ b c0 n0 _ _ hβ _ hn h =>
    subst hbs
    rw [p1] at hβ; injection hβ with hβ; injection hβ with hβ hβ2; subst hβ hβ2
    obtain ⟨b', off, c', xs, e1, hcp, hlen, hxs, hcx⟩ := sl_flat h hne (by decide)
    injection e1 with e1 e2 e3; injection e1 with e1; injection e1 with e1 e4; subst e1 e4
    have hxx : xs = Lib.strCells str := by
      have hb2 := bT_reps (μ := c.μ) str
      apply List.ext_getElem?
      intro i
      have l1 := hxs.1
      have l2 := hb2.1
      rcases Nat.lt_or_ge i xs.length with hi | hi
      · have q1 := hxs.2 i _ _ (List.getElem?_eq_getElem (by omega)) (List.getElem?_eq_getElem hi)
        have q2 := hb2.2 i _ _ (List.getElem?_eq_getElem (by omega)) (List.getElem?_eq_getElem (by omega))
        rw [List.getElem?_eq_getElem hi, List.getElem?_eq_getElem (by omega)]
        congr 1
        have q3 : ∃ u, (bT str).flatten[i]'(by omega) = T.v u := by
          have : (bT str).flatten[i]'(by omega) ∈ (bT str).flatten := List.getElem_mem _
          obtain ⟨l, hl, hm⟩ := List.mem_flatten.1 this
          obtain ⟨u, _, rfl⟩ := List.mem_map.1 hl
          exact ⟨_, by simpa using hm⟩
        obtain ⟨u, q3⟩ := q3
        rw [q3] at q1 q2
        rw [repT_v q1, repT_v q2]
      · rw [List.getElem?_eq_none hi, List.getElem?_eq_none (by omega)]
    have ha := g.eval x
    rw [hx] at ha
    have ha := ptr_block ha p1
    have hb' := g.eval y
    rw [hy] at hb'
    have hb' := rep_tv hb'
    have hsz : str.data.toList.length = str.size := by rw [Array.length_toList]; rfl
    have hcz : vs.size = n2 * 1 := p3
    have hroom : str.size ≤ vs.size := by
      have q := g.conc.mem b2 (str.size - 1) _ (by
        have := hcx (str.size - 1) _ (List.getElem?_eq_getElem (by rw [hxx, Lib.strCells_length]; omega))
        rw [Nat.zero_add] at this; exact this)
      simp only [World.cell?, p2] at q
      have := (Array.getElem?_eq_some_iff.1 q).1
      omega
    have hrun := Lib.run_unsafeString_row (P := P) w pt it o.type e hp hc b2 vs.size (by simp [World.shape?, p2]) str.data.toList (by intro h; apply h0; rw [← hsz, h]; rfl) (by rw [hsz]; exact hroom) (by rw [hsz]; exact h63) (fun j q hj => by
      have := hcx j (.int .u8 q.toNat) (by rw [hxx]; simp only [Lib.strCells, List.getElem?_map, hj]; rfl)
      rw [add_mid]
      exact g.conc.mem _ _ _ this)
    rw [hsz] at hrun
    have hstr : (⟨str.data.toList.toArray⟩ : ByteArray) = str := rfl
    have hex : (execOp a.eval o).run P w = .ok (.value (.string str)) (w.freeze ⟨b2, 0, none⟩ str.size) := by
      simp [execOp, ho, ha, hb', resolve, invoke, builtin, hrun]
    obtain ⟨q1, q2⟩ := Sat.drop (k := kt) (w' := w.freeze ⟨b2, 0, none⟩ str.size) g (by unfold World.freeze; split <;> rfl) (by unfold World.freeze; split <;> rfl) (by unfold World.freeze; split <;> rfl) (by unfold World.freeze; split <;> simp) (fun b hb hne => freeze_other w _ _ b hne) hH (by simp only [AO.empty]; exact fun h => hne (List.eq_nil_of_length_eq_zero h)) p1 (fun b o u hu => by rw [freeze_cell]; exact g.conc.mem b o u hu)
    unfold Oper.wp
    rw [hex]
    refine ⟨_, c, k, ?_, q2⟩
    have := q1.put (some d) (x := sX str) (v := .string str) (by simpa [inB] using inb hd) (tv_rep rfl) (fun _ e => by cases e)
    rw [hdst]; exact this
theorem LexO.string {hs : List Hi} {j : Nat} {rest : List Nat} {pt it e te : TypeId} {x y : Operand} {kb kt : Nat} {z : Nz} {str : ByteArray} {p0 : A} {sz : Nat} (hj : all[j]? = some o) (ha : aheadO all (hs.map (·.1)) j = true) (hok1 : okX all j rest = true) (hok : okO all (hs ++ [(j, fpE o d)]) = true) (hg : o.guard = none) (hdst : o.dst = some d) (hd : Nat.blt d n = true) (ho : o.op = .call { callee := .builtin .unsafeString, args := #[x, y], argTypes := #[pt, it] })
    (hp : P.underlying pt = some (.pointer e)) (hc : P.cellsOf e = 1) (hx : S.eval ⟨n, t, L, H⟩ x = .c (.a (.bp kt 0))) (hy : S.eval ⟨n, t, L, H⟩ y = iX .i64 ((str.size : Nat) : Int))
    (hb : H kb = some (.row te sz [p0, .ts kt z 1 (bT str)])) (hH : H kt = some (.tip e 1 (bT str).length)) (h0 : str.size ≠ 0) (h63 : str.size ≤ 9223372036854775807)
    (k : LexO P all K rest ⟨n, upd t d (sX str), L, upd H kt none⟩ (hs ++ [(j, fpE o d)])) : LexO P all K (j :: rest) ⟨n, t, L, H⟩ hs :=
  .e (Q := fun x H' => x = sX str ∧ H' = upd H kt none) hj ha hok1 hok (.of fun t1 L1 ev => e_string hg hdst hd ho hp hc (by rw [ev x (by rw [ho]; simp [Op.operands, Call.operands])]; exact hx) (by rw [ev y (by rw [ho]; simp [Op.operands, Call.operands])]; exact hy) hb hH h0 h63 ⟨_, _, ⟨rfl, rfl⟩, rfl⟩) (fun x' H' ⟨e1, e2⟩ => by subst e1 e2; exact k)
end
end Go.Proofs.YtnmfjojhgfipcaaGreatDoor.E
/- Contracts of the shelf as pure functions; operations that the machine answers itself. Plain theorems, for any program. -/
namespace Go.Proofs.YtnmfjojhgfipcaaGreatDoor.E
open Go.RowKit
set_option linter.unusedVariables false
section
variable {P : Program}
abbrev vC (v : Value) : C := .a (.t (.v v))
theorem reps_vals {c : Ctx} : ∀ {us vs : List Value}, Reps (RepC c.μ c.β) (us.map vC) vs → vs = us
  | [], vs, h => by
    have := h.1
    cases vs with
    | nil => rfl
    | cons a r => simp at this
  | u :: us, vs, h => by
    match vs, h with
    | [], h => have := h.1; simp at this
    | v :: vs, h =>
      have h0 : RepX c (.c (vC u)) v := h.2 0 _ _ rfl rfl
      have h1 := rep_tv h0
      subst h1
      rw [reps_vals (us := us) (vs := vs) ⟨by have := h.1; simpa using this, fun i x w hx hw => h.2 (i + 1) x w (by simpa using hx) (by simpa using hw)⟩]
/-- a call that leaves the world as it was -/
theorem Pure.of_calls {f : FuncId} (us : List Value) {v : Value} {x : X} (h : ∀ w, Calls P f us.toArray w fun e w' => e = .returned v ∧ w' = w) (hx : ∀ c, RepX c x v) : Pure P f (us.map vC) x := by
  intro H c w vs hc hr
  have h1 := reps_vals hr
  have h2 : vs = us.toArray := by rw [← h1]
  rw [h2]
  refine (h w).mono ?_
  rintro e w' ⟨rfl, rfl⟩
  exact ⟨v, x, H, c, rfl, ⟨rfl, rfl⟩, hx c, hc, Ext.refl _ _ _⟩
end
end Go.Proofs.YtnmfjojhgfipcaaGreatDoor.E
/- The library's compact, in the engine's words. Plain theorems, for any program. -/
namespace Go.Proofs.YtnmfjojhgfipcaaGreatDoor.E
open Go.RowKit
set_option linter.unusedVariables false
end Go.Proofs.YtnmfjojhgfipcaaGreatDoor.E
