/- Empty slices; tests that memory decides. Plain theorems, for any program. -/
import Derived.Test.YtojkjiakkcgfcaaE19
namespace Go.Proofs.Ytojkjiakkcgfcaa.E
open Go.RowKit
set_option linter.unusedVariables false
theorem upd_sub {α : Type} {f : Nat → Option α} {k : Nat} {x : Option α} (h : f k = none) : ∀ j o, f j = some o → upd f k x j = some o := fun j o hj => by
  rw [upd_ne _ _ (fun e => by rw [e, h] at hj; cases hj)]; exact hj
/-- what is known may be forgotten -/
def XW (x y : X) : Prop := y.loc = none ∧ ∀ c v, RepX c x v → RepX c y v
theorem XW.nil {sz : Nat} : XW (tv (.slice none 0 0)) (.c (.a (.t (.sl .ne sz [])))) := ⟨rfl, fun c v h => by
  have := rep_tv h; subst this; exact RepA.t (.nil (by simp))⟩
theorem XW.nilU {sz : Nat} : XW (tv (.slice none 0 0)) (.c (.a (.t (.sl .un sz [])))) := ⟨rfl, fun c v h => by
  have := rep_tv h; subst this; exact RepA.t (.nil (by simp))⟩
theorem XW.un {z : Nz} {sz : Nat} {es : List (List T)} : XW (.c (.a (.t (.sl z sz es)))) (.c (.a (.t (.sl .un sz es)))) := ⟨rfl, fun c v h => by
  cases h with | t h => exact RepA.t h.forget⟩
theorem XW.ts {k : Nat} {z : Nz} {sz : Nat} {es : List (List T)} : XW (.c (.a (.ts k z sz es))) (.c (.a (.t (.sl z sz es)))) := ⟨rfl, fun c v h => aw_rep (x := .ts k z sz es) h⟩
theorem XW.any {x : X} : XW x .any := ⟨rfl, fun _ _ _ => trivial⟩
section
variable {P : Program} {all : Array Oper} {o : Oper} {s s' : S} {K : S → Prop} {rest : List Oper} {cd : Code} {Q : Exit → S → Prop} {n d : Nat} {t : Nat → X} {L : Nat → Option AO} {H : Heap}
theorem Wk.xw (i : Nat) {x y : X} (hi : t i = x) (h : XW x y) : Wk ⟨n, t, L, H⟩ ⟨n, upd t i y, L, H⟩ := fun c a w g =>
  ⟨c, g.reT (h.2 c _ (by have := g.tmps i; simp only [hi] at this; exact this)) h.1, .refl _ _ _⟩
theorem AW.xw (i : Nat) {x y : X} (hi : t i = x) (h : XW x y) (k : AW P cd Q ⟨n, upd t i y, L, H⟩) : AW P cd Q ⟨n, t, L, H⟩ := .wk (.xw i hi h) k
/-- is it nil? where only memory knows -/
theorem SeqK.eqlNU {tt u : TypeId} {x y : Operand} {z : Nz} {sz : Nat} {es : List (List T)} (ho : o.op = .binOp .eql tt x y u) (hg : o.guard = none) (hdst : o.dst = some d) (hd : Nat.blt d n = true) (hx : S.eval ⟨n, t, L, H⟩ x = .c (.a (.t (.sl z sz es)))) (hy : nilT (S.eval ⟨n, t, L, H⟩ y) = some (.sl, true)) (ty : nkB P tt .sl = true)
    (k : ∀ b, (b = true → es = []) → SeqK P all K rest ⟨n, upd t d (bX b), L, H⟩) : SeqK P all K (o :: rest) ⟨n, t, L, H⟩ := by
  intro c a w g
  unfold opRun
  rw [if_pos (by simp [Region.wanted, hg])]
  have ha := g.eval x
  rw [hx] at ha
  have hb := nilT_rep (g.eval y) hy
  obtain ⟨b, hv, he⟩ : ∃ b, NV .sl b (a.eval x) ∧ (b = true → es = []) := by
    generalize a.eval x = v at ha
    cases ha with | t ha =>
    cases ha with
    | nil h => exact ⟨true, ⟨_, _, rfl⟩, fun _ => rfl⟩
    | emp h => exact ⟨false, ⟨_, _, _, rfl⟩, fun h => by cases h⟩
    | sl u ne => exact ⟨false, ⟨_, _, _, rfl⟩, fun h => by cases h⟩
  have hrun : (execOp a.eval o).run P w = .ok (.value (.bool b)) w := by
    simp only [execOp, ho, Sem.run_bind, nil_guard hv, Result.andThen_ok, (nil_bin ty hv hb w).1]; rfl
  refine wp_to ?_
  unfold Oper.wp
  rw [hrun]
  refine ⟨_, c, k b he, ?_, .refl _ _ _⟩
  have := g.put (some d) (x := bX b) (v := .bool b) (by have h9 := inb' (o := o) hdst hd; rw [hdst] at h9; exact h9) (tv_rep rfl) (fun _ h => by cases h)
  rw [hdst]; exact this
/-- a literal without elements -/
theorem q_build0 {tt e : TypeId} {sz bytes : Nat} (ho : o.op = .buildSlice tt 0 #[]) (ty : elB P tt e sz bytes = true) : QV P o s (.c (.a (.ts 0 .nn sz []))) :=
  .of_run (fun _ => nolp) fun c w a hm hrep => by
    obtain ⟨i, z, h1, h2, h3, h4, h5, h6, h7⟩ := elB_get ty
    refine ⟨.slice (some ⟨w.heap.size, 0, none⟩) 0 0, w.alloc (.cells #[] e), c, ?_, .tsE, .alloc hm _⟩
    have e0 : Array.map (fun x : Nat => (default : Value)) (Array.range 0) = #[] := by simp
    simp [execOp, ho, Instr.buildSlice, run_underlying h1, sizeOf, typeInfo, h2, newRow, Instr.fill, e0]
/-- append onto a slice without elements and without room -/
theorem q_app0 {x y : Operand} {tt e : TypeId} {k sz bytes : Nat} {z : Nz} {es : List (List T)} (ho : o.op = .call { callee := .builtin .append, args := #[x, y], argTypes := #[tt, tt] }) (ty : elB P tt e sz bytes = true) (hx : s.eval x = .c (.a (.ts k z sz []))) (hy : srcX (s.eval y) = some (es, sz)) (hb : es.length * bytes ≤ 140737488355328 ∧ es.length ≤ 9223372036854775807) : QV P o s (.c (.a (.t (.sl z sz es)))) :=
  .of_run (fun _ => nolp) fun c w a hm hrep => by
    obtain ⟨i, zz, g1, g2, g3, g4, g5, g6, g7⟩ := elB_get ty
    have ha := hrep x (by rw [ho]; simp [Op.operands, Call.operands])
    rw [hx] at ha
    have hbr := src_rep (hrep y (by rw [ho]; simp [Op.operands, Call.operands])) hy
    obtain ⟨ad, m, cp, hv, rfl, cs, hcl, hel, hr, hcs⟩ := src_cells (by omega) hbr
    obtain ⟨b0, hb0, hz⟩ : ∃ b0, a.eval x = .slice b0 0 0 ∧ RepT c.μ (.sl z sz []) (.slice b0 0 0) := by
      generalize a.eval x = v at ha
      cases ha with
      | ts0 => exact ⟨none, rfl, .nil (by simp)⟩
      | tsE => exact ⟨some _, rfl, .emp (by simp)⟩
      | ts hk hne => exact absurd rfl hne
    rcases app0_run (P := P) w ty o.type b0 ad es.length cp cs hcl (fun j u hu => by
      obtain ⟨b, off, h, hc⟩ := hcs j u hu
      exact ⟨b, off, h, hm.mem _ _ _ hc⟩) (reps_one hr) hb.1 hb.2 with ⟨h0, hrun⟩ | ⟨h0, cap, w', hrun, hown, hgr⟩
    · have he : es = [] := List.eq_nil_of_length_eq_zero h0
      subst he
      simp only [List.length_nil] at hrun
      exact ⟨.slice b0 0 0, w, c, by simp [execOp, ho, hb0, hv, resolve, invoke, builtin, hrun], .t hz, .refl hm⟩
    · have hne : es ≠ [] := fun h => h0 (by rw [h]; rfl)
      obtain ⟨g0, cap1, cur, e1, k1, k2, k3, k4, k5⟩ := own_cells hown (by simp)
      injection e1 with e1 _ e2; injection e1 with e1; injection e1 with e1; subst e1 e2
      have hblk : ∀ b, b < w.heap.size → w'.heap[b]? = w.heap[b]? := fun b hb => hgr.block b hb (by simp)
      have mk := Mk.block (b := w.heap.size) (cs := cs) hm hgr.os hgr.tape hgr.output hgr.size hblk (Nat.le_refl _) k5
      exact ⟨.slice (some ⟨w.heap.size, 0, none⟩) es.length cap, w', { c with μ := c.μ.add w.heap.size cs }, by simp [execOp, ho, hb0, hv, resolve, invoke, builtin, hrun], .t (flat_sl hne k4 hel (hr.monoT mk.mem) fun j u hu => by rw [Nat.zero_add]; exact Mem.add_in hu), mk⟩
end
end Go.Proofs.Ytojkjiakkcgfcaa.E
