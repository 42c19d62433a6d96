/- Parts of the proof, one after the other: W5, W6, W7, W8, W9, W10. No condition. -/
import Derived.Test.YtnmfjojhgfipcaaM14
namespace Go.Proofs.Ytnmfjojhgfipcaa.W
open Go.RowKit E
set_option linter.unusedVariables false
set_option linter.unusedSimpArgs false
set_option linter.unusedSectionVars false
/-! few; rows of the domains -/
def sumL {α : Type} (f : α → Nat) : List α → Nat
  | [] => 0
  | a :: r => f a + sumL f r
theorem sumL_app {α : Type} {f : α → Nat} (a b : List α) : sumL f (a ++ b) = sumL f a + sumL f b := by
  induction a with
  | nil => simp [sumL]
  | cons x r ih => simp only [List.cons_append, sumL, ih]; omega
theorem sumL_take {α : Type} {f : α → Nat} {l : List α} {i : Nat} (h : i < l.length) : sumL f (l.take (i + 1)) = sumL f (l.take i) + f l[i] := by
  rw [List.take_succ_eq_append_getElem h, sumL_app]; simp [sumL]
theorem sumL_le {α : Type} {f : α → Nat} {M : Nat} {l : List α} (h : ∀ a ∈ l, f a ≤ M) (i : Nat) (hi : i ≤ l.length) : sumL f (l.take i) ≤ i * M := by
  induction i with
  | zero => simp [sumL]
  | succ i ih =>
    rw [sumL_take (by omega), Nat.add_mul]
    have := ih (by omega)
    have := h _ (List.getElem_mem (show i < l.length by omega))
    omega
theorem sumL_mem {α : Type} {f : α → Nat} {a : α} : ∀ {l : List α}, a ∈ l → f a ≤ sumL f l
  | b :: r, h => by
    rcases List.mem_cons.1 h with rfl | h
    · simp only [sumL]; omega
    · have := sumL_mem (f := f) h; simp only [sumL]; omega
def lenN (c : Cl) : Nat := c.nl.length + c.nn.length + c.ax.length + c.is.length + c.ts.length + c.sm.length + c.df.length
def axN (l : List Ax) : Nat := sumL (fun a : Ax => a.f.cs.length) l
def isN (l : List Ct) : Nat := sumL (fun a : Ct => a.f.cs.length) l
theorem axN_take {l : List Ax} {i : Nat} (h : i < l.length) : axN (l.take (i + 1)) = axN (l.take i) + l[i].f.cs.length := sumL_take h
theorem isN_take {l : List Ct} {i : Nat} (h : i < l.length) : isN (l.take (i + 1)) = isN (l.take i) + l[i].f.cs.length := sumL_take h
abbrev fewP (c : Cl) : Prop := lenN c ≤ 80 ∧ (∀ j (h : j < c.ts.length), c.ts[j].s.size ≤ 40) ∧ lenN c + axN c.ax + isN c.is ≤ 400

set_option maxHeartbeats 4000000 in
set_option maxRecDepth 20000 in
theorem few_any (c : Cl) (hc : rgC c) : Pure Try.prog 21 [clC c] (.c (bC (decide (fewP c)))) := by
 intro H
 refine Spec.enter Try.func21 rfl ?_
 refine AW.wk (Wk.keep 87 [(0, .c (clC c))] [] (H) rfl ⟨rfl, trivial⟩ trivial (fun _ _ h => h) rfl) ?_
 refine sR ?_
 refine SeqK.r (b_box (r := [_, _, _, _, _, _, _]) rfl rfl rfl rfl rfl rfl) rfl ?_
 refine sA ?_
 refine SeqK.nil ?_
 refine AW.seq ?_
 have m1 := mlen i64T c.nl
 have m2 := mlen i64T c.nn
 have m3 := mlen axT c.ax
 have m4 := mlen ctT c.is
 have m5 := mlen tsT c.ts
 have m6 := mlen prT c.sm
 have m7 := mlen prT c.df
 have q1 := hc.nl
 have q2 := hc.nn
 have q3 := hc.ax
 have q4 := hc.is
 have q5 := hc.ts
 have q6 := hc.sm
 have q7 := hc.df
 have hN : lenN c = c.nl.length + c.nn.length + c.ax.length + c.is.length + c.ts.length + c.sm.length + c.df.length := rfl
 refine AW.reg ?_
 refine SeqK.q (q_fieldL _ rfl Fx.fl28_0 rfl rfl) rfl rfl rfl ?_
 refine SeqK.r (b_load (r := .a _) rfl Fx.ty22 rfl rfl rfl rfl rfl rfl) rfl ?_
 refine SeqK.q (q_len rfl Fx.un22 rfl) rfl rfl rfl ?_
 refine SeqK.q (q_fieldL _ rfl Fx.fl28_1 rfl rfl) rfl rfl rfl ?_
 refine SeqK.r (b_load (r := .a _) rfl Fx.ty22 rfl rfl rfl rfl rfl rfl) rfl ?_
 refine SeqK.q (q_len rfl Fx.un22 rfl) rfl rfl rfl ?_
 refine SeqK.q (q_add _ rfl rfl rfl (w64 (by omega) (by omega))) rfl rfl rfl ?_
 refine SeqK.q (q_fieldL _ rfl Fx.fl28_2 rfl rfl) rfl rfl rfl ?_
 refine SeqK.r (b_load (r := .a _) rfl Fx.ty23 rfl rfl rfl rfl rfl rfl) rfl ?_
 refine SeqK.q (q_len rfl Fx.un23 rfl) rfl rfl rfl ?_
 refine SeqK.q (q_add _ rfl rfl rfl (w64 (by omega) (by omega))) rfl rfl rfl ?_
 refine SeqK.q (q_fieldL _ rfl Fx.fl28_3 rfl rfl) rfl rfl rfl ?_
 refine SeqK.r (b_load (r := .a _) rfl Fx.ty24 rfl rfl rfl rfl rfl rfl) rfl ?_
 refine SeqK.q (q_len rfl Fx.un24 rfl) rfl rfl rfl ?_
 refine SeqK.q (q_add _ rfl rfl rfl (w64 (by omega) (by omega))) rfl rfl rfl ?_
 refine SeqK.q (q_fieldL _ rfl Fx.fl28_4 rfl rfl) rfl rfl rfl ?_
 refine SeqK.r (b_load (r := .a _) rfl Fx.ty25 rfl rfl rfl rfl rfl rfl) rfl ?_
 refine SeqK.q (q_len rfl Fx.un25 rfl) rfl rfl rfl ?_
 refine SeqK.q (q_add _ rfl rfl rfl (w64 (by omega) (by omega))) rfl rfl rfl ?_
 refine SeqK.q (q_fieldL _ rfl Fx.fl28_5 rfl rfl) rfl rfl rfl ?_
 refine SeqK.r (b_load (r := .a _) rfl Fx.ty26 rfl rfl rfl rfl rfl rfl) rfl ?_
 refine SeqK.q (q_len rfl Fx.un26 rfl) rfl rfl rfl ?_
 refine SeqK.q (q_add _ rfl rfl rfl (w64 (by omega) (by omega))) rfl rfl rfl ?_
 refine SeqK.q (q_fieldL _ rfl Fx.fl28_6 rfl rfl) rfl rfl rfl ?_
 refine SeqK.r (b_load (r := .a _) rfl Fx.ty26 rfl rfl rfl rfl rfl rfl) rfl ?_
 refine SeqK.q (q_len rfl Fx.un26 rfl) rfl rfl rfl ?_
 refine SeqK.q (q_add _ rfl rfl rfl (w64 (by omega) (by omega))) rfl rfl rfl ?_
 refine sA ?_
 refine SeqK.nil ?_
 refine AW.seq ?_
 refine AW.seq ?_
 refine AW.wk (Wk.keep 87 [(1, .lp 1 0), (2, .c (bC false)), (3, iX .i64 ((lenN c : Nat) : Int))] [(1, .box [.t (.sl .un 1 (c.nl.map i64T)), .t (.sl .un 1 (c.nn.map i64T)), .t (.sl .un 4 (c.ax.map axT)), .t (.sl .un 3 (c.is.map ctT)), .t (.sl .un 4 (c.ts.map tsT)), .t (.sl .un 2 (c.sm.map prT)), .t (.sl .un 2 (c.df.map prT))])] (H) rfl ⟨rfl, rfl, by show iX .i64 _ = iX .i64 _; congr 1; omega, trivial⟩ ⟨rfl, trivial⟩ (fun _ _ h => h) rfl) ?_
 refine AW.reg ?_
 refine sM ?_
 refine SeqK.q (q_gtr rfl rfl rfl) rfl rfl rfl ?_
 refine SeqK.nil ?_
 refine AW.condD rfl (fun h35 => ?_) (fun h35 => ?_)
 ·
  refine sR ?_
  refine sA ?_
  refine SeqK.nil ?_
  refine AW.ret ?_
  exact fin_x (x := .c _) (H) (.tmp rfl .nil) rfl (fun _ _ h => h) (⟨bCe (dF (fun h => by have := h.1; omega)), rfl⟩)
 ·
  refine AW.skip ?_
  refine AW.seq ?_
  refine sR ?_
  refine sA ?_
  refine SeqK.nil ?_
  refine AW.block ?_
  refine AW.loop (fun (i : Nat) s => (i ≤ c.ax.length) ∧ s = ⟨87, sp [(1, .lp 1 0), (2, .c (bC false)), (3, iX .i64 ((lenN c + axN (c.ax.take i) : Nat) : Int)), (4, iX .i64 ((i : Nat) : Int))], lv [(1, .box [.t (.sl .un 1 (c.nl.map i64T)), .t (.sl .un 1 (c.nn.map i64T)), .t (.sl .un 4 (c.ax.map axT)), .t (.sl .un 3 (c.is.map ctT)), .t (.sl .un 4 (c.ts.map tsT)), .t (.sl .un 2 (c.sm.map prT)), .t (.sl .un 2 (c.df.map prT))])], H⟩) (fun i => c.ax.length - i) 0 ⟨_, Wk.keep 87 [(1, .lp 1 0), (2, .c (bC false)), (3, iX .i64 ((lenN c + axN (c.ax.take ((0 : Nat))) : Nat) : Int)), (4, iX .i64 ((((0 : Nat)) : Nat) : Int))] [(1, .box [.t (.sl .un 1 (c.nl.map i64T)), .t (.sl .un 1 (c.nn.map i64T)), .t (.sl .un 4 (c.ax.map axT)), .t (.sl .un 3 (c.is.map ctT)), .t (.sl .un 4 (c.ts.map tsT)), .t (.sl .un 2 (c.sm.map prT)), .t (.sl .un 2 (c.df.map prT))])] (H) rfl ⟨rfl, rfl, rfl, rfl, trivial⟩ ⟨rfl, trivial⟩ (fun _ _ h => h) rfl, Nat.zero_le _, rfl⟩ (fun i s hs => ?_)
  obtain ⟨hi0, rfl⟩ := hs
  refine AW.seq ?_
  refine sR ?_
  refine sM ?_
  refine SeqK.q (q_fieldL _ rfl Fx.fl28_2 rfl rfl) rfl rfl rfl ?_
  refine SeqK.r (b_load (r := .a _) rfl Fx.ty23 rfl rfl rfl rfl rfl rfl) rfl ?_
  refine SeqK.q (q_len rfl Fx.un23 rfl) rfl rfl rfl ?_
  refine SeqK.q (q_lss rfl rfl rfl) rfl rfl rfl ?_
  refine SeqK.nil ?_
  refine AW.condD rfl (fun h40 => ?_) (fun h40 => ?_)
  ·
   have hi : i < c.ax.length := by omega
   have hk := axN_take hi
   have h0 := hc.axf _ (List.getElem_mem hi)
   have h1 := sumL_le (f := fun a : Ax => a.f.cs.length) hc.axf i (by omega)
   have h1 : axN (c.ax.take i) ≤ i * 17592186044000 := h1
   have m8 := mlen cfT c.ax[i].f.cs
   refine AW.skip ?_
   refine AW.seq ?_
   refine AW.block ?_
   refine AW.reg ?_
   refine sM ?_
   refine SeqK.q (q_fieldL _ rfl Fx.fl28_2 rfl rfl) rfl rfl rfl ?_
   refine SeqK.r (b_load (r := .a _) rfl Fx.ty23 rfl rfl rfl rfl rfl rfl) rfl ?_
   refine sM ?_
   refine SeqK.q (q_index _ rfl Fx.sl23 rfl rfl (by omega) (idx_map (f := axT) hi)) rfl rfl rfl ?_
   refine SeqK.q (q_fieldP _ rfl Fx.fl82_0 rfl rfl) rfl rfl rfl ?_
   refine SeqK.q (q_fieldP _ rfl Fx.fl74_1 rfl rfl) rfl rfl rfl ?_
   refine SeqK.q (q_load (.a _) rfl Fx.ty72 rfl rfl rfl) rfl rfl rfl ?_
   refine SeqK.q (q_len rfl Fx.un72 rfl) rfl rfl rfl ?_
   refine SeqK.q (q_add _ rfl rfl rfl ((by rw [w64 (by omega) (by omega)]; omega : IntKind.i64.wrap _ = ((lenN c + axN (c.ax.take (i + 1)) : Nat) : Int)))) rfl rfl rfl ?_
   refine sA ?_
   refine SeqK.nil ?_
   refine AW.reg ?_
   refine sM ?_
   refine SeqK.q (q_add _ rfl rfl rfl (w64 (by omega) (by omega))) rfl rfl rfl ?_
   refine sA ?_
   refine SeqK.nil ?_
   exact ⟨i + 1, _, Wk.keep 87 [(1, .lp 1 0), (2, .c (bC false)), (3, iX .i64 ((lenN c + axN (c.ax.take (i + 1)) : Nat) : Int)), (4, iX .i64 (((i + 1) : Nat) : Int))] [(1, .box [.t (.sl .un 1 (c.nl.map i64T)), .t (.sl .un 1 (c.nn.map i64T)), .t (.sl .un 4 (c.ax.map axT)), .t (.sl .un 3 (c.is.map ctT)), .t (.sl .un 4 (c.ts.map tsT)), .t (.sl .un 2 (c.sm.map prT)), .t (.sl .un 2 (c.df.map prT))])] (H) rfl ⟨rfl, rfl, rfl, rfl, trivial⟩ ⟨rfl, trivial⟩ (fun _ _ h => h) rfl, by omega, hi, rfl⟩
  ·
   refine AW.exit ?_
   refine eth_e ?_
   refine eth_e ?_
   refine exit_here ?_
   refine AW.seq ?_
   refine AW.seq ?_
   have e1 : c.ax.take i = c.ax := List.take_of_length_le (by omega)
   rw [e1]
   have h2 : axN c.ax ≤ 80 * 17592186044000 := by
    have h1 := sumL_le (f := fun a : Ax => a.f.cs.length) hc.axf i (by omega)
    rw [e1] at h1
    have h3 : i * 17592186044000 ≤ 80 * 17592186044000 := Nat.mul_le_mul_right _ (by omega)
    exact Nat.le_trans h1 h3
   refine AW.reg ?_
   refine sA ?_
   refine SeqK.nil ?_
   refine AW.block ?_
   refine AW.loop (fun (i : Nat) s => (i ≤ c.is.length) ∧ s = ⟨87, sp [(1, .lp 1 0), (2, .c (bC false)), (3, iX .i64 ((lenN c + axN c.ax + isN (c.is.take i) : Nat) : Int)), (5, iX .i64 ((i : Nat) : Int))], lv [(1, .box [.t (.sl .un 1 (c.nl.map i64T)), .t (.sl .un 1 (c.nn.map i64T)), .t (.sl .un 4 (c.ax.map axT)), .t (.sl .un 3 (c.is.map ctT)), .t (.sl .un 4 (c.ts.map tsT)), .t (.sl .un 2 (c.sm.map prT)), .t (.sl .un 2 (c.df.map prT))])], H⟩) (fun i => c.is.length - i) 0 ⟨_, Wk.keep 87 [(1, .lp 1 0), (2, .c (bC false)), (3, iX .i64 ((lenN c + axN c.ax + isN (c.is.take ((0 : Nat))) : Nat) : Int)), (5, iX .i64 ((((0 : Nat)) : Nat) : Int))] [(1, .box [.t (.sl .un 1 (c.nl.map i64T)), .t (.sl .un 1 (c.nn.map i64T)), .t (.sl .un 4 (c.ax.map axT)), .t (.sl .un 3 (c.is.map ctT)), .t (.sl .un 4 (c.ts.map tsT)), .t (.sl .un 2 (c.sm.map prT)), .t (.sl .un 2 (c.df.map prT))])] (H) rfl ⟨rfl, rfl, rfl, rfl, trivial⟩ ⟨rfl, trivial⟩ (fun _ _ h => h) rfl, Nat.zero_le _, rfl⟩ (fun i s hs => ?_)
   obtain ⟨hi0, rfl⟩ := hs
   refine AW.seq ?_
   refine sR ?_
   refine sM ?_
   refine SeqK.q (q_fieldL _ rfl Fx.fl28_3 rfl rfl) rfl rfl rfl ?_
   refine SeqK.r (b_load (r := .a _) rfl Fx.ty24 rfl rfl rfl rfl rfl rfl) rfl ?_
   refine SeqK.q (q_len rfl Fx.un24 rfl) rfl rfl rfl ?_
   refine SeqK.q (q_lss rfl rfl rfl) rfl rfl rfl ?_
   refine SeqK.nil ?_
   refine AW.condD rfl (fun h57 => ?_) (fun h57 => ?_)
   ·
    have hi : i < c.is.length := by omega
    have hk := isN_take hi
    have h0 := hc.isf _ (List.getElem_mem hi)
    have h1 := sumL_le (f := fun a : Ct => a.f.cs.length) hc.isf i (by omega)
    have h1 : isN (c.is.take i) ≤ i * 17592186044000 := h1
    have m8 := mlen cfT c.is[i].f.cs
    refine AW.skip ?_
    refine AW.seq ?_
    refine AW.block ?_
    refine AW.reg ?_
    refine sM ?_
    refine SeqK.q (q_fieldL _ rfl Fx.fl28_3 rfl rfl) rfl rfl rfl ?_
    refine SeqK.r (b_load (r := .a _) rfl Fx.ty24 rfl rfl rfl rfl rfl rfl) rfl ?_
    refine sM ?_
    refine SeqK.q (q_index _ rfl Fx.sl24 rfl rfl (by omega) (idx_map (f := ctT) hi)) rfl rfl rfl ?_
    refine SeqK.q (q_fieldP _ rfl Fx.fl76_0 rfl rfl) rfl rfl rfl ?_
    refine SeqK.q (q_fieldP _ rfl Fx.fl74_1 rfl rfl) rfl rfl rfl ?_
    refine SeqK.q (q_load (.a _) rfl Fx.ty72 rfl rfl rfl) rfl rfl rfl ?_
    refine SeqK.q (q_len rfl Fx.un72 rfl) rfl rfl rfl ?_
    refine SeqK.q (q_add _ rfl rfl rfl ((by rw [w64 (by omega) (by omega)]; omega : IntKind.i64.wrap _ = ((lenN c + axN c.ax + isN (c.is.take (i + 1)) : Nat) : Int)))) rfl rfl rfl ?_
    refine sA ?_
    refine SeqK.nil ?_
    refine AW.reg ?_
    refine sM ?_
    refine SeqK.q (q_add _ rfl rfl rfl (w64 (by omega) (by omega))) rfl rfl rfl ?_
    refine sA ?_
    refine SeqK.nil ?_
    exact ⟨i + 1, _, Wk.keep 87 [(1, .lp 1 0), (2, .c (bC false)), (3, iX .i64 ((lenN c + axN c.ax + isN (c.is.take (i + 1)) : Nat) : Int)), (5, iX .i64 (((i + 1) : Nat) : Int))] [(1, .box [.t (.sl .un 1 (c.nl.map i64T)), .t (.sl .un 1 (c.nn.map i64T)), .t (.sl .un 4 (c.ax.map axT)), .t (.sl .un 3 (c.is.map ctT)), .t (.sl .un 4 (c.ts.map tsT)), .t (.sl .un 2 (c.sm.map prT)), .t (.sl .un 2 (c.df.map prT))])] (H) rfl ⟨rfl, rfl, rfl, rfl, trivial⟩ ⟨rfl, trivial⟩ (fun _ _ h => h) rfl, by omega, hi, rfl⟩
   ·
    refine AW.exit ?_
    refine eth_e ?_
    refine eth_e ?_
    refine exit_here ?_
    refine AW.seq ?_
    refine AW.seq ?_
    have e1 : c.is.take i = c.is := List.take_of_length_le (by omega)
    rw [e1]
    refine AW.reg ?_
    refine sA ?_
    refine SeqK.nil ?_
    refine AW.block ?_
    refine AW.loop (fun (i : Nat) s => (i ≤ c.ts.length ∧ ∀ j (h : j < c.ts.length), j < i → c.ts[j].s.size ≤ 40) ∧ s = ⟨87, sp [(1, .lp 1 0), (2, .c (bC false)), (3, iX .i64 ((lenN c + axN c.ax + isN c.is : Nat) : Int)), (6, iX .i64 ((i : Nat) : Int))], lv [(1, .box [.t (.sl .un 1 (c.nl.map i64T)), .t (.sl .un 1 (c.nn.map i64T)), .t (.sl .un 4 (c.ax.map axT)), .t (.sl .un 3 (c.is.map ctT)), .t (.sl .un 4 (c.ts.map tsT)), .t (.sl .un 2 (c.sm.map prT)), .t (.sl .un 2 (c.df.map prT))])], H⟩) (fun i => c.ts.length - i) 0 ⟨_, Wk.keep 87 [(1, .lp 1 0), (2, .c (bC false)), (3, iX .i64 ((lenN c + axN c.ax + isN c.is : Nat) : Int)), (6, iX .i64 ((((0 : Nat)) : Nat) : Int))] [(1, .box [.t (.sl .un 1 (c.nl.map i64T)), .t (.sl .un 1 (c.nn.map i64T)), .t (.sl .un 4 (c.ax.map axT)), .t (.sl .un 3 (c.is.map ctT)), .t (.sl .un 4 (c.ts.map tsT)), .t (.sl .un 2 (c.sm.map prT)), .t (.sl .un 2 (c.df.map prT))])] (H) rfl ⟨rfl, rfl, rfl, rfl, trivial⟩ ⟨rfl, trivial⟩ (fun _ _ h => h) rfl, ⟨Nat.zero_le _, up0⟩, rfl⟩ (fun i s hs => ?_)
    obtain ⟨⟨hi0, hU⟩, rfl⟩ := hs
    refine AW.seq ?_
    refine sR ?_
    refine sM ?_
    refine SeqK.q (q_fieldL _ rfl Fx.fl28_4 rfl rfl) rfl rfl rfl ?_
    refine SeqK.r (b_load (r := .a _) rfl Fx.ty25 rfl rfl rfl rfl rfl rfl) rfl ?_
    refine SeqK.q (q_len rfl Fx.un25 rfl) rfl rfl rfl ?_
    refine SeqK.q (q_lss rfl rfl rfl) rfl rfl rfl ?_
    refine SeqK.nil ?_
    refine AW.condD rfl (fun h74 => ?_) (fun h74 => ?_)
    ·
     have hi : i < c.ts.length := by omega
     refine AW.skip ?_
     refine AW.seq ?_
     refine AW.block ?_
     refine sR ?_
     refine SeqK.q (q_fieldL _ rfl Fx.fl28_4 rfl rfl) rfl rfl rfl ?_
     refine SeqK.r (b_load (r := .a _) rfl Fx.ty25 rfl rfl rfl rfl rfl rfl) rfl ?_
     refine sM ?_
     refine SeqK.q (q_index _ rfl Fx.sl25 rfl rfl (by omega) (idx_map (f := tsT) hi)) rfl rfl rfl ?_
     refine SeqK.q (q_fieldP _ rfl Fx.fl61_3 rfl rfl) rfl rfl rfl ?_
     refine SeqK.q (q_load (.a _) rfl Fx.ty9 rfl rfl rfl) rfl rfl rfl ?_
     refine SeqK.q (q_lenS rfl Fx.un9 rfl) rfl rfl rfl ?_
     refine SeqK.q (q_gtr rfl rfl rfl) rfl rfl rfl ?_
     refine SeqK.nil ?_
     refine AW.condD rfl (fun h84 => ?_) (fun h84 => ?_)
     ·
      refine sR ?_
      refine sA ?_
      refine SeqK.nil ?_
      refine AW.ret ?_
      exact fin_x (x := .c _) (H) (.tmp rfl .nil) rfl (fun _ _ h => h) (⟨bCe (dF (fun h => upN (Q := fun j h => c.ts[j].s.size ≤ 40) hi (by omega) h.2.1)), rfl⟩)
     ·
      refine AW.skip ?_
      refine AW.reg ?_
      refine sM ?_
      refine SeqK.q (q_add _ rfl rfl rfl (w64 (by omega) (by omega))) rfl rfl rfl ?_
      refine sA ?_
      refine SeqK.nil ?_
      exact ⟨i + 1, _, Wk.keep 87 [(1, .lp 1 0), (2, .c (bC false)), (3, iX .i64 ((lenN c + axN c.ax + isN c.is : Nat) : Int)), (6, iX .i64 (((i + 1) : Nat) : Int))] [(1, .box [.t (.sl .un 1 (c.nl.map i64T)), .t (.sl .un 1 (c.nn.map i64T)), .t (.sl .un 4 (c.ax.map axT)), .t (.sl .un 3 (c.is.map ctT)), .t (.sl .un 4 (c.ts.map tsT)), .t (.sl .un 2 (c.sm.map prT)), .t (.sl .un 2 (c.df.map prT))])] (H) rfl ⟨rfl, rfl, rfl, rfl, trivial⟩ ⟨rfl, trivial⟩ (fun _ _ h => h) rfl, by omega, ⟨hi, upS hi hU (by omega)⟩, rfl⟩
    ·
     refine AW.exit ?_
     refine eth_e ?_
     refine eth_e ?_
     refine exit_here ?_
     refine sR ?_
     refine sM ?_
     refine SeqK.q (q_leq rfl rfl rfl) rfl rfl rfl ?_
     refine sA ?_
     refine SeqK.nil ?_
     refine AW.ret ?_
     exact fin_x (x := .c _) (H) (.tmp rfl .nil) rfl (fun _ _ h => h) (⟨bCe (dI ⟨fun h => ⟨by omega, upE hU (by omega), by omega⟩, fun h => by have := h.2.2; omega⟩), rfl⟩)

abbrev vvP (v : RV) : Prop := (v.k = 0 ∧ v.n = 0 ∧ v.s = ⟨#[]⟩) ∨ (v.k = 1 ∧ v.s = ⟨#[]⟩) ∨ (v.k = 2 ∧ v.n = 0 ∧ prnP v.s ∧ v.s.size ≤ 16)
abbrev fitP (v : RV) (x : Vr) : Prop := vvP v ∧ ((v.k = 0 ∧ x.nu = true) ∨ (v.k = 1 ∧ x.ty = 1 ∧ x.lo ≤ v.n ∧ v.n ≤ x.hi) ∨ (v.k = 2 ∧ x.ty = 2 ∧ (v.s.size : Int) ≤ x.mx))
abbrev insP (r : List RV) (l : List Vr) : Prop := r.length = l.length ∧ ∀ j (h : j < r.length), fitP r[j] (l.getD j v0)

set_option maxRecDepth 20000 in
theorem prn_any (u : ByteArray) (hs : u.size ≤ 1000000000000000) : Pure Try.prog 96 [sC u] (.c (bC (decide (prnP u)))) := by
 intro H
 refine Spec.enter Try.func96 rfl ?_
 refine AW.wk (Wk.keep 20 [(0, .c (sC u))] [] (H) rfl ⟨rfl, trivial⟩ trivial (fun _ _ h => h) rfl) ?_
 refine sR ?_
 refine sA ?_
 refine SeqK.nil ?_
 refine AW.seq ?_
 refine AW.seq ?_
 have hl := ba_len u
 refine AW.reg ?_
 refine sA ?_
 refine SeqK.nil ?_
 refine AW.block ?_
 refine AW.loop (fun (i : Nat) s => (i ≤ u.size ∧ ∀ j (h : j < u.data.toList.length), j < i → 32 ≤ u.data.toList[j].toNat ∧ u.data.toList[j].toNat ≤ 126) ∧ s = ⟨20, sp [(0, .c (sC u)), (2, .c (bC false)), (3, iX .i64 ((i : Nat) : Int))], lv [], H⟩) (fun i => u.size - i) 0 ⟨_, Wk.keep 20 [(0, .c (sC u)), (2, .c (bC false)), (3, iX .i64 ((((0 : Nat)) : Nat) : Int))] [] (H) rfl ⟨rfl, rfl, rfl, trivial⟩ trivial (fun _ _ h => h) rfl, ⟨Nat.zero_le _, up0⟩, rfl⟩ (fun i s hs => ?_)
 obtain ⟨⟨hi0, hU⟩, rfl⟩ := hs
 refine AW.seq ?_
 refine sR ?_
 refine sM ?_
 refine sM ?_
 refine SeqK.q (q_lenS rfl Fx.un9 rfl) rfl rfl rfl ?_
 refine SeqK.q (q_lss rfl rfl rfl) rfl rfl rfl ?_
 refine SeqK.nil ?_
 refine AW.condD rfl (fun h7 => ?_) (fun h7 => ?_)
 ·
  have hi : i < u.data.toList.length := by omega
  refine AW.skip ?_
  refine AW.seq ?_
  refine AW.block ?_
  refine sR ?_
  refine sM ?_
  refine sM ?_
  refine SeqK.q (q_indexS _ rfl Fx.un9 rfl rfl (by omega) (idx_ba hi)) rfl rfl rfl ?_
  refine SeqK.q (q_lss rfl rfl rfl) rfl rfl rfl ?_
  refine SeqK.qD (q_mvC rfl rfl) rfl rfl rfl (fun g14 => ?_) (fun g14 => ?_)
  ·
   refine SeqK.off rfl rfl rfl rfl rfl rfl ?_
   refine SeqK.off rfl rfl rfl rfl rfl rfl ?_
   refine SeqK.off rfl rfl rfl rfl rfl rfl ?_
   refine SeqK.off rfl rfl rfl rfl rfl rfl ?_
   refine SeqK.q (q_pkT rfl rfl rfl) rfl rfl rfl ?_
   refine SeqK.nil ?_
   refine AW.condT rfl ?_
   refine sR ?_
   refine sA ?_
   refine SeqK.nil ?_
   refine AW.ret ?_
   exact fin_x (x := .c _) (H) (.tmp rfl .nil) rfl (fun _ _ h => h) (⟨bCe (dF (upN (Q := fun j h => 32 ≤ u.data.toList[j].toNat ∧ u.data.toList[j].toNat ≤ 126) hi (by omega))), rfl⟩)
  ·
   refine SeqK.on (q_mvC rfl rfl) rfl rfl rfl rfl rfl ?_
   refine SeqK.on (q_mvC rfl rfl) rfl rfl rfl rfl rfl ?_
   refine SeqK.on (q_indexS _ rfl Fx.un9 rfl rfl (by omega) (idx_ba hi)) rfl rfl rfl rfl rfl ?_
   refine SeqK.on (q_gtr rfl rfl rfl) rfl rfl rfl rfl rfl ?_
   refine SeqK.q (q_pkF rfl rfl rfl) rfl rfl rfl ?_
   refine SeqK.nil ?_
   refine AW.condD rfl (fun h19 => ?_) (fun h19 => ?_)
   ·
    refine sR ?_
    refine sA ?_
    refine SeqK.nil ?_
    refine AW.ret ?_
    exact fin_x (x := .c _) (H) (.tmp rfl .nil) rfl (fun _ _ h => h) (⟨bCe (dF (upN (Q := fun j h => 32 ≤ u.data.toList[j].toNat ∧ u.data.toList[j].toNat ≤ 126) hi (by omega))), rfl⟩)
   ·
    refine AW.skip ?_
    refine AW.reg ?_
    refine sM ?_
    refine SeqK.q (q_add _ rfl rfl rfl (w64 (by omega) (by omega))) rfl rfl rfl ?_
    refine sA ?_
    refine SeqK.nil ?_
    exact ⟨i + 1, _, Wk.keep 20 [(0, .c (sC u)), (2, .c (bC false)), (3, iX .i64 (((i + 1) : Nat) : Int))] [] (H) rfl ⟨rfl, rfl, rfl, trivial⟩ trivial (fun _ _ h => h) rfl, by omega, ⟨by omega, upS hi hU (by omega)⟩, rfl⟩
 ·
  refine AW.exit ?_
  refine eth_e ?_
  refine eth_e ?_
  refine exit_here ?_
  refine sR ?_
  refine sA ?_
  refine SeqK.nil ?_
  refine AW.ret ?_
  exact fin_x (x := .c _) (H) (.tmp rfl .nil) rfl (fun _ _ h => h) (⟨bCe (dT (upE hU (by omega))), rfl⟩)

set_option maxRecDepth 20000 in
theorem vvalid_any (v : RV) (hs : v.s.size ≤ 1000000000000000) : Pure Try.prog 87 [rvC v] (.c (bC (decide (vvP v)))) := by
 intro H
 refine Spec.enter Try.func87 rfl ?_
 refine AW.wk (Wk.keep 36 [(0, .c (rvC v))] [] (H) rfl ⟨rfl, trivial⟩ trivial (fun _ _ h => h) rfl) ?_
 refine sR ?_
 refine SeqK.r (b_box (r := [_, _, _]) rfl rfl rfl rfl rfl rfl) rfl ?_
 refine sA ?_
 refine SeqK.nil ?_
 refine AW.seq ?_
 refine sR ?_
 refine SeqK.q (q_fieldL _ rfl Fx.fl42_0 rfl rfl) rfl rfl rfl ?_
 refine SeqK.r (b_load (r := .a _) rfl Fx.ty3 rfl rfl rfl rfl rfl rfl) rfl ?_
 refine SeqK.nil ?_
 refine AW.block ?_
 refine sR ?_
 refine SeqK.q (q_eql rfl rfl rfl) rfl rfl rfl ?_
 refine sA ?_
 refine SeqK.nil ?_
 refine AW.condD rfl (fun h5 => ?_) (fun h5 => ?_)
 ·
  refine sR ?_
  refine SeqK.q (q_fieldL _ rfl Fx.fl42_1 rfl rfl) rfl rfl rfl ?_
  refine SeqK.r (b_load (r := .a _) rfl Fx.ty2 rfl rfl rfl rfl rfl rfl) rfl ?_
  refine SeqK.q (q_eql rfl rfl rfl) rfl rfl rfl ?_
  refine SeqK.qD (q_mvC rfl rfl) rfl rfl rfl (fun g10 => ?_) (fun g10 => ?_)
  ·
   refine SeqK.on (q_fieldL _ rfl Fx.fl42_2 rfl rfl) rfl rfl rfl rfl rfl ?_
   refine SeqK.rOn (b_load (r := .a _) rfl Fx.ty9 rfl rfl rfl rfl rfl rfl) rfl rfl rfl ?_
   refine SeqK.on (q_eqlS rfl rfl rfl) rfl rfl rfl rfl rfl ?_
   refine SeqK.q (q_pkT rfl rfl rfl) rfl rfl rfl ?_
   refine sA ?_
   refine SeqK.nil ?_
   refine AW.ret ?_
   exact fin_x (x := .c _) (H) (.tmp rfl .nil) rfl (fun _ _ h => h) (⟨bCe (by first | exact dF (by rintro (⟨a, b, c⟩ | ⟨a, b⟩ | ⟨a, b, c, d⟩) <;> first | omega | assumption | exact absurd c (of_decide_eq_false g30)) | exact dI ⟨fun h => .inl ⟨h5, g10, h⟩, by rintro (⟨a, b, c⟩ | ⟨a, b⟩ | ⟨a, b, c, d⟩) <;> first | omega | assumption | exact absurd c (of_decide_eq_false g30)⟩), rfl⟩)
  ·
   refine SeqK.off rfl rfl rfl rfl rfl rfl ?_
   refine SeqK.off rfl rfl rfl rfl rfl rfl ?_
   refine SeqK.off rfl rfl rfl rfl rfl rfl ?_
   refine SeqK.q (q_pkF rfl rfl rfl) rfl rfl rfl ?_
   refine sA ?_
   refine SeqK.nil ?_
   refine AW.ret ?_
   exact fin_x (x := .c _) (H) (.tmp rfl .nil) rfl (fun _ _ h => h) (⟨bCe (by first | exact dF (by rintro (⟨a, b, c⟩ | ⟨a, b⟩ | ⟨a, b, c, d⟩) <;> first | omega | assumption | exact absurd c (of_decide_eq_false g30)) | exact dI ⟨fun h => .inl ⟨h5, g10, h⟩, by rintro (⟨a, b, c⟩ | ⟨a, b⟩ | ⟨a, b, c, d⟩) <;> first | omega | assumption | exact absurd c (of_decide_eq_false g30)⟩), rfl⟩)
 ·
  refine sR ?_
  refine SeqK.q (q_eql rfl rfl rfl) rfl rfl rfl ?_
  refine sA ?_
  refine SeqK.nil ?_
  refine AW.condD rfl (fun h15 => ?_) (fun h15 => ?_)
  ·
   refine sR ?_
   refine SeqK.q (q_fieldL _ rfl Fx.fl42_2 rfl rfl) rfl rfl rfl ?_
   refine SeqK.r (b_load (r := .a _) rfl Fx.ty9 rfl rfl rfl rfl rfl rfl) rfl ?_
   refine SeqK.q (q_eqlS rfl rfl rfl) rfl rfl rfl ?_
   refine sA ?_
   refine SeqK.nil ?_
   refine AW.ret ?_
   exact fin_x (x := .c _) (H) (.tmp rfl .nil) rfl (fun _ _ h => h) (⟨bCe (by first | exact dI ⟨fun h => .inr (.inl ⟨h15, h⟩), by rintro (⟨a, b, c⟩ | ⟨a, b⟩ | ⟨a, b, c, d⟩) <;> first | omega | assumption | exact absurd c (of_decide_eq_false g30)⟩ | exact dI ⟨fun h => .inr (.inl ⟨by assumption, h⟩), by rintro (⟨a, b, c⟩ | ⟨a, b⟩ | ⟨a, b, c, d⟩) <;> first | omega | assumption | exact absurd c (of_decide_eq_false g30)⟩), rfl⟩)
  ·
   refine sR ?_
   refine SeqK.q (q_eql rfl rfl rfl) rfl rfl rfl ?_
   refine sA ?_
   refine SeqK.nil ?_
   refine AW.condD rfl (fun h20 => ?_) (fun h20 => ?_)
   ·
    refine sR ?_
    refine SeqK.q (q_fieldL _ rfl Fx.fl42_1 rfl rfl) rfl rfl rfl ?_
    refine SeqK.r (b_load (r := .a _) rfl Fx.ty2 rfl rfl rfl rfl rfl rfl) rfl ?_
    refine SeqK.q (q_eql rfl rfl rfl) rfl rfl rfl ?_
    refine SeqK.qD (q_mvC rfl rfl) rfl rfl rfl (fun g25 => ?_) (fun g25 => ?_)
    ·
     refine SeqK.on (q_fieldL _ rfl Fx.fl42_2 rfl rfl) rfl rfl rfl rfl rfl ?_
     refine SeqK.rOn (b_load (r := .a _) rfl Fx.ty9 rfl rfl rfl rfl rfl rfl) rfl rfl rfl ?_
     refine SeqK.on (q_call _ rfl Fx.fn96 rfl (prn_any _ hs) rfl) rfl rfl rfl rfl rfl ?_
     refine SeqK.q (q_pkT rfl rfl rfl) rfl rfl rfl ?_
     refine SeqK.qB (q_mvC rfl rfl) rfl rfl rfl (fun g30 => ?_) (fun g30 => ?_)
     ·
      refine SeqK.on (q_fieldL _ rfl Fx.fl42_2 rfl rfl) rfl rfl rfl rfl rfl ?_
      refine SeqK.rOn (b_load (r := .a _) rfl Fx.ty9 rfl rfl rfl rfl rfl rfl) rfl rfl rfl ?_
      refine SeqK.on (q_lenS rfl Fx.un9 rfl) rfl rfl rfl rfl rfl ?_
      refine SeqK.on (q_leq rfl rfl rfl) rfl rfl rfl rfl rfl ?_
      refine SeqK.q (q_pkT rfl rfl rfl) rfl rfl rfl ?_
      refine sA ?_
      refine SeqK.nil ?_
      refine AW.ret ?_
      exact fin_x (x := .c _) (H) (.tmp rfl .nil) rfl (fun _ _ h => h) (⟨bCe (by first | exact dF (by rintro (⟨a, b, c⟩ | ⟨a, b⟩ | ⟨a, b, c, d⟩) <;> first | omega | assumption | exact absurd c (of_decide_eq_false g30)) | exact dI ⟨fun h => .inr (.inr ⟨by assumption, by assumption, of_decide_eq_true g30, by omega⟩), by rintro (⟨a, b, c⟩ | ⟨a, b⟩ | ⟨a, b, c, d⟩) <;> first | omega | assumption | exact absurd c (of_decide_eq_false g30)⟩), rfl⟩)
     ·
      refine SeqK.off rfl rfl rfl rfl rfl rfl ?_
      refine SeqK.off rfl rfl rfl rfl rfl rfl ?_
      refine SeqK.off rfl rfl rfl rfl rfl rfl ?_
      refine SeqK.off rfl rfl rfl rfl rfl rfl ?_
      refine SeqK.q (q_pkF rfl rfl rfl) rfl rfl rfl ?_
      refine sA ?_
      refine SeqK.nil ?_
      refine AW.ret ?_
      exact fin_x (x := .c _) (H) (.tmp rfl .nil) rfl (fun _ _ h => h) (⟨bCe (by first | exact dF (by rintro (⟨a, b, c⟩ | ⟨a, b⟩ | ⟨a, b, c, d⟩) <;> first | omega | assumption | exact absurd c (of_decide_eq_false g30)) | exact dI ⟨fun h => .inr (.inr ⟨by assumption, by assumption, of_decide_eq_true g30, by omega⟩), by rintro (⟨a, b, c⟩ | ⟨a, b⟩ | ⟨a, b, c, d⟩) <;> first | omega | assumption | exact absurd c (of_decide_eq_false g30)⟩), rfl⟩)
    ·
     refine SeqK.off rfl rfl rfl rfl rfl rfl ?_
     refine SeqK.off rfl rfl rfl rfl rfl rfl ?_
     refine SeqK.off rfl rfl rfl rfl rfl rfl ?_
     refine SeqK.q (q_pkF rfl rfl rfl) rfl rfl rfl ?_
     refine sM ?_
     refine SeqK.off rfl rfl rfl rfl rfl rfl ?_
     refine SeqK.off rfl rfl rfl rfl rfl rfl ?_
     refine SeqK.off rfl rfl rfl rfl rfl rfl ?_
     refine SeqK.off rfl rfl rfl rfl rfl rfl ?_
     refine SeqK.q (q_pkF rfl rfl rfl) rfl rfl rfl ?_
     refine sA ?_
     refine SeqK.nil ?_
     refine AW.ret ?_
     exact fin_x (x := .c _) (H) (.tmp rfl .nil) rfl (fun _ _ h => h) (⟨bCe (by first | exact dF (by rintro (⟨a, b, c⟩ | ⟨a, b⟩ | ⟨a, b, c, d⟩) <;> first | omega | assumption | exact absurd c (of_decide_eq_false g30)) | exact dI ⟨fun h => .inr (.inr ⟨by assumption, by assumption, of_decide_eq_true g30, by omega⟩), by rintro (⟨a, b, c⟩ | ⟨a, b⟩ | ⟨a, b, c, d⟩) <;> first | omega | assumption | exact absurd c (of_decide_eq_false g30)⟩), rfl⟩)
   ·
    refine AW.skip ?_
    refine sR ?_
    refine sA ?_
    refine SeqK.nil ?_
    refine AW.ret ?_
    exact fin_x (x := .c _) (H) (.tmp rfl .nil) rfl (fun _ _ h => h) (⟨bCe (by first | exact dF (by rintro (⟨a, b, c⟩ | ⟨a, b⟩ | ⟨a, b, c, d⟩) <;> first | omega | assumption | exact absurd c (of_decide_eq_false g30))), rfl⟩)

set_option maxRecDepth 20000 in
theorem fits_any4 (v : RV) (x : Vr) (hs : v.s.size ≤ 1000000000000000) : Pure Try.prog 65 [rvC v, vrC5 x] (.c (bC (decide (fitP v x)))) := by
 intro H
 refine Spec.enter Try.func65 rfl ?_
 refine AW.wk (Wk.keep 44 [(0, .c (rvC v)), (1, .c (vrC5 x))] [] (H) rfl ⟨rfl, rfl, trivial⟩ trivial (fun _ _ h => h) rfl) ?_
 refine sR ?_
 refine SeqK.r (b_box (r := [_, _, _]) rfl rfl rfl rfl rfl rfl) rfl ?_
 refine SeqK.r (b_box (r := [_, _, _, _, _]) rfl rfl rfl rfl rfl rfl) rfl ?_
 refine sA ?_
 refine SeqK.nil ?_
 refine AW.seq ?_
 refine sR ?_
 refine SeqK.r (b_load (r := .g [_, _, _]) rfl Fx.ty42 rfl rfl rfl rfl rfl rfl) rfl ?_
 refine SeqK.q (q_call _ rfl Fx.fn87 rfl (vvalid_any _ hs) rfl) rfl rfl rfl ?_
 refine SeqK.q (q_not rfl rfl) rfl rfl rfl ?_
 refine SeqK.nil ?_
 refine AW.cond _ rfl (fun h7 => ?_) (fun h7 => ?_)
 ·
  refine sR ?_
  refine sA ?_
  refine SeqK.nil ?_
  refine AW.ret ?_
  exact fin_x (x := .c _) (H) (.tmp rfl .nil) rfl (fun _ _ h => h) (⟨bCe (dF fun h => nd_t h7 h.1), rfl⟩)
 ·
  refine AW.skip ?_
  refine AW.seq ?_
  refine AW.seq ?_
  have hv : vvP v := nd_f h7
  refine AW.reg ?_
  refine SeqK.q (q_fieldL _ rfl Fx.fl42_0 rfl rfl) rfl rfl rfl ?_
  refine SeqK.r (b_load (r := .a _) rfl Fx.ty3 rfl rfl rfl rfl rfl rfl) rfl ?_
  refine SeqK.nil ?_
  refine AW.block ?_
  refine sR ?_
  refine SeqK.q (q_eql rfl rfl rfl) rfl rfl rfl ?_
  refine sA ?_
  refine SeqK.nil ?_
  refine AW.condD rfl (fun h10 => ?_) (fun h10 => ?_)
  ·
   refine sR ?_
   refine SeqK.q (q_fieldL _ rfl Fx.fl53_4 rfl rfl) rfl rfl rfl ?_
   refine SeqK.r (b_load (r := .a _) rfl Fx.ty4 rfl rfl rfl rfl rfl rfl) rfl ?_
   refine sA ?_
   refine SeqK.nil ?_
   refine AW.ret ?_
   exact fin_x (x := .c _) (H) (.tmp rfl .nil) rfl (fun _ _ h => h) (⟨bCe (Bool.eq_iff_iff.2 ⟨fun h => decide_eq_true ⟨hv, .inl ⟨h10, h⟩⟩, fun h => by rcases of_decide_eq_true h with ⟨_, (⟨a, b⟩ | ⟨a, b, c, d⟩ | ⟨a, b, c⟩)⟩ <;> first | omega | exact b⟩), rfl⟩)
  ·
   refine sR ?_
   refine SeqK.q (q_eql rfl rfl rfl) rfl rfl rfl ?_
   refine sA ?_
   refine SeqK.nil ?_
   refine AW.condD rfl (fun h14 => ?_) (fun h14 => ?_)
   ·
    refine sR ?_
    refine SeqK.q (q_fieldL _ rfl Fx.fl53_0 rfl rfl) rfl rfl rfl ?_
    refine SeqK.r (b_load (r := .a _) rfl Fx.ty3 rfl rfl rfl rfl rfl rfl) rfl ?_
    refine SeqK.q (q_eql rfl rfl rfl) rfl rfl rfl ?_
    refine SeqK.qD (q_mvC rfl rfl) rfl rfl rfl (fun g19 => ?_) (fun g19 => ?_)
    ·
     refine SeqK.on (q_fieldL _ rfl Fx.fl42_1 rfl rfl) rfl rfl rfl rfl rfl ?_
     refine SeqK.rOn (b_load (r := .a _) rfl Fx.ty2 rfl rfl rfl rfl rfl rfl) rfl rfl rfl ?_
     refine SeqK.on (q_fieldL _ rfl Fx.fl53_1 rfl rfl) rfl rfl rfl rfl rfl ?_
     refine SeqK.rOn (b_load (r := .a _) rfl Fx.ty2 rfl rfl rfl rfl rfl rfl) rfl rfl rfl ?_
     refine SeqK.on (q_geq rfl rfl rfl) rfl rfl rfl rfl rfl ?_
     refine SeqK.q (q_pkT rfl rfl rfl) rfl rfl rfl ?_
     refine SeqK.qD (q_mvC rfl rfl) rfl rfl rfl (fun g26 => ?_) (fun g26 => ?_)
     ·
      refine SeqK.on (q_fieldL _ rfl Fx.fl42_1 rfl rfl) rfl rfl rfl rfl rfl ?_
      refine SeqK.rOn (b_load (r := .a _) rfl Fx.ty2 rfl rfl rfl rfl rfl rfl) rfl rfl rfl ?_
      refine SeqK.on (q_fieldL _ rfl Fx.fl53_2 rfl rfl) rfl rfl rfl rfl rfl ?_
      refine SeqK.rOn (b_load (r := .a _) rfl Fx.ty2 rfl rfl rfl rfl rfl rfl) rfl rfl rfl ?_
      refine SeqK.on (q_leq rfl rfl rfl) rfl rfl rfl rfl rfl ?_
      refine SeqK.q (q_pkT rfl rfl rfl) rfl rfl rfl ?_
      refine sA ?_
      refine SeqK.nil ?_
      refine AW.ret ?_
      exact fin_x (x := .c _) (H) (.tmp rfl .nil) rfl (fun _ _ h => h) (⟨bCe (by first | exact dF (by rintro ⟨_, (⟨a, b⟩ | ⟨a, b, c, d⟩ | ⟨a, b, c⟩)⟩ <;> omega) | exact dI ⟨fun h => ⟨hv, by omega⟩, by rintro ⟨_, (⟨a, b⟩ | ⟨a, b, c, d⟩ | ⟨a, b, c⟩)⟩ <;> omega⟩), rfl⟩)
     ·
      refine SeqK.off rfl rfl rfl rfl rfl rfl ?_
      refine SeqK.off rfl rfl rfl rfl rfl rfl ?_
      refine SeqK.off rfl rfl rfl rfl rfl rfl ?_
      refine SeqK.off rfl rfl rfl rfl rfl rfl ?_
      refine SeqK.off rfl rfl rfl rfl rfl rfl ?_
      refine SeqK.q (q_pkF rfl rfl rfl) rfl rfl rfl ?_
      refine sA ?_
      refine SeqK.nil ?_
      refine AW.ret ?_
      exact fin_x (x := .c _) (H) (.tmp rfl .nil) rfl (fun _ _ h => h) (⟨bCe (by first | exact dF (by rintro ⟨_, (⟨a, b⟩ | ⟨a, b, c, d⟩ | ⟨a, b, c⟩)⟩ <;> omega) | exact dI ⟨fun h => ⟨hv, by omega⟩, by rintro ⟨_, (⟨a, b⟩ | ⟨a, b, c, d⟩ | ⟨a, b, c⟩)⟩ <;> omega⟩), rfl⟩)
    ·
     refine SeqK.off rfl rfl rfl rfl rfl rfl ?_
     refine SeqK.off rfl rfl rfl rfl rfl rfl ?_
     refine SeqK.off rfl rfl rfl rfl rfl rfl ?_
     refine SeqK.off rfl rfl rfl rfl rfl rfl ?_
     refine SeqK.off rfl rfl rfl rfl rfl rfl ?_
     refine SeqK.q (q_pkF rfl rfl rfl) rfl rfl rfl ?_
     refine sM ?_
     refine SeqK.off rfl rfl rfl rfl rfl rfl ?_
     refine SeqK.off rfl rfl rfl rfl rfl rfl ?_
     refine SeqK.off rfl rfl rfl rfl rfl rfl ?_
     refine SeqK.off rfl rfl rfl rfl rfl rfl ?_
     refine SeqK.off rfl rfl rfl rfl rfl rfl ?_
     refine SeqK.q (q_pkF rfl rfl rfl) rfl rfl rfl ?_
     refine sA ?_
     refine SeqK.nil ?_
     refine AW.ret ?_
     exact fin_x (x := .c _) (H) (.tmp rfl .nil) rfl (fun _ _ h => h) (⟨bCe (by first | exact dF (by rintro ⟨_, (⟨a, b⟩ | ⟨a, b, c, d⟩ | ⟨a, b, c⟩)⟩ <;> omega) | exact dI ⟨fun h => ⟨hv, by omega⟩, by rintro ⟨_, (⟨a, b⟩ | ⟨a, b, c, d⟩ | ⟨a, b, c⟩)⟩ <;> omega⟩), rfl⟩)
   ·
    refine AW.skip ?_
    refine sR ?_
    refine SeqK.q (q_fieldL _ rfl Fx.fl53_0 rfl rfl) rfl rfl rfl ?_
    refine SeqK.r (b_load (r := .a _) rfl Fx.ty3 rfl rfl rfl rfl rfl rfl) rfl ?_
    refine SeqK.q (q_eql rfl rfl rfl) rfl rfl rfl ?_
    refine SeqK.qD (q_mvC rfl rfl) rfl rfl rfl (fun g36 => ?_) (fun g36 => ?_)
    ·
     refine SeqK.on (q_fieldL _ rfl Fx.fl42_2 rfl rfl) rfl rfl rfl rfl rfl ?_
     refine SeqK.rOn (b_load (r := .a _) rfl Fx.ty9 rfl rfl rfl rfl rfl rfl) rfl rfl rfl ?_
     refine SeqK.on (q_lenS rfl Fx.un9 rfl) rfl rfl rfl rfl rfl ?_
     refine SeqK.on (q_fieldL _ rfl Fx.fl53_3 rfl rfl) rfl rfl rfl rfl rfl ?_
     refine SeqK.rOn (b_load (r := .a _) rfl Fx.ty3 rfl rfl rfl rfl rfl rfl) rfl rfl rfl ?_
     refine SeqK.on (q_leq rfl rfl rfl) rfl rfl rfl rfl rfl ?_
     refine SeqK.q (q_pkT rfl rfl rfl) rfl rfl rfl ?_
     refine sA ?_
     refine SeqK.nil ?_
     refine AW.ret ?_
     exact fin_x (x := .c _) (H) (.tmp rfl .nil) rfl (fun _ _ h => h) (⟨bCe (by first | exact dF (by rintro ⟨_, (⟨a, b⟩ | ⟨a, b, c, d⟩ | ⟨a, b, c⟩)⟩ <;> omega) | (have hk : v.k = 2 := (by rcases hv with ⟨a, b, c⟩ | ⟨a, b⟩ | ⟨a, b, c, d⟩ <;> omega); exact dI ⟨fun h => ⟨hv, .inr (.inr ⟨hk, by omega, by omega⟩)⟩, by rintro ⟨_, (⟨a, b⟩ | ⟨a, b, c, d⟩ | ⟨a, b, c⟩)⟩ <;> omega⟩)), rfl⟩)
    ·
     refine SeqK.off rfl rfl rfl rfl rfl rfl ?_
     refine SeqK.off rfl rfl rfl rfl rfl rfl ?_
     refine SeqK.off rfl rfl rfl rfl rfl rfl ?_
     refine SeqK.off rfl rfl rfl rfl rfl rfl ?_
     refine SeqK.off rfl rfl rfl rfl rfl rfl ?_
     refine SeqK.off rfl rfl rfl rfl rfl rfl ?_
     refine SeqK.q (q_pkF rfl rfl rfl) rfl rfl rfl ?_
     refine sA ?_
     refine SeqK.nil ?_
     refine AW.ret ?_
     exact fin_x (x := .c _) (H) (.tmp rfl .nil) rfl (fun _ _ h => h) (⟨bCe (by first | exact dF (by rintro ⟨_, (⟨a, b⟩ | ⟨a, b, c, d⟩ | ⟨a, b, c⟩)⟩ <;> omega) | (have hk : v.k = 2 := (by rcases hv with ⟨a, b, c⟩ | ⟨a, b⟩ | ⟨a, b, c, d⟩ <;> omega); exact dI ⟨fun h => ⟨hv, .inr (.inr ⟨hk, by omega, by omega⟩)⟩, by rintro ⟨_, (⟨a, b⟩ | ⟨a, b, c, d⟩ | ⟨a, b, c⟩)⟩ <;> omega⟩)), rfl⟩)

set_option maxRecDepth 20000 in
theorem inside_any (r : List RV) (l : List Vr) (z z2 : Nz) (hr : r.length ≤ 17592186044000) (hl : l.length ≤ 17592186044000) (hs : ∀ v ∈ r, v.s.size ≤ 1000000000000000) : Pure Try.prog 25 [rowC z r, vsC z2 l] (.c (bC (decide (insP r l)))) := by
 intro H
 refine Spec.enter Try.func25 rfl ?_
 refine AW.wk (Wk.keep 27 [(0, .c (rowC z r)), (1, .c (vsC z2 l))] [] (H) rfl ⟨rfl, rfl, trivial⟩ trivial (fun _ _ h => h) rfl) ?_
 refine sR ?_
 refine sA ?_
 refine SeqK.nil ?_
 refine AW.seq ?_
 refine AW.seq ?_
 have m1 := mlen rvT r
 have m2 := mlen vrT l
 refine AW.reg ?_
 refine sM ?_
 refine SeqK.q (q_len rfl Fx.un31 rfl) rfl rfl rfl ?_
 refine sM ?_
 refine SeqK.q (q_len rfl Fx.un29 rfl) rfl rfl rfl ?_
 refine SeqK.q (q_neq rfl rfl rfl) rfl rfl rfl ?_
 refine SeqK.nil ?_
 refine AW.condD rfl (fun h10 => ?_) (fun h10 => ?_)
 ·
  refine sR ?_
  refine sA ?_
  refine SeqK.nil ?_
  refine AW.ret ?_
  exact fin_x (x := .c _) (H) (.tmp rfl .nil) rfl (fun _ _ h => h) (⟨bCe (dF (fun h => by have := h.1; omega)), rfl⟩)
 ·
  refine AW.skip ?_
  refine AW.seq ?_
  refine sR ?_
  refine sA ?_
  refine SeqK.nil ?_
  refine AW.block ?_
  refine AW.loop (fun (i : Nat) s => (i ≤ r.length ∧ ∀ j (h : j < r.length), j < i → fitP r[j] (l.getD j v0)) ∧ s = ⟨27, sp [(0, .c (rowC z r)), (1, .c (vsC z2 l)), (4, .c (bC false)), (5, iX .i64 ((i : Nat) : Int))], lv [], H⟩) (fun i => r.length - i) 0 ⟨_, Wk.keep 27 [(0, .c (rowC z r)), (1, .c (vsC z2 l)), (4, .c (bC false)), (5, iX .i64 ((((0 : Nat)) : Nat) : Int))] [] (H) rfl ⟨rfl, rfl, rfl, rfl, trivial⟩ trivial (fun _ _ h => h) rfl, ⟨Nat.zero_le _, up0⟩, rfl⟩ (fun i s hs => ?_)
  obtain ⟨⟨hi0, hU⟩, rfl⟩ := hs
  refine AW.seq ?_
  refine sR ?_
  refine sM ?_
  refine sM ?_
  refine SeqK.q (q_len rfl Fx.un31 rfl) rfl rfl rfl ?_
  refine SeqK.q (q_lss rfl rfl rfl) rfl rfl rfl ?_
  refine SeqK.nil ?_
  refine AW.condD rfl (fun h14 => ?_) (fun h14 => ?_)
  ·
   have hi : i < r.length := by omega
   have hi2 : i < l.length := by omega
   have hg : l.getD i v0 = l[i] := by rw [List.getD_eq_getElem?_getD, List.getElem?_eq_getElem hi2]; rfl
   refine AW.skip ?_
   refine AW.seq ?_
   refine AW.block ?_
   refine AW.seq ?_
   refine AW.draw Fx.mo ?_
   refine LexK.q (q_mvC rfl rfl) rfl rfl rfl ?_
   refine LexK.q (q_mvC rfl rfl) rfl rfl rfl ?_
   refine LexK.q (q_index _ rfl Fx.sl31 rfl rfl (by omega) (idx_map (f := rvT) hi)) rfl rfl rfl ?_
   refine LexK.q (q_load (.g [_, _, _]) rfl Fx.ty42 rfl rfl rfl) rfl rfl rfl ?_
   refine LexK.q (q_mvC rfl rfl) rfl rfl rfl ?_
   refine LexK.q (q_mvC rfl rfl) rfl rfl rfl ?_
   refine LexK.q (q_index _ rfl Fx.sl29 rfl rfl (by omega) (idx_map (f := vrT) hi2)) rfl rfl rfl ?_
   refine LexK.q (q_load (.g [_, _, _, _, _]) rfl Fx.ty53 rfl rfl rfl) rfl rfl rfl ?_
   refine LexK.q (q_call _ rfl Fx.fn65 rfl (fits_any4 _ _ (hs _ (List.getElem_mem hi))) rfl) rfl rfl rfl ?_
   refine LexK.q (q_not rfl rfl) rfl rfl rfl ?_
   refine LexK.nil (by kernel_rfl) ?_
   refine AW.cond _ rfl (fun h26 => ?_) (fun h26 => ?_)
   ·
    refine sR ?_
    refine sA ?_
    refine SeqK.nil ?_
    refine AW.ret ?_
    exact fin_x (x := .c _) (H) (.tmp rfl .nil) rfl (fun _ _ h => h) (⟨bCe (dF (fun h => nd_t h26 (by have := h.2 i hi; rwa [hg] at this))), rfl⟩)
   ·
    refine AW.skip ?_
    refine AW.reg ?_
    refine sM ?_
    refine SeqK.q (q_add _ rfl rfl rfl (w64 (by omega) (by omega))) rfl rfl rfl ?_
    refine sA ?_
    refine SeqK.nil ?_
    exact ⟨i + 1, _, Wk.keep 27 [(0, .c (rowC z r)), (1, .c (vsC z2 l)), (4, .c (bC false)), (5, iX .i64 (((i + 1) : Nat) : Int))] [] (H) rfl ⟨rfl, rfl, rfl, rfl, trivial⟩ trivial (fun _ _ h => h) rfl, by omega, ⟨hi, upS hi hU (by rw [hg]; exact nd_f h26)⟩, rfl⟩
  ·
   refine AW.exit ?_
   refine eth_e ?_
   refine eth_e ?_
   refine exit_here ?_
   refine sR ?_
   refine sA ?_
   refine SeqK.nil ?_
   refine AW.ret ?_
   exact fin_x (x := .c _) (H) (.tmp rfl .nil) rfl (fun _ _ h => h) (⟨bCe (dT ⟨by omega, upE hU (by omega)⟩), rfl⟩)

abbrev okP (c : Cl) (l : List Vr) (r : List RV) : Prop := domB l = true ∧ fewP c ∧ vldP c l ∧ insP r l
abbrev fitsB (c : Cl) (l : List Vr) (r : List RV) : Bool := domB l && (decide (fewP c) && (decide (vldP c l) && decide (insP r l)))
theorem fits_iff {c : Cl} {l : List Vr} {r : List RV} (h : fitsB c l r = true) : okP c l r := by
  obtain ⟨h1, h⟩ := Bool.and_eq_true_iff.1 h
  obtain ⟨h2, h⟩ := Bool.and_eq_true_iff.1 h
  obtain ⟨h3, h4⟩ := Bool.and_eq_true_iff.1 h
  exact ⟨h1, of_decide_eq_true h2, of_decide_eq_true h3, of_decide_eq_true h4⟩

set_option maxRecDepth 20000 in
theorem fits_any (c : Cl) (l : List Vr) (r : List RV) (z z2 : Nz) (hc : rgC c) (hl : l.length ≤ 17592186044000) (hr : r.length ≤ 17592186044000) (hs : ∀ v ∈ r, v.s.size ≤ 1000000000000000) : Pure Try.prog 9 [clC c, vsC z l, rowC z2 r] (.c (bC (fitsB c l r))) := by
 intro H
 refine Spec.enter Try.func9 rfl ?_
 refine AW.wk (Wk.keep 23 [(0, .c (clC c)), (1, .c (vsC z l)), (2, .c (rowC z2 r))] [] (H) rfl ⟨rfl, rfl, rfl, trivial⟩ trivial (fun _ _ h => h) rfl) ?_
 refine sR ?_
 refine SeqK.r (b_box (r := [_, _, _, _, _, _, _]) rfl rfl rfl rfl rfl rfl) rfl ?_
 refine sA ?_
 refine SeqK.nil ?_
 refine sR ?_
 refine sM ?_
 refine SeqK.q (q_call _ rfl Fx.fn22 rfl (dom_any _ _ hl) rfl) rfl rfl rfl ?_
 refine SeqK.qB (q_mvC rfl rfl) rfl rfl rfl (fun g9 => ?_) (fun g9 => ?_)
 ·
  refine SeqK.rOn (b_load (r := .g [_, _, _, _, _, _, _]) rfl Fx.ty28 rfl rfl rfl rfl rfl rfl) rfl rfl rfl ?_
  refine SeqK.on (q_call _ rfl Fx.fn21 rfl (few_any _ hc) rfl) rfl rfl rfl rfl rfl ?_
  refine SeqK.q (q_pkT rfl rfl rfl) rfl rfl rfl ?_
  refine SeqK.qB (q_mvC rfl rfl) rfl rfl rfl (fun g13 => ?_) (fun g13 => ?_)
  ·
   refine SeqK.rOn (b_load (r := .g [_, _, _, _, _, _, _]) rfl Fx.ty28 rfl rfl rfl rfl rfl rfl) rfl rfl rfl ?_
   refine SeqK.on (q_mvC rfl rfl) rfl rfl rfl rfl rfl ?_
   refine SeqK.on (q_call _ rfl Fx.fn20 rfl (rvalid_any _ _ _ hc hl) rfl) rfl rfl rfl rfl rfl ?_
   refine SeqK.q (q_pkT rfl rfl rfl) rfl rfl rfl ?_
   refine SeqK.qB (q_mvC rfl rfl) rfl rfl rfl (fun g18 => ?_) (fun g18 => ?_)
   ·
    refine SeqK.on (q_mvC rfl rfl) rfl rfl rfl rfl rfl ?_
    refine SeqK.on (q_mvC rfl rfl) rfl rfl rfl rfl rfl ?_
    refine SeqK.on (q_call _ rfl Fx.fn25 rfl (inside_any _ _ _ _ hr hl hs) rfl) rfl rfl rfl rfl rfl ?_
    refine SeqK.q (q_pkT rfl rfl rfl) rfl rfl rfl ?_
    refine sA ?_
    refine SeqK.nil ?_
    refine AW.ret ?_
    exact fin_x (x := .c _) (H) (.tmp rfl .nil) rfl (fun _ _ h => h) (⟨bCe (by first | (rw [fitsB, g9, g13, g18]; rfl) | (rw [fitsB, g9, g13]; rfl) | (rw [fitsB, g9]; rfl)), rfl⟩)
   ·
    refine SeqK.off rfl rfl rfl rfl rfl rfl ?_
    refine SeqK.off rfl rfl rfl rfl rfl rfl ?_
    refine SeqK.off rfl rfl rfl rfl rfl rfl ?_
    refine SeqK.q (q_pkF rfl rfl rfl) rfl rfl rfl ?_
    refine sA ?_
    refine SeqK.nil ?_
    refine AW.ret ?_
    exact fin_x (x := .c _) (H) (.tmp rfl .nil) rfl (fun _ _ h => h) (⟨bCe (by first | (rw [fitsB, g9, g13, g18]; rfl) | (rw [fitsB, g9, g13]; rfl) | (rw [fitsB, g9]; rfl)), rfl⟩)
  ·
   refine SeqK.off rfl rfl rfl rfl rfl rfl ?_
   refine SeqK.off rfl rfl rfl rfl rfl rfl ?_
   refine SeqK.off rfl rfl rfl rfl rfl rfl ?_
   refine SeqK.q (q_pkF rfl rfl rfl) rfl rfl rfl ?_
   refine sM ?_
   refine SeqK.off rfl rfl rfl rfl rfl rfl ?_
   refine SeqK.off rfl rfl rfl rfl rfl rfl ?_
   refine SeqK.off rfl rfl rfl rfl rfl rfl ?_
   refine SeqK.q (q_pkF rfl rfl rfl) rfl rfl rfl ?_
   refine sA ?_
   refine SeqK.nil ?_
   refine AW.ret ?_
   exact fin_x (x := .c _) (H) (.tmp rfl .nil) rfl (fun _ _ h => h) (⟨bCe (by first | (rw [fitsB, g9, g13, g18]; rfl) | (rw [fitsB, g9, g13]; rfl) | (rw [fitsB, g9]; rfl)), rfl⟩)
 ·
  refine SeqK.off rfl rfl rfl rfl rfl rfl ?_
  refine SeqK.off rfl rfl rfl rfl rfl rfl ?_
  refine SeqK.q (q_pkF rfl rfl rfl) rfl rfl rfl ?_
  refine sM ?_
  refine SeqK.off rfl rfl rfl rfl rfl rfl ?_
  refine SeqK.off rfl rfl rfl rfl rfl rfl ?_
  refine SeqK.off rfl rfl rfl rfl rfl rfl ?_
  refine SeqK.q (q_pkF rfl rfl rfl) rfl rfl rfl ?_
  refine sM ?_
  refine SeqK.off rfl rfl rfl rfl rfl rfl ?_
  refine SeqK.off rfl rfl rfl rfl rfl rfl ?_
  refine SeqK.off rfl rfl rfl rfl rfl rfl ?_
  refine SeqK.q (q_pkF rfl rfl rfl) rfl rfl rfl ?_
  refine sA ?_
  refine SeqK.nil ?_
  refine AW.ret ?_
  exact fin_x (x := .c _) (H) (.tmp rfl .nil) rfl (fun _ _ h => h) (⟨bCe (by first | (rw [fitsB, g9, g13, g18]; rfl) | (rw [fitsB, g9, g13]; rfl) | (rw [fitsB, g9]; rfl)), rfl⟩)

end Go.Proofs.Ytnmfjojhgfipcaa.W
namespace Go.Proofs.Ytnmfjojhgfipcaa.W
open Go.RowKit E
set_option linter.unusedVariables false
set_option linter.unusedSimpArgs false
set_option linter.unusedSectionVars false
abbrev w (n : Int) : Int := IntKind.i64.wrap n
theorem w_R (n : Int) : R64 (w n) := by
  show -9223372036854775808 ≤ IntKind.i64.wrap n ∧ IntKind.i64.wrap n ≤ 9223372036854775807
  rw [IntKind.wrap_i64]; omega
abbrev r0 : RV := ⟨0, 0, ⟨#[]⟩⟩
abbrev at' (r : List RV) (v : Int) : RV := r.getD v.toNat r0
theorem at_get {r : List RV} {v : Int} (h : v.toNat < r.length) : at' r v = r[v.toNat] := by
  show r.getD v.toNat r0 = _; rw [List.getD_eq_getElem?_getD, List.getElem?_eq_getElem h]; rfl
def itV (r : List RV) (au : List Int) (v : Int) : Int × Bool := if (r.length : Int) ≤ v then (au.getD (v.toNat - r.length) 0, true) else ((at' r v).n, decide ((at' r v).k = 1))
def cmpV (r : List RV) (au : List Int) : List Cf → Int → Int × Bool
  | [], s => (s, true)
  | k :: l, s => if (itV r au k.v).2 = true then cmpV r au l (w (s + w (k.n * (itV r au k.v).1))) else (0, false)
def lfV (r : List RV) (au : List Int) (f : Lf) : Int × Bool := cmpV r au f.cs f.c
theorem cmpV_drop {r : List RV} {au : List Int} {l : List Cf} {i : Nat} (hi : i < l.length) (s : Int) : cmpV r au (l.drop i) s = if (itV r au l[i].v).2 = true then cmpV r au (l.drop (i + 1)) (w (s + w (l[i].n * (itV r au l[i].v).1))) else (0, false) := by
  rw [List.drop_eq_getElem_cons hi, cmpV]
theorem cmpV_R {r : List RV} {au : List Int} : ∀ {l : List Cf} {s : Int}, R64 s → R64 (cmpV r au l s).1
  | [], s, h => by rw [cmpV]; exact h
  | p :: l, s, h => by
    rw [cmpV]
    split
    · exact cmpV_R (w_R _)
    · show -9223372036854775808 ≤ (0 : Int) ∧ (0 : Int) ≤ 9223372036854775807; decide
abbrev vrC (r : Int × Bool) : X := .tup [iC r.1, bC r.2]
theorem vre {n : Int} {b : Bool} {r : Int × Bool} (h : (n, b) = r) : X.tup [iC n, bC b] = vrC r := by rw [← h]
/-- the variables of a form stand in the row or among the auxiliary ones -/
abbrev okF (f : Lf) (m : Nat) : Prop := ∀ j (h : j < f.cs.length), 0 ≤ f.cs[j].v ∧ f.cs[j].v < m
theorem it_hi {r : List RV} {au : List Int} {v : Int} (h : (r.length : Int) ≤ v) (h2 : v.toNat - r.length < au.length) : itV r au v = (au[v.toNat - r.length], true) := by
  unfold itV; rw [if_pos h, List.getD_eq_getElem?_getD, List.getElem?_eq_getElem h2]; rfl
theorem it_lo {r : List RV} {au : List Int} {v : Int} (h : ¬ (r.length : Int) ≤ v) (h2 : v.toNat < r.length) : itV r au v = (r[v.toNat].n, decide (r[v.toNat].k = 1)) := by
  unfold itV; rw [if_neg h, at_get h2]
theorem itw_sub {v : Int} {n : Nat} (h : (n : Int) ≤ v) (h2 : v ≤ 9223372036854775807) : IntKind.i64.wrap (v - (n : Int)) = ((v.toNat - n : Nat) : Int) := by
  rw [w64 (by omega) (by omega)]; omega

set_option maxRecDepth 20000 in
theorem integer_any (v : Int) (r : List RV) (au : List Int) (z z2 : Nz) (hr : r.length ≤ 17592186044000) (ha : au.length ≤ 17592186044000) (h : 0 ≤ v ∧ v < r.length + au.length) : Pure Try.prog 66 [iC v, rowC z r, iL z2 au] (vrC (itV r au v)) := by
 intro H
 refine Spec.enter Try.func66 rfl ?_
 refine AW.wk (Wk.keep 30 [(0, .c (iC v)), (1, .c (rowC z r)), (2, .c (iL z2 au))] [] (H) rfl ⟨rfl, rfl, rfl, trivial⟩ trivial (fun _ _ h => h) rfl) ?_
 refine sR ?_
 refine sA ?_
 refine sA ?_
 refine SeqK.nil ?_
 refine AW.seq ?_
 refine AW.seq ?_
 have m1 := mlen rvT r
 refine AW.reg ?_
 refine sM ?_
 refine sM ?_
 refine SeqK.q (q_len rfl Fx.un31 rfl) rfl rfl rfl ?_
 refine SeqK.q (q_geq rfl rfl rfl) rfl rfl rfl ?_
 refine SeqK.nil ?_
 refine AW.condD rfl (fun h11 => ?_) (fun h11 => ?_)
 ·
  have hv : v.toNat - r.length < au.length := by omega
  refine sR ?_
  refine sM ?_
  refine sM ?_
  refine sM ?_
  refine SeqK.q (q_len rfl Fx.un31 rfl) rfl rfl rfl ?_
  refine SeqK.q (q_sub _ rfl rfl rfl ((by rw [m1]; exact itw_sub (by omega) (by omega) : IntKind.i64.wrap _ = ((v.toNat - r.length : Nat) : Int)))) rfl rfl rfl ?_
  refine SeqK.q (q_index _ rfl Fx.sl35 rfl rfl (by omega) (idx_map (f := i64T) hv)) rfl rfl rfl ?_
  refine SeqK.q (q_load (.a _) rfl Fx.ty2 rfl rfl rfl) rfl rfl rfl ?_
  refine sA ?_
  refine sA ?_
  refine SeqK.nil ?_
  refine AW.ret ?_
  exact fin_x (x := .tup [_, _]) (H) (.tmp rfl (.tmp rfl .nil)) rfl (fun _ _ h => h) (⟨vre (it_hi (by omega) hv).symm, rfl⟩)
 ·
  have hv : v.toNat < r.length := by omega
  refine AW.skip ?_
  refine AW.seq ?_
  refine AW.draw Fx.mo ?_
  refine LexK.q (q_mvC rfl rfl) rfl rfl rfl ?_
  refine LexK.q (q_mvC rfl rfl) rfl rfl rfl ?_
  refine LexK.q (q_index _ rfl Fx.sl31 rfl rfl (by omega) (idx_map (f := rvT) hv)) rfl rfl rfl ?_
  refine LexK.q (q_fieldP _ rfl Fx.fl42_1 rfl rfl) rfl rfl rfl ?_
  refine LexK.q (q_load (.a _) rfl Fx.ty2 rfl rfl rfl) rfl rfl rfl ?_
  refine LexK.q (q_mvC rfl rfl) rfl rfl rfl ?_
  refine LexK.q (q_mvC rfl rfl) rfl rfl rfl ?_
  refine LexK.q (q_index _ rfl Fx.sl31 rfl rfl (by omega) (idx_map (f := rvT) hv)) rfl rfl rfl ?_
  refine LexK.q (q_fieldP _ rfl Fx.fl42_0 rfl rfl) rfl rfl rfl ?_
  refine LexK.q (q_load (.a _) rfl Fx.ty3 rfl rfl rfl) rfl rfl rfl ?_
  refine LexK.q (q_eql rfl rfl rfl) rfl rfl rfl ?_
  refine LexK.q (q_asC rfl rfl) rfl rfl rfl ?_
  refine LexK.q (q_asC rfl rfl) rfl rfl rfl ?_
  refine LexK.nil (by kernel_rfl) ?_
  refine AW.ret ?_
  exact fin_x (x := .tup [_, _]) (H) (.tmp rfl (.tmp rfl .nil)) rfl (fun _ _ h => h) (⟨vre (it_lo (by omega) hv).symm, rfl⟩)

set_option maxRecDepth 20000 in
theorem compute_any (f : Lf) (r : List RV) (au : List Int) (z z2 : Nz) (hr : r.length ≤ 17592186044000) (ha : au.length ≤ 17592186044000) (hl : f.cs.length ≤ 17592186044000) (hf : okF f (r.length + au.length)) : Pure Try.prog 26 [lfC f, rowC z r, iL z2 au] (vrC (lfV r au f)) := by
 intro H
 refine Spec.enter Try.func26 rfl ?_
 refine AW.wk (Wk.keep 40 [(0, .c (lfC f)), (1, .c (rowC z r)), (2, .c (iL z2 au))] [] (H) rfl ⟨rfl, rfl, rfl, trivial⟩ trivial (fun _ _ h => h) rfl) ?_
 refine sR ?_
 refine SeqK.r (b_box (r := [_, _]) rfl rfl rfl rfl rfl rfl) rfl ?_
 refine sA ?_
 refine sA ?_
 refine SeqK.nil ?_
 refine sR ?_
 refine SeqK.q (q_fieldL _ rfl Fx.fl74_0 rfl rfl) rfl rfl rfl ?_
 refine SeqK.r (b_load (r := .a _) rfl Fx.ty2 rfl rfl rfl rfl rfl rfl) rfl ?_
 refine sA ?_
 refine SeqK.nil ?_
 refine AW.seq ?_
 refine sR ?_
 refine SeqK.q (q_fieldL _ rfl Fx.fl74_1 rfl rfl) rfl rfl rfl ?_
 refine SeqK.r (b_load (r := .a _) rfl Fx.ty72 rfl rfl rfl rfl rfl rfl) rfl ?_
 refine SeqK.q (q_len rfl Fx.un72 rfl) rfl rfl rfl ?_
 refine sM ?_
 refine SeqK.nil ?_
 refine AW.block ?_
 refine AW.loop (fun (i : Nat) s => ∃ (sm : Int), (i ≤ f.cs.length ∧ cmpV r au (f.cs.drop i) sm = lfV r au f) ∧ s = ⟨40, sp [(1, .c (rowC z r)), (2, .c (iL z2 au)), (6, .c (iC 0)), (7, .c (bC false)), (8, .c (iC sm)), (16, .c (.a (.t (.sl .un 2 (f.cs.map cfT))))), (17, iX .i64 (((f.cs.map cfT).length : Nat) : Int)), (18, iX .i64 ((i : Nat) : Int))], lv [], H⟩) (fun i => f.cs.length - i) 0 ⟨_, Wk.keep 40 [(1, .c (rowC z r)), (2, .c (iL z2 au)), (6, .c (iC 0)), (7, .c (bC false)), (8, .c (iC (f.c))), (16, .c (.a (.t (.sl .un 2 (f.cs.map cfT))))), (17, iX .i64 (((f.cs.map cfT).length : Nat) : Int)), (18, iX .i64 ((((0 : Nat)) : Nat) : Int))] [] (H) rfl ⟨rfl, rfl, rfl, rfl, rfl, rfl, rfl, rfl, trivial⟩ trivial (fun _ _ h => h) rfl, f.c, ⟨Nat.zero_le _, rfl⟩, rfl⟩ (fun i s hs => ?_)
 obtain ⟨sm, ⟨hi0, hI⟩, rfl⟩ := hs
 refine sR ?_
 refine SeqK.q (q_lss rfl rfl rfl) rfl rfl rfl ?_
 refine SeqK.nil ?_
 refine AW.seq ?_
 refine AW.condD rfl (fun h19 => ?_) (fun h19 => ?_)
 ·
  have hi : i < f.cs.length := by rw [List.length_map] at h19; omega
  have hk := hf i hi
  refine AW.skip ?_
  refine AW.seq ?_
  refine AW.block ?_
  refine sR ?_
  refine SeqK.q (q_index _ rfl Fx.sl72 rfl rfl (by omega) (idx_map (f := cfT) hi)) rfl rfl rfl ?_
  refine SeqK.q (q_load (.g [_, _]) rfl Fx.ty106 rfl rfl rfl) rfl rfl rfl ?_
  refine SeqK.r (b_alloc (r := [_, _]) rfl rfl Fx.ze106 rfl rfl rfl rfl) rfl ?_
  refine SeqK.r (b_store (r := [_, _]) rfl rfl Fx.ty106 rfl rfl rfl rfl rfl rfl) rfl ?_
  refine SeqK.nil ?_
  refine sR ?_
  refine SeqK.q (q_fieldL _ rfl Fx.fl106_0 rfl rfl) rfl rfl rfl ?_
  refine SeqK.r (b_load (r := .a _) rfl Fx.ty3 rfl rfl rfl rfl rfl rfl) rfl ?_
  refine sM ?_
  refine sM ?_
  refine SeqK.q (q_call _ rfl Fx.fn66 rfl (integer_any _ r au z z2 hr ha (by omega)) rfl) rfl rfl rfl ?_
  refine SeqK.q (q_mvT rfl rfl) rfl rfl rfl ?_
  refine SeqK.q (q_extract _ rfl rfl rfl) rfl rfl rfl ?_
  refine SeqK.q (q_extract _ rfl rfl rfl) rfl rfl rfl ?_
  refine sA ?_
  refine sA ?_
  refine SeqK.nil ?_
  refine AW.seq ?_
  refine sR ?_
  refine sM ?_
  refine SeqK.q (q_not rfl rfl) rfl rfl rfl ?_
  refine SeqK.nil ?_
  refine AW.cond _ rfl (fun h31 => ?_) (fun h31 => ?_)
  ·
   refine sR ?_
   refine sA ?_
   refine sA ?_
   refine SeqK.nil ?_
   refine AW.ret ?_
   exact fin_x (x := .tup [_, _]) (H) (.tmp rfl (.tmp rfl .nil)) rfl (fun _ _ h => h) (⟨vre (by rw [← hI, cmpV_drop hi, if_neg (by simpa using h31)]), rfl⟩)
  ·
   refine AW.skip ?_
   refine AW.reg ?_
   refine sM ?_
   refine SeqK.q (q_fieldL _ rfl Fx.fl106_1 rfl rfl) rfl rfl rfl ?_
   refine SeqK.r (b_load (r := .a _) rfl Fx.ty2 rfl rfl rfl rfl rfl rfl) rfl ?_
   refine sM ?_
   refine SeqK.q (q_mul _ rfl rfl rfl (rfl)) rfl rfl rfl ?_
   refine SeqK.q (q_add _ rfl rfl rfl (rfl)) rfl rfl rfl ?_
   refine sA ?_
   refine SeqK.nil ?_
   refine AW.reg ?_
   refine SeqK.q (q_add _ rfl rfl rfl (w64 (by omega) (by omega))) rfl rfl rfl ?_
   refine sM ?_
   refine SeqK.nil ?_
   exact ⟨i + 1, _, Wk.keep 40 [(1, .c (rowC z r)), (2, .c (iL z2 au)), (6, .c (iC 0)), (7, .c (bC false)), (8, .c (iC ((w (sm + w (f.cs[i].n * (itV r au f.cs[i].v).1)))))), (16, .c (.a (.t (.sl .un 2 (f.cs.map cfT))))), (17, iX .i64 (((f.cs.map cfT).length : Nat) : Int)), (18, iX .i64 (((i + 1) : Nat) : Int))] [] (H) rfl ⟨rfl, rfl, rfl, rfl, rfl, rfl, rfl, rfl, trivial⟩ trivial (fun _ _ h => h) rfl, by omega, (w (sm + w (f.cs[i].n * (itV r au f.cs[i].v).1))), ⟨hi, by rw [← hI, cmpV_drop hi, if_pos (by simpa using h31)]⟩, rfl⟩
 ·
  refine AW.exit ?_
  refine eth_e ?_
  refine eth_e ?_
  refine exit_here ?_
  refine sR ?_
  refine sM ?_
  refine sA ?_
  refine sA ?_
  refine SeqK.nil ?_
  refine AW.ret ?_
  exact fin_x (x := .tup [_, _]) (H) (.tmp rfl (.tmp rfl .nil)) rfl (fun _ _ h => h) (⟨vre (by rw [← hI, List.drop_eq_nil_of_le (by rw [List.length_map] at h19; omega), cmpV]), rfl⟩)

set_option maxRecDepth 20000 in
theorem rvalue_any (f : Lf) (r : List RV) (au : List Int) (z z2 : Nz) (hr : r.length ≤ 17592186044000) (ha : au.length ≤ 17592186044000) (hl : f.cs.length ≤ 17592186044000) (hf : okF f (r.length + au.length)) : Pure Try.prog 28 [lfC f, rowC z r, iL z2 au] (vrC (lfV r au f)) := by
 intro H
 refine Spec.enter Try.func28 rfl ?_
 refine AW.wk (Wk.keep 60 [(0, .c (lfC f)), (1, .c (rowC z r)), (2, .c (iL z2 au))] [] (H) rfl ⟨rfl, rfl, rfl, trivial⟩ trivial (fun _ _ h => h) rfl) ?_
 refine sR ?_
 refine SeqK.r (b_box (r := [_, _]) rfl rfl rfl rfl rfl rfl) rfl ?_
 refine sA ?_
 refine sA ?_
 refine SeqK.nil ?_
 refine AW.seq ?_
 have m1 := mlen rvT r
 refine AW.reg ?_
 refine SeqK.q (q_fieldL _ rfl Fx.fl74_0 rfl rfl) rfl rfl rfl ?_
 refine SeqK.r (b_load (r := .a _) rfl Fx.ty2 rfl rfl rfl rfl rfl rfl) rfl ?_
 refine sA ?_
 refine SeqK.nil ?_
 refine AW.seq ?_
 refine sR ?_
 refine sA ?_
 refine SeqK.nil ?_
 refine AW.block ?_
 refine AW.loop (fun (i : Nat) s => ∃ (sm : Int), (i ≤ f.cs.length ∧ cmpV r au (f.cs.drop i) sm = lfV r au f) ∧ s = ⟨60, sp [(1, .c (rowC z r)), (2, .c (iL z2 au)), (3, .lp 3 0), (6, .c (iC 0)), (7, .c (bC false)), (8, .c (iC sm)), (9, iX .i64 ((i : Nat) : Int))], lv [(3, .box [.t (.v (.int .i64 f.c)), .t (.sl .un 2 (f.cs.map cfT))])], H⟩) (fun i => f.cs.length - i) 0 ⟨_, Wk.keep 60 [(1, .c (rowC z r)), (2, .c (iL z2 au)), (3, .lp 3 0), (6, .c (iC 0)), (7, .c (bC false)), (8, .c (iC (f.c))), (9, iX .i64 ((((0 : Nat)) : Nat) : Int))] [(3, .box [.t (.v (.int .i64 f.c)), .t (.sl .un 2 (f.cs.map cfT))])] (H) rfl ⟨rfl, rfl, rfl, rfl, rfl, rfl, rfl, trivial⟩ ⟨rfl, trivial⟩ (fun _ _ h => h) rfl, f.c, ⟨Nat.zero_le _, rfl⟩, rfl⟩ (fun i s hs => ?_)
 obtain ⟨sm, ⟨hi0, hI⟩, rfl⟩ := hs
 refine AW.seq ?_
 refine sR ?_
 refine sM ?_
 refine SeqK.q (q_fieldL _ rfl Fx.fl74_1 rfl rfl) rfl rfl rfl ?_
 refine SeqK.r (b_load (r := .a _) rfl Fx.ty72 rfl rfl rfl rfl rfl rfl) rfl ?_
 refine SeqK.q (q_len rfl Fx.un72 rfl) rfl rfl rfl ?_
 refine SeqK.q (q_lss rfl rfl rfl) rfl rfl rfl ?_
 refine SeqK.nil ?_
 refine AW.condD rfl (fun h18 => ?_) (fun h18 => ?_)
 ·
  have hi : i < f.cs.length := by rw [List.length_map] at h18; omega
  have hk := hf i hi
  refine AW.skip ?_
  refine AW.seq ?_
  refine AW.block ?_
  refine sR ?_
  refine SeqK.q (q_fieldL _ rfl Fx.fl74_1 rfl rfl) rfl rfl rfl ?_
  refine SeqK.r (b_load (r := .a _) rfl Fx.ty72 rfl rfl rfl rfl rfl rfl) rfl ?_
  refine sM ?_
  refine SeqK.q (q_index _ rfl Fx.sl72 rfl rfl (by omega) (idx_map (f := cfT) hi)) rfl rfl rfl ?_
  refine SeqK.q (q_fieldP _ rfl Fx.fl106_0 rfl rfl) rfl rfl rfl ?_
  refine SeqK.q (q_load (.a _) rfl Fx.ty3 rfl rfl rfl) rfl rfl rfl ?_
  refine sA ?_
  refine SeqK.nil ?_
  refine sR ?_
  refine sA ?_
  refine SeqK.nil ?_
  refine AW.seq ?_
  refine sR ?_
  refine sM ?_
  refine sM ?_
  refine SeqK.q (q_len rfl Fx.un31 rfl) rfl rfl rfl ?_
  refine SeqK.q (q_geq rfl rfl rfl) rfl rfl rfl ?_
  refine SeqK.nil ?_
  refine AW.condD rfl (fun h30 => ?_) (fun h30 => ?_)
  ·
   have hv : f.cs[i].v.toNat - r.length < au.length := by omega
   have hit := it_hi (r := r) (au := au) (v := f.cs[i].v) (by omega) hv
   refine AW.reg ?_
   refine sM ?_
   refine sM ?_
   refine sM ?_
   refine SeqK.q (q_len rfl Fx.un31 rfl) rfl rfl rfl ?_
   refine SeqK.q (q_sub _ rfl rfl rfl ((by rw [m1]; exact itw_sub (by omega) (by omega) : IntKind.i64.wrap _ = ((f.cs[i].v.toNat - r.length : Nat) : Int)))) rfl rfl rfl ?_
   refine SeqK.q (q_index _ rfl Fx.sl35 rfl rfl (by omega) (idx_map (f := i64T) hv)) rfl rfl rfl ?_
   refine SeqK.q (q_load (.a _) rfl Fx.ty2 rfl rfl rfl) rfl rfl rfl ?_
   refine sA ?_
   refine SeqK.nil ?_
   refine AW.wk (Wk.keep 60 [(1, .c (rowC z r)), (2, .c (iL z2 au)), (3, .lp 3 0), (6, .c (iC 0)), (7, .c (bC false)), (8, .c (iC sm)), (9, iX .i64 ((i : Nat) : Int)), (11, .c (iC (itV r au f.cs[i].v).1))] [(3, .box [.t (.v (.int .i64 f.c)), .t (.sl .un 2 (f.cs.map cfT))])] (H) rfl ⟨rfl, rfl, rfl, rfl, rfl, rfl, rfl, by rw [hit]; rfl, trivial⟩ ⟨rfl, trivial⟩ (fun _ _ h => h) rfl) ?_
   refine AW.reg ?_
   refine sM ?_
   refine SeqK.q (q_fieldL _ rfl Fx.fl74_1 rfl rfl) rfl rfl rfl ?_
   refine SeqK.r (b_load (r := .a _) rfl Fx.ty72 rfl rfl rfl rfl rfl rfl) rfl ?_
   refine sM ?_
   refine SeqK.q (q_index _ rfl Fx.sl72 rfl rfl (by omega) (idx_map (f := cfT) hi)) rfl rfl rfl ?_
   refine SeqK.q (q_fieldP _ rfl Fx.fl106_1 rfl rfl) rfl rfl rfl ?_
   refine SeqK.q (q_load (.a _) rfl Fx.ty2 rfl rfl rfl) rfl rfl rfl ?_
   refine sM ?_
   refine SeqK.q (q_mul _ rfl rfl rfl (rfl)) rfl rfl rfl ?_
   refine SeqK.q (q_add _ rfl rfl rfl (rfl)) rfl rfl rfl ?_
   refine sA ?_
   refine SeqK.nil ?_
   refine AW.reg ?_
   refine sM ?_
   refine SeqK.q (q_add _ rfl rfl rfl (w64 (by omega) (by omega))) rfl rfl rfl ?_
   refine sA ?_
   refine SeqK.nil ?_
   exact ⟨i + 1, _, Wk.keep 60 [(1, .c (rowC z r)), (2, .c (iL z2 au)), (3, .lp 3 0), (6, .c (iC 0)), (7, .c (bC false)), (8, .c (iC ((w (sm + w (f.cs[i].n * (itV r au f.cs[i].v).1)))))), (9, iX .i64 (((i + 1) : Nat) : Int))] [(3, .box [.t (.v (.int .i64 f.c)), .t (.sl .un 2 (f.cs.map cfT))])] (H) rfl ⟨rfl, rfl, rfl, rfl, rfl, rfl, rfl, trivial⟩ ⟨rfl, trivial⟩ (fun _ _ h => h) rfl, by omega, (w (sm + w (f.cs[i].n * (itV r au f.cs[i].v).1))), ⟨hi, by rw [← hI, cmpV_drop hi, if_pos (by rw [hit])]⟩, rfl⟩
  ·
   have hv : f.cs[i].v.toNat < r.length := by omega
   have hit0 := it_lo (r := r) (au := au) (v := f.cs[i].v) (by omega) hv
   refine sR ?_
   refine sM ?_
   refine sM ?_
   refine SeqK.q (q_index _ rfl Fx.sl31 rfl rfl (by omega) (idx_map (f := rvT) hv)) rfl rfl rfl ?_
   refine SeqK.q (q_fieldP _ rfl Fx.fl42_0 rfl rfl) rfl rfl rfl ?_
   refine SeqK.q (q_load (.a _) rfl Fx.ty3 rfl rfl rfl) rfl rfl rfl ?_
   refine SeqK.q (q_neq rfl rfl rfl) rfl rfl rfl ?_
   refine SeqK.nil ?_
   refine AW.condD rfl (fun h43 => ?_) (fun h43 => ?_)
   ·
    refine sR ?_
    refine sA ?_
    refine sA ?_
    refine SeqK.nil ?_
    refine AW.ret ?_
    exact fin_x (x := .tup [_, _]) (H) (.tmp rfl (.tmp rfl .nil)) rfl (fun _ _ h => h) (⟨vre (by rw [← hI, cmpV_drop hi, if_neg (by rw [hit0, decide_eq_false h43]; simp)]), rfl⟩)
   ·
    have hit : itV r au f.cs[i].v = (r[f.cs[i].v.toNat].n, true) := by rw [hit0, decide_eq_true (by omega)]
    refine AW.reg ?_
    refine sM ?_
    refine sM ?_
    refine SeqK.q (q_index _ rfl Fx.sl31 rfl rfl (by omega) (idx_map (f := rvT) hv)) rfl rfl rfl ?_
    refine SeqK.q (q_fieldP _ rfl Fx.fl42_1 rfl rfl) rfl rfl rfl ?_
    refine SeqK.q (q_load (.a _) rfl Fx.ty2 rfl rfl rfl) rfl rfl rfl ?_
    refine sA ?_
    refine SeqK.nil ?_
    refine AW.wk (Wk.keep 60 [(1, .c (rowC z r)), (2, .c (iL z2 au)), (3, .lp 3 0), (6, .c (iC 0)), (7, .c (bC false)), (8, .c (iC sm)), (9, iX .i64 ((i : Nat) : Int)), (11, .c (iC (itV r au f.cs[i].v).1))] [(3, .box [.t (.v (.int .i64 f.c)), .t (.sl .un 2 (f.cs.map cfT))])] (H) rfl ⟨rfl, rfl, rfl, rfl, rfl, rfl, rfl, by rw [hit]; rfl, trivial⟩ ⟨rfl, trivial⟩ (fun _ _ h => h) rfl) ?_
    refine AW.reg ?_
    refine sM ?_
    refine SeqK.q (q_fieldL _ rfl Fx.fl74_1 rfl rfl) rfl rfl rfl ?_
    refine SeqK.r (b_load (r := .a _) rfl Fx.ty72 rfl rfl rfl rfl rfl rfl) rfl ?_
    refine sM ?_
    refine SeqK.q (q_index _ rfl Fx.sl72 rfl rfl (by omega) (idx_map (f := cfT) hi)) rfl rfl rfl ?_
    refine SeqK.q (q_fieldP _ rfl Fx.fl106_1 rfl rfl) rfl rfl rfl ?_
    refine SeqK.q (q_load (.a _) rfl Fx.ty2 rfl rfl rfl) rfl rfl rfl ?_
    refine sM ?_
    refine SeqK.q (q_mul _ rfl rfl rfl (rfl)) rfl rfl rfl ?_
    refine SeqK.q (q_add _ rfl rfl rfl (rfl)) rfl rfl rfl ?_
    refine sA ?_
    refine SeqK.nil ?_
    refine AW.reg ?_
    refine sM ?_
    refine SeqK.q (q_add _ rfl rfl rfl (w64 (by omega) (by omega))) rfl rfl rfl ?_
    refine sA ?_
    refine SeqK.nil ?_
    exact ⟨i + 1, _, Wk.keep 60 [(1, .c (rowC z r)), (2, .c (iL z2 au)), (3, .lp 3 0), (6, .c (iC 0)), (7, .c (bC false)), (8, .c (iC ((w (sm + w (f.cs[i].n * (itV r au f.cs[i].v).1)))))), (9, iX .i64 (((i + 1) : Nat) : Int))] [(3, .box [.t (.v (.int .i64 f.c)), .t (.sl .un 2 (f.cs.map cfT))])] (H) rfl ⟨rfl, rfl, rfl, rfl, rfl, rfl, rfl, trivial⟩ ⟨rfl, trivial⟩ (fun _ _ h => h) rfl, by omega, (w (sm + w (f.cs[i].n * (itV r au f.cs[i].v).1))), ⟨hi, by rw [← hI, cmpV_drop hi, if_pos (by rw [hit])]⟩, rfl⟩
 ·
  refine AW.exit ?_
  refine eth_e ?_
  refine eth_e ?_
  refine exit_here ?_
  refine sR ?_
  refine sM ?_
  refine sA ?_
  refine sA ?_
  refine SeqK.nil ?_
  refine AW.ret ?_
  exact fin_x (x := .tup [_, _]) (H) (.tmp rfl (.tmp rfl .nil)) rfl (fun _ _ h => h) (⟨vre (by rw [← hI, List.drop_eq_nil_of_le (by rw [List.length_map] at h18; omega), cmpV]), rfl⟩)

set_option maxRecDepth 20000 in
theorem rfloor_any (a b : Int) (hn : R64 a) (hb : 1 ≤ b) : Pure Try.prog 30 [iC a, iC b] (.c (iC (a / b))) := by
 intro H
 refine Spec.enter Try.func30 rfl ?_
 refine AW.wk (Wk.keep 17 [(0, .c (iC a)), (1, .c (iC b))] [] (H) rfl ⟨rfl, rfl, trivial⟩ trivial (fun _ _ h => h) rfl) ?_
 refine sR ?_
 refine sA ?_
 refine SeqK.nil ?_
 refine AW.seq ?_
 have hb1 : (0:Int) < b := by omega
 have hq := tdiv_floor (a := a) hb
 have hm := tdiv_mul (a := a) hb
 have hd := tdiv_R (a := a) hb hn
 refine AW.reg ?_
 refine sM ?_
 refine sM ?_
 refine SeqK.q (q_quo _ rfl rfl rfl (by omega) (w64 (by omega) (by omega))) rfl rfl rfl ?_
 refine sA ?_
 refine SeqK.nil ?_
 refine AW.seq ?_
 refine sR ?_
 refine sM ?_
 refine sM ?_
 refine SeqK.q (q_mul _ rfl rfl rfl (w64 (by omega) (by omega))) rfl rfl rfl ?_
 refine sM ?_
 refine SeqK.q (q_gtr rfl rfl rfl) rfl rfl rfl ?_
 refine SeqK.nil ?_
 refine AW.condD rfl (fun h13 => ?_) (fun h13 => ?_)
 ·
  refine AW.reg ?_
  refine sM ?_
  refine SeqK.q (q_sub _ rfl rfl rfl (w64 (by omega) (by omega))) rfl rfl rfl ?_
  refine sA ?_
  refine SeqK.nil ?_
  refine sR ?_
  refine sM ?_
  refine sA ?_
  refine SeqK.nil ?_
  refine AW.ret ?_
  exact fin_x (x := .c _) (H) (.tmp rfl .nil) rfl (fun _ _ h => h) (⟨by rw [hq.1 h13], rfl⟩)
 ·
  refine AW.skip ?_
  refine sR ?_
  refine sM ?_
  refine sA ?_
  refine SeqK.nil ?_
  refine AW.ret ?_
  exact fin_x (x := .c _) (H) (.tmp rfl .nil) rfl (fun _ _ h => h) (⟨by rw [hq.2 h13], rfl⟩)

end Go.Proofs.Ytnmfjojhgfipcaa.W
namespace Go.Proofs.Ytnmfjojhgfipcaa.W
open Go.RowKit E
set_option linter.unusedVariables false
set_option linter.unusedSimpArgs false
set_option linter.unusedSectionVars false
def auV (r : List RV) : List Ax → List Int → List Int × Bool
  | [], out => (out, true)
  | a :: l, out => if a.b = 0 then (if (at' r a.t).k = 2 then auV r l (out ++ [((at' r a.t).s.size : Int)]) else ([], false))
    else if (lfV r out a.f).2 = true then auV r l (out ++ [(lfV r out a.f).1 / a.b]) else ([], false)
theorem auV_drop {r : List RV} {l : List Ax} {i : Nat} (hi : i < l.length) (out : List Int) : auV r (l.drop i) out = if l[i].b = 0 then (if (at' r l[i].t).k = 2 then auV r (l.drop (i + 1)) (out ++ [((at' r l[i].t).s.size : Int)]) else ([], false))
    else if (lfV r out l[i].f).2 = true then auV r (l.drop (i + 1)) (out ++ [(lfV r out l[i].f).1 / l[i].b]) else ([], false) := by
  rw [List.drop_eq_getElem_cons hi, auV]
abbrev auC (p : List Int × Bool) : X := .tup [iL .un p.1, bC p.2]
theorem aue {l : List Int} {b : Bool} {r : List Int × Bool} (h : (l, b) = r) : X.tup [iL .un l, bC b] = auC r := by rw [← h]
abbrev okA (axs : List Ax) (n : Nat) : Prop := ∀ j (h : j < axs.length), (axs[j].b = 0 → 0 ≤ axs[j].t ∧ axs[j].t < n) ∧ (axs[j].b ≠ 0 → (1 ≤ axs[j].b ∧ axs[j].b ≤ 1000) ∧ okF axs[j].f (n + j))
theorem put_i {zs : List (List E.T)} {out : List Int} {v : Int} (h : zs = out.map i64T) : zs ++ [i64T v] = (out ++ [v]).map i64T := by rw [h]; simp
theorem len_i {zs : List (List E.T)} {out : List Int} (h : zs = out.map i64T) : zs.length = out.length := by rw [h, List.length_map]
theorem out_len {out : List Int} {v : Int} {i : Nat} (h : out.length = i) : (out ++ [v]).length = i + 1 := by simp [h]
theorem lfV_R {r : List RV} {au : List Int} {f : Lf} (h : R64 f.c) : R64 (lfV r au f).1 := cmpV_R h

set_option maxHeartbeats 4000000 in
set_option maxRecDepth 20000 in
theorem aux_any (c : Cl) (r : List RV) (z : Nz) (hc : rgC c) (hr : r.length ≤ 17592186044000) (hs : ∀ v ∈ r, v.s.size ≤ 1000000000000000) (hA : okA c.ax r.length) (hR : ∀ a ∈ c.ax, R64 a.f.c) : Pure Try.prog 12 [clC c, rowC z r] (auC (auV r c.ax [])) := by
 intro H
 refine Spec.enter Try.func12 rfl ?_
 refine AW.wk (Wk.keep 66 [(0, .c (clC c)), (1, .c (rowC z r))] [] (H) rfl ⟨rfl, rfl, trivial⟩ trivial (fun _ _ h => h) rfl) ?_
 refine sR ?_
 refine SeqK.r (b_box (r := [_, _, _, _, _, _, _]) rfl rfl rfl rfl rfl rfl) rfl ?_
 refine sA ?_
 refine sA ?_
 refine SeqK.nil ?_
 refine AW.seq ?_
 have q1 := hc.ax
 refine AW.reg ?_
 refine sA ?_
 refine SeqK.nil ?_
 refine AW.seq ?_
 refine sR ?_
 refine SeqK.q (q_fieldL _ rfl Fx.fl28_2 rfl rfl) rfl rfl rfl ?_
 refine SeqK.r (b_load (r := .a _) rfl Fx.ty23 rfl rfl rfl rfl rfl rfl) rfl ?_
 refine SeqK.q (q_len rfl Fx.un23 rfl) rfl rfl rfl ?_
 refine sM ?_
 refine SeqK.nil ?_
 refine AW.block ?_
 refine AW.tip 6 2 1 rfl (fun k0 hk0 => ?_)
 refine AW.loop (fun (i : Nat) s => ∃ (kt : Nat) (zs : List (List E.T)) (out : List Int), (i ≤ c.ax.length ∧ H kt = none ∧ out.length = i ∧ zs = out.map i64T ∧ auV r (c.ax.drop i) out = auV r c.ax []) ∧ s = ⟨66, sp [(1, .c (rowC z r)), (4, .c (.a (.t (.v (.slice none 0 0))))), (5, .c (bC false)), (6, .c (.a (.ts kt .ne 1 zs))), (13, .c (.a (.t (.sl .un 4 (c.ax.map axT))))), (14, iX .i64 (((c.ax.map axT).length : Nat) : Int)), (15, iX .i64 ((i : Nat) : Int))], lv [], upd H kt (some (.tip 2 1 zs.length))⟩) (fun i => c.ax.length - i) 0 ⟨_, Wk.keep 66 [(1, .c (rowC z r)), (4, .c (.a (.t (.v (.slice none 0 0))))), (5, .c (bC false)), (6, .c (.a (.ts (k0) .ne 1 ([])))), (13, .c (.a (.t (.sl .un 4 (c.ax.map axT))))), (14, iX .i64 (((c.ax.map axT).length : Nat) : Int)), (15, iX .i64 ((((0 : Nat)) : Nat) : Int))] [] (upd H (k0) (some (.tip 2 1 ([]).length))) rfl ⟨rfl, rfl, rfl, rfl, rfl, rfl, rfl, trivial⟩ trivial (fun _ _ h => h) rfl, k0, [], [], ⟨Nat.zero_le _, hk0, rfl, rfl, rfl⟩, rfl⟩ (fun i s hs => ?_)
 obtain ⟨kt, zs, out, ⟨hi0, hkt, hol, hzs, hI⟩, rfl⟩ := hs
 refine sR ?_
 refine SeqK.q (q_lss rfl rfl rfl) rfl rfl rfl ?_
 refine SeqK.nil ?_
 refine AW.seq ?_
 refine AW.condD rfl (fun h16 => ?_) (fun h16 => ?_)
 ·
  have hi : i < c.ax.length := by rw [List.length_map] at h16; omega
  refine AW.skip ?_
  refine AW.seq ?_
  refine AW.block ?_
  refine sR ?_
  refine SeqK.q (q_index _ rfl Fx.sl23 rfl rfl (by omega) (idx_map (f := axT) hi)) rfl rfl rfl ?_
  refine SeqK.q (q_load (.g [_, _, _, _]) rfl Fx.ty82 rfl rfl rfl) rfl rfl rfl ?_
  refine SeqK.r (b_alloc (r := [_, _, _, _]) rfl rfl Fx.ze82 rfl rfl rfl rfl) rfl ?_
  refine SeqK.r (b_store (r := [_, _, _, _]) rfl rfl Fx.ty82 rfl rfl rfl rfl rfl rfl) rfl ?_
  refine SeqK.nil ?_
  refine AW.seq ?_
  refine sR ?_
  refine SeqK.q (q_fieldL _ rfl Fx.fl82_1 rfl rfl) rfl rfl rfl ?_
  refine SeqK.r (b_load (r := .a _) rfl Fx.ty2 rfl rfl rfl rfl rfl rfl) rfl ?_
  refine SeqK.q (q_eql rfl rfl rfl) rfl rfl rfl ?_
  refine SeqK.nil ?_
  refine AW.condD rfl (fun h21 => ?_) (fun h21 => ?_)
  ·
   refine AW.seq ?_
   refine AW.seq ?_
   have hk0 := (hA i hi).1 h21
   have ht : c.ax[i].t.toNat < r.length := by omega
   have hat := at_get ht
   refine AW.reg ?_
   refine sM ?_
   refine SeqK.q (q_fieldL _ rfl Fx.fl82_2 rfl rfl) rfl rfl rfl ?_
   refine SeqK.r (b_load (r := .a _) rfl Fx.ty3 rfl rfl rfl rfl rfl rfl) rfl ?_
   refine SeqK.q (q_index _ rfl Fx.sl31 rfl rfl (by omega) (idx_map (f := rvT) ht)) rfl rfl rfl ?_
   refine SeqK.q (q_fieldP _ rfl Fx.fl42_0 rfl rfl) rfl rfl rfl ?_
   refine SeqK.q (q_load (.a _) rfl Fx.ty3 rfl rfl rfl) rfl rfl rfl ?_
   refine SeqK.q (q_neq rfl rfl rfl) rfl rfl rfl ?_
   refine SeqK.nil ?_
   refine AW.condD rfl (fun h28 => ?_) (fun h28 => ?_)
   ·
    have hk2 : ¬ (at' r c.ax[i].t).k = 2 := by rw [hat]; exact h28
    refine sR ?_
    refine sA ?_
    refine sA ?_
    refine SeqK.nil ?_
    refine AW.xw 4 rfl (XW.nilU (sz := 1)) ?_
    refine AW.ret ?_
    exact fin_x (x := .tup [_, _]) (H) (.tmp rfl (.tmp rfl .nil)) rfl (fun j o h => by show upd H _ _ j = _; rw [upd_ne _ _ (fun e => by subst e; simp_all)]; exact h) (⟨aue (l := []) (b := false) (by rw [← hI, auV_drop hi, if_pos h21, if_neg hk2]), rfl⟩)
   ·
    have hk2 : (at' r c.ax[i].t).k = 2 := by rw [hat]; omega
    have hsz := hs _ (List.getElem_mem ht)
    refine AW.skip ?_
    refine sR ?_
    refine sM ?_
    refine sM ?_
    refine SeqK.q (q_fieldL _ rfl Fx.fl82_2 rfl rfl) rfl rfl rfl ?_
    refine SeqK.r (b_load (r := .a _) rfl Fx.ty3 rfl rfl rfl rfl rfl rfl) rfl ?_
    refine SeqK.q (q_index _ rfl Fx.sl31 rfl rfl (by omega) (idx_map (f := rvT) ht)) rfl rfl rfl ?_
    refine SeqK.q (q_fieldP _ rfl Fx.fl42_2 rfl rfl) rfl rfl rfl ?_
    refine SeqK.q (q_load (.a _) rfl Fx.ty9 rfl rfl rfl) rfl rfl rfl ?_
    refine SeqK.q (q_lenS rfl Fx.un9 rfl) rfl rfl rfl ?_
    refine SeqK.q (q_buildSlice _ rfl Fx.el35 rfl (by decide) rfl) rfl rfl rfl ?_
    refine SeqK.app1 rfl (hkt) rfl Fx.el35 rfl rfl (by have h1 := len_i hzs; have h2 := hc.ax; simp; omega) rfl rfl (fun k38 hk38 => ?_)
    refine sA ?_
    refine SeqK.nil ?_
    refine AW.exit ?_
    refine eth_e ?_
    refine exit_here ?_
    refine AW.reg ?_
    refine SeqK.q (q_add _ rfl rfl rfl (w64 (by omega) (by omega))) rfl rfl rfl ?_
    refine sM ?_
    refine SeqK.nil ?_
    exact ⟨i + 1, _, Wk.keep 66 [(1, .c (rowC z r)), (4, .c (.a (.t (.v (.slice none 0 0))))), (5, .c (bC false)), (6, .c (.a (.ts (k38) .ne 1 (zs ++ [i64T ((((r[c.ax[i].t.toNat]'ht).s.size : Nat) : Int))])))), (13, .c (.a (.t (.sl .un 4 (c.ax.map axT))))), (14, iX .i64 (((c.ax.map axT).length : Nat) : Int)), (15, iX .i64 (((i + 1) : Nat) : Int))] [] (upd H (k38) (some (.tip 2 1 (zs ++ [i64T ((((r[c.ax[i].t.toNat]'ht).s.size : Nat) : Int))]).length))) rfl ⟨rfl, rfl, rfl, rfl, rfl, rfl, rfl, trivial⟩ trivial (fun _ _ h => h) rfl, by omega, k38, zs ++ [i64T ((((r[c.ax[i].t.toNat]'ht).s.size : Nat) : Int))], out ++ [(((r[c.ax[i].t.toNat]'ht).s.size : Nat) : Int)], ⟨hi, hk38, out_len hol, put_i hzs, by rw [← hI, auV_drop hi, if_pos h21, if_pos hk2, hat]⟩, rfl⟩
  ·
   refine AW.skip ?_
   refine AW.seq ?_
   have hk1 := (hA i hi).2 h21
   have hfl := hc.axf _ (List.getElem_mem hi)
   have hRa := hR _ (List.getElem_mem hi)
   refine AW.reg ?_
   refine SeqK.q (q_fieldL _ rfl Fx.fl82_0 rfl rfl) rfl rfl rfl ?_
   refine SeqK.r (b_load (r := .g [_, _]) rfl Fx.ty74 rfl rfl rfl rfl rfl rfl) rfl ?_
   refine sM ?_
   refine sM ?_
   refine SeqK.xw 43 rfl (XW.ts.trans (XW.es hzs)) ?_
   refine SeqK.q (q_call _ rfl Fx.fn26 rfl (compute_any _ r out z .un hr (by omega) hfl (hol ▸ hk1.2)) rfl) rfl rfl rfl ?_
   refine SeqK.q (q_mvT rfl rfl) rfl rfl rfl ?_
   refine SeqK.q (q_extract _ rfl rfl rfl) rfl rfl rfl ?_
   refine SeqK.q (q_extract _ rfl rfl rfl) rfl rfl rfl ?_
   refine sA ?_
   refine sA ?_
   refine SeqK.nil ?_
   refine AW.seq ?_
   refine sR ?_
   refine sM ?_
   refine SeqK.q (q_not rfl rfl) rfl rfl rfl ?_
   refine SeqK.nil ?_
   refine AW.cond _ rfl (fun h48 => ?_) (fun h48 => ?_)
   ·
    have hlf : ¬ (lfV r out c.ax[i].f).2 = true := by simpa using h48
    refine sR ?_
    refine sA ?_
    refine sA ?_
    refine SeqK.nil ?_
    refine AW.xw 4 rfl (XW.nilU (sz := 1)) ?_
    refine AW.ret ?_
    exact fin_x (x := .tup [_, _]) (H) (.tmp rfl (.tmp rfl .nil)) rfl (fun j o h => by show upd H _ _ j = _; rw [upd_ne _ _ (fun e => by subst e; simp_all)]; exact h) (⟨aue (l := []) (b := false) (by rw [← hI, auV_drop hi, if_neg h21, if_neg hlf]), rfl⟩)
   ·
    have hlf : (lfV r out c.ax[i].f).2 = true := by simpa using h48
    refine AW.skip ?_
    refine AW.seq ?_
    have hb1 := hk1.1.1
    have hq := tdiv_floor (a := (lfV r out c.ax[i].f).1) hb1
    have hm := tdiv_mul (a := (lfV r out c.ax[i].f).1) hb1
    have hd := tdiv_R (a := (lfV r out c.ax[i].f).1) hb1 (lfV_R hRa)
    refine AW.reg ?_
    refine sM ?_
    refine SeqK.q (q_fieldL _ rfl Fx.fl82_1 rfl rfl) rfl rfl rfl ?_
    refine SeqK.r (b_load (r := .a _) rfl Fx.ty2 rfl rfl rfl rfl rfl rfl) rfl ?_
    refine SeqK.q (q_quo _ rfl rfl rfl (by omega) (w64 (by omega) (by omega))) rfl rfl rfl ?_
    refine sA ?_
    refine SeqK.nil ?_
    refine AW.seq ?_
    refine sR ?_
    refine sM ?_
    refine SeqK.q (q_fieldL _ rfl Fx.fl82_1 rfl rfl) rfl rfl rfl ?_
    refine SeqK.r (b_load (r := .a _) rfl Fx.ty2 rfl rfl rfl rfl rfl rfl) rfl ?_
    refine SeqK.q (q_rem rfl rfl rfl (by omega)) rfl rfl rfl ?_
    refine SeqK.q (q_lss rfl rfl rfl) rfl rfl rfl ?_
    refine SeqK.nil ?_
    refine AW.condD rfl (fun h57 => ?_) (fun h57 => ?_)
    ·
     refine AW.reg ?_
     refine sM ?_
     refine SeqK.q (q_sub _ rfl rfl rfl (w64 (by omega) (by omega))) rfl rfl rfl ?_
     refine sA ?_
     refine SeqK.nil ?_
     refine AW.wk (Wk.keep 66 [(1, .c (rowC z r)), (4, .c (.a (.t (.v (.slice none 0 0))))), (5, .c (bC false)), (6, .c (.a (.ts kt .ne 1 zs))), (11, .c (iC ((lfV r out c.ax[i].f).1 / c.ax[i].b))), (13, .c (.a (.t (.sl .un 4 (c.ax.map axT))))), (14, iX .i64 (((c.ax.map axT).length : Nat) : Int)), (15, iX .i64 ((i : Nat) : Int))] [] (upd H kt (some (.tip 2 1 zs.length))) rfl ⟨rfl, rfl, rfl, rfl, by first | (rw [← hq.1 (by omega)]; rfl) | (rw [← hq.2 (by omega)]; rfl), rfl, rfl, rfl, trivial⟩ trivial (fun _ _ h => h) rfl) ?_
     refine AW.reg ?_
     refine sM ?_
     refine sM ?_
     refine SeqK.q (q_buildSlice _ rfl Fx.el35 rfl (by decide) rfl) rfl rfl rfl ?_
     refine SeqK.app1 rfl (hkt) rfl Fx.el35 rfl rfl (by have h1 := len_i hzs; have h2 := hc.ax; simp; omega) rfl rfl (fun k63 hk63 => ?_)
     refine sA ?_
     refine SeqK.nil ?_
     refine AW.reg ?_
     refine SeqK.q (q_add _ rfl rfl rfl (w64 (by omega) (by omega))) rfl rfl rfl ?_
     refine sM ?_
     refine SeqK.nil ?_
     exact ⟨i + 1, _, Wk.keep 66 [(1, .c (rowC z r)), (4, .c (.a (.t (.v (.slice none 0 0))))), (5, .c (bC false)), (6, .c (.a (.ts (k63) .ne 1 (zs ++ [i64T ((lfV r out c.ax[i].f).1 / c.ax[i].b)])))), (13, .c (.a (.t (.sl .un 4 (c.ax.map axT))))), (14, iX .i64 (((c.ax.map axT).length : Nat) : Int)), (15, iX .i64 (((i + 1) : Nat) : Int))] [] (upd H (k63) (some (.tip 2 1 (zs ++ [i64T ((lfV r out c.ax[i].f).1 / c.ax[i].b)]).length))) rfl ⟨rfl, rfl, rfl, rfl, rfl, rfl, rfl, trivial⟩ trivial (fun _ _ h => h) rfl, by omega, k63, zs ++ [i64T ((lfV r out c.ax[i].f).1 / c.ax[i].b)], out ++ [(lfV r out c.ax[i].f).1 / c.ax[i].b], ⟨hi, hk63, out_len hol, put_i hzs, by rw [← hI, auV_drop hi, if_neg h21, if_pos hlf]⟩, rfl⟩
    ·
     refine AW.skip ?_
     refine AW.wk (Wk.keep 66 [(1, .c (rowC z r)), (4, .c (.a (.t (.v (.slice none 0 0))))), (5, .c (bC false)), (6, .c (.a (.ts kt .ne 1 zs))), (11, .c (iC ((lfV r out c.ax[i].f).1 / c.ax[i].b))), (13, .c (.a (.t (.sl .un 4 (c.ax.map axT))))), (14, iX .i64 (((c.ax.map axT).length : Nat) : Int)), (15, iX .i64 ((i : Nat) : Int))] [] (upd H kt (some (.tip 2 1 zs.length))) rfl ⟨rfl, rfl, rfl, rfl, by first | (rw [← hq.1 (by omega)]; rfl) | (rw [← hq.2 (by omega)]; rfl), rfl, rfl, rfl, trivial⟩ trivial (fun _ _ h => h) rfl) ?_
     refine AW.reg ?_
     refine sM ?_
     refine sM ?_
     refine SeqK.q (q_buildSlice _ rfl Fx.el35 rfl (by decide) rfl) rfl rfl rfl ?_
     refine SeqK.app1 rfl (hkt) rfl Fx.el35 rfl rfl (by have h1 := len_i hzs; have h2 := hc.ax; simp; omega) rfl rfl (fun k63 hk63 => ?_)
     refine sA ?_
     refine SeqK.nil ?_
     refine AW.reg ?_
     refine SeqK.q (q_add _ rfl rfl rfl (w64 (by omega) (by omega))) rfl rfl rfl ?_
     refine sM ?_
     refine SeqK.nil ?_
     exact ⟨i + 1, _, Wk.keep 66 [(1, .c (rowC z r)), (4, .c (.a (.t (.v (.slice none 0 0))))), (5, .c (bC false)), (6, .c (.a (.ts (k63) .ne 1 (zs ++ [i64T ((lfV r out c.ax[i].f).1 / c.ax[i].b)])))), (13, .c (.a (.t (.sl .un 4 (c.ax.map axT))))), (14, iX .i64 (((c.ax.map axT).length : Nat) : Int)), (15, iX .i64 (((i + 1) : Nat) : Int))] [] (upd H (k63) (some (.tip 2 1 (zs ++ [i64T ((lfV r out c.ax[i].f).1 / c.ax[i].b)]).length))) rfl ⟨rfl, rfl, rfl, rfl, rfl, rfl, rfl, trivial⟩ trivial (fun _ _ h => h) rfl, by omega, k63, zs ++ [i64T ((lfV r out c.ax[i].f).1 / c.ax[i].b)], out ++ [(lfV r out c.ax[i].f).1 / c.ax[i].b], ⟨hi, hk63, out_len hol, put_i hzs, by rw [← hI, auV_drop hi, if_neg h21, if_pos hlf]⟩, rfl⟩
 ·
  refine AW.exit ?_
  refine eth_e ?_
  refine eth_e ?_
  refine exit_here ?_
  refine sR ?_
  refine sM ?_
  refine sA ?_
  refine sA ?_
  refine SeqK.nil ?_
  refine AW.xw 4 rfl (XW.ts.trans (XW.es hzs)) ?_
  refine AW.ret ?_
  exact fin_x (x := .tup [_, _]) (H) (.tmp rfl (.tmp rfl .nil)) rfl (fun j o h => by show upd H _ _ j = _; rw [upd_ne _ _ (fun e => by subst e; simp_all)]; exact h) (⟨aue (by rw [← hI, List.drop_eq_nil_of_le (by rw [List.length_map] at h16; omega), auV]), rfl⟩)

set_option maxHeartbeats 4000000 in
set_option maxRecDepth 20000 in
theorem raux_any (c : Cl) (r : List RV) (z : Nz) (hc : rgC c) (hr : r.length ≤ 17592186044000) (hs : ∀ v ∈ r, v.s.size ≤ 1000000000000000) (hA : okA c.ax r.length) (hR : ∀ a ∈ c.ax, R64 a.f.c) : Pure Try.prog 13 [clC c, rowC z r] (auC (auV r c.ax [])) := by
 intro H
 refine Spec.enter Try.func13 rfl ?_
 refine AW.wk (Wk.keep 61 [(0, .c (clC c)), (1, .c (rowC z r))] [] (H) rfl ⟨rfl, rfl, trivial⟩ trivial (fun _ _ h => h) rfl) ?_
 refine sR ?_
 refine SeqK.r (b_box (r := [_, _, _, _, _, _, _]) rfl rfl rfl rfl rfl rfl) rfl ?_
 refine sA ?_
 refine sA ?_
 refine SeqK.nil ?_
 refine AW.seq ?_
 have q1 := hc.ax
 refine AW.reg ?_
 refine sA ?_
 refine SeqK.nil ?_
 refine AW.seq ?_
 refine sR ?_
 refine sA ?_
 refine SeqK.nil ?_
 refine AW.block ?_
 refine AW.tip 6 2 1 rfl (fun k0 hk0 => ?_)
 refine AW.loop (fun (i : Nat) s => ∃ (kt : Nat) (zs : List (List E.T)) (out : List Int), (i ≤ c.ax.length ∧ H kt = none ∧ out.length = i ∧ zs = out.map i64T ∧ auV r (c.ax.drop i) out = auV r c.ax []) ∧ s = ⟨61, sp [(1, .c (rowC z r)), (2, .lp 2 0), (4, .c (.a (.t (.v (.slice none 0 0))))), (5, .c (bC false)), (6, .c (.a (.ts kt .ne 1 zs))), (7, iX .i64 ((i : Nat) : Int))], lv [(2, .box [.t (.sl .un 1 (c.nl.map i64T)), .t (.sl .un 1 (c.nn.map i64T)), .t (.sl .un 4 (c.ax.map axT)), .t (.sl .un 3 (c.is.map ctT)), .t (.sl .un 4 (c.ts.map tsT)), .t (.sl .un 2 (c.sm.map prT)), .t (.sl .un 2 (c.df.map prT))])], upd H kt (some (.tip 2 1 zs.length))⟩) (fun i => c.ax.length - i) 0 ⟨_, Wk.keep 61 [(1, .c (rowC z r)), (2, .lp 2 0), (4, .c (.a (.t (.v (.slice none 0 0))))), (5, .c (bC false)), (6, .c (.a (.ts (k0) .ne 1 ([])))), (7, iX .i64 ((((0 : Nat)) : Nat) : Int))] [(2, .box [.t (.sl .un 1 (c.nl.map i64T)), .t (.sl .un 1 (c.nn.map i64T)), .t (.sl .un 4 (c.ax.map axT)), .t (.sl .un 3 (c.is.map ctT)), .t (.sl .un 4 (c.ts.map tsT)), .t (.sl .un 2 (c.sm.map prT)), .t (.sl .un 2 (c.df.map prT))])] (upd H (k0) (some (.tip 2 1 ([]).length))) rfl ⟨rfl, rfl, rfl, rfl, rfl, rfl, trivial⟩ ⟨rfl, trivial⟩ (fun _ _ h => h) rfl, k0, [], [], ⟨Nat.zero_le _, hk0, rfl, rfl, rfl⟩, rfl⟩ (fun i s hs => ?_)
 obtain ⟨kt, zs, out, ⟨hi0, hkt, hol, hzs, hI⟩, rfl⟩ := hs
 refine AW.seq ?_
 refine sR ?_
 refine sM ?_
 refine SeqK.q (q_fieldL _ rfl Fx.fl28_2 rfl rfl) rfl rfl rfl ?_
 refine SeqK.r (b_load (r := .a _) rfl Fx.ty23 rfl rfl rfl rfl rfl rfl) rfl ?_
 refine SeqK.q (q_len rfl Fx.un23 rfl) rfl rfl rfl ?_
 refine SeqK.q (q_lss rfl rfl rfl) rfl rfl rfl ?_
 refine SeqK.nil ?_
 refine AW.condD rfl (fun h15 => ?_) (fun h15 => ?_)
 ·
  have hi : i < c.ax.length := by rw [List.length_map] at h15; omega
  refine AW.skip ?_
  refine AW.seq ?_
  refine AW.block ?_
  refine sR ?_
  refine SeqK.q (q_fieldL _ rfl Fx.fl28_2 rfl rfl) rfl rfl rfl ?_
  refine SeqK.r (b_load (r := .a _) rfl Fx.ty23 rfl rfl rfl rfl rfl rfl) rfl ?_
  refine sM ?_
  refine SeqK.q (q_index _ rfl Fx.sl23 rfl rfl (by omega) (idx_map (f := axT) hi)) rfl rfl rfl ?_
  refine SeqK.q (q_load (.g [_, _, _, _]) rfl Fx.ty82 rfl rfl rfl) rfl rfl rfl ?_
  refine SeqK.r (b_alloc (r := [_, _, _, _]) rfl rfl Fx.ze82 rfl rfl rfl rfl) rfl ?_
  refine SeqK.r (b_store (r := [_, _, _, _]) rfl rfl Fx.ty82 rfl rfl rfl rfl rfl rfl) rfl ?_
  refine SeqK.nil ?_
  refine AW.seq ?_
  refine sR ?_
  refine SeqK.q (q_fieldL _ rfl Fx.fl82_1 rfl rfl) rfl rfl rfl ?_
  refine SeqK.r (b_load (r := .a _) rfl Fx.ty2 rfl rfl rfl rfl rfl rfl) rfl ?_
  refine SeqK.q (q_eql rfl rfl rfl) rfl rfl rfl ?_
  refine SeqK.nil ?_
  refine AW.condD rfl (fun h25 => ?_) (fun h25 => ?_)
  ·
   refine AW.seq ?_
   refine AW.seq ?_
   have hk0 := (hA i hi).1 h25
   have ht : c.ax[i].t.toNat < r.length := by omega
   have hat := at_get ht
   refine AW.reg ?_
   refine sM ?_
   refine SeqK.q (q_fieldL _ rfl Fx.fl82_2 rfl rfl) rfl rfl rfl ?_
   refine SeqK.r (b_load (r := .a _) rfl Fx.ty3 rfl rfl rfl rfl rfl rfl) rfl ?_
   refine SeqK.q (q_index _ rfl Fx.sl31 rfl rfl (by omega) (idx_map (f := rvT) ht)) rfl rfl rfl ?_
   refine SeqK.q (q_fieldP _ rfl Fx.fl42_0 rfl rfl) rfl rfl rfl ?_
   refine SeqK.q (q_load (.a _) rfl Fx.ty3 rfl rfl rfl) rfl rfl rfl ?_
   refine SeqK.q (q_neq rfl rfl rfl) rfl rfl rfl ?_
   refine SeqK.nil ?_
   refine AW.condD rfl (fun h32 => ?_) (fun h32 => ?_)
   ·
    have hk2 : ¬ (at' r c.ax[i].t).k = 2 := by rw [hat]; exact h32
    refine sR ?_
    refine sA ?_
    refine sA ?_
    refine SeqK.nil ?_
    refine AW.xw 4 rfl (XW.nilU (sz := 1)) ?_
    refine AW.ret ?_
    exact fin_x (x := .tup [_, _]) (H) (.tmp rfl (.tmp rfl .nil)) rfl (fun j o h => by show upd H _ _ j = _; rw [upd_ne _ _ (fun e => by subst e; simp_all)]; exact h) (⟨aue (l := []) (b := false) (by rw [← hI, auV_drop hi, if_pos h25, if_neg hk2]), rfl⟩)
   ·
    have hk2 : (at' r c.ax[i].t).k = 2 := by rw [hat]; omega
    have hsz := hs _ (List.getElem_mem ht)
    refine AW.skip ?_
    refine sR ?_
    refine sM ?_
    refine sM ?_
    refine SeqK.q (q_fieldL _ rfl Fx.fl82_2 rfl rfl) rfl rfl rfl ?_
    refine SeqK.r (b_load (r := .a _) rfl Fx.ty3 rfl rfl rfl rfl rfl rfl) rfl ?_
    refine SeqK.q (q_index _ rfl Fx.sl31 rfl rfl (by omega) (idx_map (f := rvT) ht)) rfl rfl rfl ?_
    refine SeqK.q (q_fieldP _ rfl Fx.fl42_2 rfl rfl) rfl rfl rfl ?_
    refine SeqK.q (q_load (.a _) rfl Fx.ty9 rfl rfl rfl) rfl rfl rfl ?_
    refine SeqK.q (q_lenS rfl Fx.un9 rfl) rfl rfl rfl ?_
    refine SeqK.q (q_buildSlice _ rfl Fx.el35 rfl (by decide) rfl) rfl rfl rfl ?_
    refine SeqK.app1 rfl (hkt) rfl Fx.el35 rfl rfl (by have h1 := len_i hzs; have h2 := hc.ax; simp; omega) rfl rfl (fun k42 hk42 => ?_)
    refine sA ?_
    refine SeqK.nil ?_
    refine AW.exit ?_
    refine eth_e ?_
    refine exit_here ?_
    refine AW.reg ?_
    refine sM ?_
    refine SeqK.q (q_add _ rfl rfl rfl (w64 (by omega) (by omega))) rfl rfl rfl ?_
    refine sA ?_
    refine SeqK.nil ?_
    exact ⟨i + 1, _, Wk.keep 61 [(1, .c (rowC z r)), (2, .lp 2 0), (4, .c (.a (.t (.v (.slice none 0 0))))), (5, .c (bC false)), (6, .c (.a (.ts (k42) .ne 1 (zs ++ [i64T ((((r[c.ax[i].t.toNat]'ht).s.size : Nat) : Int))])))), (7, iX .i64 (((i + 1) : Nat) : Int))] [(2, .box [.t (.sl .un 1 (c.nl.map i64T)), .t (.sl .un 1 (c.nn.map i64T)), .t (.sl .un 4 (c.ax.map axT)), .t (.sl .un 3 (c.is.map ctT)), .t (.sl .un 4 (c.ts.map tsT)), .t (.sl .un 2 (c.sm.map prT)), .t (.sl .un 2 (c.df.map prT))])] (upd H (k42) (some (.tip 2 1 (zs ++ [i64T ((((r[c.ax[i].t.toNat]'ht).s.size : Nat) : Int))]).length))) rfl ⟨rfl, rfl, rfl, rfl, rfl, rfl, trivial⟩ ⟨rfl, trivial⟩ (fun _ _ h => h) rfl, by omega, k42, zs ++ [i64T ((((r[c.ax[i].t.toNat]'ht).s.size : Nat) : Int))], out ++ [(((r[c.ax[i].t.toNat]'ht).s.size : Nat) : Int)], ⟨hi, hk42, out_len hol, put_i hzs, by rw [← hI, auV_drop hi, if_pos h25, if_pos hk2, hat]⟩, rfl⟩
  ·
   refine AW.skip ?_
   refine AW.seq ?_
   have hk1 := (hA i hi).2 h25
   have hfl := hc.axf _ (List.getElem_mem hi)
   have hRa := hR _ (List.getElem_mem hi)
   refine AW.reg ?_
   refine SeqK.q (q_fieldL _ rfl Fx.fl82_0 rfl rfl) rfl rfl rfl ?_
   refine SeqK.r (b_load (r := .g [_, _]) rfl Fx.ty74 rfl rfl rfl rfl rfl rfl) rfl ?_
   refine sM ?_
   refine sM ?_
   refine SeqK.xw 47 rfl (XW.ts.trans (XW.es hzs)) ?_
   refine SeqK.q (q_call _ rfl Fx.fn28 rfl (rvalue_any _ r out z .un hr (by omega) hfl (hol ▸ hk1.2)) rfl) rfl rfl rfl ?_
   refine SeqK.q (q_mvT rfl rfl) rfl rfl rfl ?_
   refine SeqK.q (q_extract _ rfl rfl rfl) rfl rfl rfl ?_
   refine SeqK.q (q_extract _ rfl rfl rfl) rfl rfl rfl ?_
   refine sA ?_
   refine sA ?_
   refine SeqK.nil ?_
   refine AW.seq ?_
   refine sR ?_
   refine sM ?_
   refine SeqK.q (q_not rfl rfl) rfl rfl rfl ?_
   refine SeqK.nil ?_
   refine AW.cond _ rfl (fun h52 => ?_) (fun h52 => ?_)
   ·
    have hlf : ¬ (lfV r out c.ax[i].f).2 = true := by simpa using h52
    refine sR ?_
    refine sA ?_
    refine sA ?_
    refine SeqK.nil ?_
    refine AW.xw 4 rfl (XW.nilU (sz := 1)) ?_
    refine AW.ret ?_
    exact fin_x (x := .tup [_, _]) (H) (.tmp rfl (.tmp rfl .nil)) rfl (fun j o h => by show upd H _ _ j = _; rw [upd_ne _ _ (fun e => by subst e; simp_all)]; exact h) (⟨aue (l := []) (b := false) (by rw [← hI, auV_drop hi, if_neg h25, if_neg hlf]), rfl⟩)
   ·
    have hlf : (lfV r out c.ax[i].f).2 = true := by simpa using h52
    refine AW.skip ?_
    refine AW.reg ?_
    refine sM ?_
    refine sM ?_
    refine SeqK.q (q_fieldL _ rfl Fx.fl82_1 rfl rfl) rfl rfl rfl ?_
    refine SeqK.r (b_load (r := .a _) rfl Fx.ty2 rfl rfl rfl rfl rfl rfl) rfl ?_
    refine SeqK.q (q_call _ rfl Fx.fn30 rfl (rfloor_any _ _ (lfV_R hRa) hk1.1.1) rfl) rfl rfl rfl ?_
    refine SeqK.q (q_buildSlice _ rfl Fx.el35 rfl (by decide) rfl) rfl rfl rfl ?_
    refine SeqK.app1 rfl (hkt) rfl Fx.el35 rfl rfl (by have h1 := len_i hzs; have h2 := hc.ax; simp; omega) rfl rfl (fun k59 hk59 => ?_)
    refine sA ?_
    refine SeqK.nil ?_
    refine AW.reg ?_
    refine sM ?_
    refine SeqK.q (q_add _ rfl rfl rfl (w64 (by omega) (by omega))) rfl rfl rfl ?_
    refine sA ?_
    refine SeqK.nil ?_
    exact ⟨i + 1, _, Wk.keep 61 [(1, .c (rowC z r)), (2, .lp 2 0), (4, .c (.a (.t (.v (.slice none 0 0))))), (5, .c (bC false)), (6, .c (.a (.ts (k59) .ne 1 (zs ++ [i64T ((lfV r out c.ax[i].f).1 / c.ax[i].b)])))), (7, iX .i64 (((i + 1) : Nat) : Int))] [(2, .box [.t (.sl .un 1 (c.nl.map i64T)), .t (.sl .un 1 (c.nn.map i64T)), .t (.sl .un 4 (c.ax.map axT)), .t (.sl .un 3 (c.is.map ctT)), .t (.sl .un 4 (c.ts.map tsT)), .t (.sl .un 2 (c.sm.map prT)), .t (.sl .un 2 (c.df.map prT))])] (upd H (k59) (some (.tip 2 1 (zs ++ [i64T ((lfV r out c.ax[i].f).1 / c.ax[i].b)]).length))) rfl ⟨rfl, rfl, rfl, rfl, rfl, rfl, trivial⟩ ⟨rfl, trivial⟩ (fun _ _ h => h) rfl, by omega, k59, zs ++ [i64T ((lfV r out c.ax[i].f).1 / c.ax[i].b)], out ++ [(lfV r out c.ax[i].f).1 / c.ax[i].b], ⟨hi, hk59, out_len hol, put_i hzs, by rw [← hI, auV_drop hi, if_neg h25, if_pos hlf]⟩, rfl⟩
 ·
  refine AW.exit ?_
  refine eth_e ?_
  refine eth_e ?_
  refine exit_here ?_
  refine sR ?_
  refine sM ?_
  refine sA ?_
  refine sA ?_
  refine SeqK.nil ?_
  refine AW.xw 4 rfl (XW.ts.trans (XW.es hzs)) ?_
  refine AW.ret ?_
  exact fin_x (x := .tup [_, _]) (H) (.tmp rfl (.tmp rfl .nil)) rfl (fun j o h => by show upd H _ _ j = _; rw [upd_ne _ _ (fun e => by subst e; simp_all)]; exact h) (⟨aue (by rw [← hI, List.drop_eq_nil_of_le (by rw [List.length_map] at h15; omega), auV]), rfl⟩)

end Go.Proofs.Ytnmfjojhgfipcaa.W
namespace Go.Proofs.Ytnmfjojhgfipcaa.W
open Go.RowKit E
set_option linter.unusedVariables false
set_option linter.unusedSimpArgs false
set_option linter.unusedSectionVars false

theorem part42_0 (x0 : Int) (x1 : Int) (x2 : ByteArray) (w : World) : (part 3 #[.int .i64 x0, .int .i64 x1, .string x2] 0).run Try.prog w = .ok (.int .i64 x0) w := by kernel_rfl
theorem part42_1 (x0 : Int) (x1 : Int) (x2 : ByteArray) (w : World) : (part 2 #[.int .i64 x0, .int .i64 x1, .string x2] 1).run Try.prog w = .ok (.int .i64 x1) w := by kernel_rfl
theorem part42_2 (x0 : Int) (x1 : Int) (x2 : ByteArray) (w : World) : (part 9 #[.int .i64 x0, .int .i64 x1, .string x2] 2).run Try.prog w = .ok (.string x2) w := by kernel_rfl
theorem eq42 (x0 : Int) (x1 : Int) (x2 : ByteArray) (y0 : Int) (y1 : Int) (y2 : ByteArray) (w : World) : (Op.equalIn 10000 42 (.agg #[.int .i64 x0, .int .i64 x1, .string x2]) (.agg #[.int .i64 y0, .int .i64 y1, .string y2])).run Try.prog w = .ok (decide (x0 = y0) && decide (x1 = y1) && decide (x2 = y2)) w := by
  have e2 : ∀ (a b : Int), (Op.equalIn 9999 2 (.int .i64 a) (.int .i64 b)).run Try.prog w = .ok (a == b) w := fun a b => run_equalIn_int w 9998 2 .i64 .i64 _ _ Try.underlying2
  have e3 : ∀ (a b : Int), (Op.equalIn 9999 3 (.int .i64 a) (.int .i64 b)).run Try.prog w = .ok (a == b) w := fun a b => run_equalIn_int w 9998 3 .i64 .i64 _ _ Try.underlying3
  have e9 : ∀ (a b : ByteArray), (Op.equalIn 9999 9 (.string a) (.string b)).run Try.prog w = .ok (a.toList == b.toList) w := fun a b => run_equalIn_string w 9998 9 _ _ Try.underlying9
  rw [show (10000 : Nat) = 9999 + 1 from rfl, run_equalIn_agg w 9999 42 _ _ (by kernel_rfl) (by kernel_rfl)]
  simp only [Program.fieldsOf, Try.underlying42, Op.eqFields, Sem.run_bind, part42_0, part42_1, part42_2, e2, e3, e9, Result.andThen_ok, eqI, eqBt, eqBo]
  by_cases h0 : x0 = y0 <;> by_cases h1 : x1 = y1 <;> by_cases h2 : x2 = y2 <;> simp [Sem.run_bind, part42_0, part42_1, part42_2, e2, e3, e9, Result.andThen_ok, Result.andThen, eqI, eqBt, eqBo, h0, h1, h2]

theorem part80_0 (x0 : Int) (x1 : Int) (w : World) : (part 3 #[.int .i64 x0, .int .i64 x1] 0).run Try.prog w = .ok (.int .i64 x0) w := by kernel_rfl
theorem partm80_0 (x0 : Int) (x1 : Int) (w : World) : (part 3 #[.int .i64 x0, .int .i64 x1] (0 * 1)).run Try.prog w = .ok (.int .i64 x0) w := by kernel_rfl
theorem part80_1 (x0 : Int) (x1 : Int) (w : World) : (part 3 #[.int .i64 x0, .int .i64 x1] 1).run Try.prog w = .ok (.int .i64 x1) w := by kernel_rfl
theorem partm80_1 (x0 : Int) (x1 : Int) (w : World) : (part 3 #[.int .i64 x0, .int .i64 x1] (1 * 1)).run Try.prog w = .ok (.int .i64 x1) w := by kernel_rfl
theorem eq80 (x0 : Int) (x1 : Int) (y0 : Int) (y1 : Int) (w : World) : (Op.equalIn 10000 80 (.agg #[.int .i64 x0, .int .i64 x1]) (.agg #[.int .i64 y0, .int .i64 y1])).run Try.prog w = .ok (decide (x0 = y0) && decide (x1 = y1)) w := by
  have e3 : ∀ (a b : Int), (Op.equalIn 9999 3 (.int .i64 a) (.int .i64 b)).run Try.prog w = .ok (a == b) w := fun a b => run_equalIn_int w 9998 3 .i64 .i64 _ _ Try.underlying3
  have sz : (sizeOf 3).run Try.prog w = .ok 1 w := by kernel_rfl
  rw [show (10000 : Nat) = 9999 + 1 from rfl, Op.equalIn]
  simp only [Sem.run_bind, run_underlying Try.underlying80, Result.andThen_ok, sz]
  simp only [Std.Legacy.Range.forIn_eq_forIn_range', Std.Legacy.Range.size, Nat.sub_zero, Nat.add_sub_cancel, Nat.div_one, List.range'_succ, List.range'_zero, List.forIn_cons, List.forIn_nil, Sem.run_bind, part80_0, part80_1, partm80_0, partm80_1, e3, Result.andThen_ok, eqI, eqBt, eqBo]
  by_cases h0 : x0 = y0 <;> by_cases h1 : x1 = y1 <;> simp [Sem.run_bind, part80_0, part80_1, partm80_0, partm80_1, e3, Result.andThen_ok, Result.andThen, eqI, eqBt, eqBo, h0, h1]

theorem part106_0 (x0 : Int) (x1 : Int) (w : World) : (part 3 #[.int .i64 x0, .int .i64 x1] 0).run Try.prog w = .ok (.int .i64 x0) w := by kernel_rfl
theorem part106_1 (x0 : Int) (x1 : Int) (w : World) : (part 2 #[.int .i64 x0, .int .i64 x1] 1).run Try.prog w = .ok (.int .i64 x1) w := by kernel_rfl
theorem eq106 (x0 : Int) (x1 : Int) (y0 : Int) (y1 : Int) (w : World) : (Op.equalIn 10000 106 (.agg #[.int .i64 x0, .int .i64 x1]) (.agg #[.int .i64 y0, .int .i64 y1])).run Try.prog w = .ok (decide (x0 = y0) && decide (x1 = y1)) w := by
  have e2 : ∀ (a b : Int), (Op.equalIn 9999 2 (.int .i64 a) (.int .i64 b)).run Try.prog w = .ok (a == b) w := fun a b => run_equalIn_int w 9998 2 .i64 .i64 _ _ Try.underlying2
  have e3 : ∀ (a b : Int), (Op.equalIn 9999 3 (.int .i64 a) (.int .i64 b)).run Try.prog w = .ok (a == b) w := fun a b => run_equalIn_int w 9998 3 .i64 .i64 _ _ Try.underlying3
  rw [show (10000 : Nat) = 9999 + 1 from rfl, run_equalIn_agg w 9999 106 _ _ (by kernel_rfl) (by kernel_rfl)]
  simp only [Program.fieldsOf, Try.underlying106, Op.eqFields, Sem.run_bind, part106_0, part106_1, e2, e3, Result.andThen_ok, eqI, eqBt, eqBo]
  by_cases h0 : x0 = y0 <;> by_cases h1 : x1 = y1 <;> simp [Sem.run_bind, part106_0, part106_1, e2, e3, Result.andThen_ok, Result.andThen, eqI, eqBt, eqBo, h0, h1]

theorem part61_0 (x0 : Int) (x1 : Int) (x2 : Bool) (x3 : ByteArray) (w : World) : (part 3 #[.int .i64 x0, .int .i64 x1, .bool x2, .string x3] 0).run Try.prog w = .ok (.int .i64 x0) w := by kernel_rfl
theorem part61_1 (x0 : Int) (x1 : Int) (x2 : Bool) (x3 : ByteArray) (w : World) : (part 3 #[.int .i64 x0, .int .i64 x1, .bool x2, .string x3] 1).run Try.prog w = .ok (.int .i64 x1) w := by kernel_rfl
theorem part61_2 (x0 : Int) (x1 : Int) (x2 : Bool) (x3 : ByteArray) (w : World) : (part 4 #[.int .i64 x0, .int .i64 x1, .bool x2, .string x3] 2).run Try.prog w = .ok (.bool x2) w := by kernel_rfl
theorem part61_3 (x0 : Int) (x1 : Int) (x2 : Bool) (x3 : ByteArray) (w : World) : (part 9 #[.int .i64 x0, .int .i64 x1, .bool x2, .string x3] 3).run Try.prog w = .ok (.string x3) w := by kernel_rfl
theorem eq61 (x0 : Int) (x1 : Int) (x2 : Bool) (x3 : ByteArray) (y0 : Int) (y1 : Int) (y2 : Bool) (y3 : ByteArray) (w : World) : (Op.equalIn 10000 61 (.agg #[.int .i64 x0, .int .i64 x1, .bool x2, .string x3]) (.agg #[.int .i64 y0, .int .i64 y1, .bool y2, .string y3])).run Try.prog w = .ok (decide (x0 = y0) && decide (x1 = y1) && decide (x2 = y2) && decide (x3 = y3)) w := by
  have e3 : ∀ (a b : Int), (Op.equalIn 9999 3 (.int .i64 a) (.int .i64 b)).run Try.prog w = .ok (a == b) w := fun a b => run_equalIn_int w 9998 3 .i64 .i64 _ _ Try.underlying3
  have e4 : ∀ (a b : Bool), (Op.equalIn 9999 4 (.bool a) (.bool b)).run Try.prog w = .ok (a == b) w := fun a b => run_equalIn_bool' w 9998 4 _ _ Try.underlying4
  have e9 : ∀ (a b : ByteArray), (Op.equalIn 9999 9 (.string a) (.string b)).run Try.prog w = .ok (a.toList == b.toList) w := fun a b => run_equalIn_string w 9998 9 _ _ Try.underlying9
  rw [show (10000 : Nat) = 9999 + 1 from rfl, run_equalIn_agg w 9999 61 _ _ (by kernel_rfl) (by kernel_rfl)]
  simp only [Program.fieldsOf, Try.underlying61, Op.eqFields, Sem.run_bind, part61_0, part61_1, part61_2, part61_3, e3, e4, e9, Result.andThen_ok, eqI, eqBt, eqBo]
  by_cases h0 : x0 = y0 <;> by_cases h1 : x1 = y1 <;> by_cases h2 : x2 = y2 <;> by_cases h3 : x3 = y3 <;> simp [Sem.run_bind, part61_0, part61_1, part61_2, part61_3, e3, e4, e9, Result.andThen_ok, Result.andThen, eqI, eqBt, eqBo, h0, h1, h2, h3]

end Go.Proofs.Ytnmfjojhgfipcaa.W
namespace Go.Proofs.Ytnmfjojhgfipcaa.W
open Go.RowKit E
set_option linter.unusedVariables false
set_option linter.unusedSimpArgs false
set_option linter.unusedSectionVars false
/-! whether a clause holds -/
def likeL : List UInt8 → List UInt8 → Bool
  | [], [] => true
  | _ :: _, [] => false
  | s, c :: p => if c = 37 then (List.range (s.length + 1)).any (fun i => likeL (s.drop i) p)
    else match s with
      | [] => false
      | x :: s' => (decide (c = 95) || decide (c = x)) && likeL s' p
termination_by _ p => p.length
/-- whether a text passes a test, but for the sign -/
def psB (t : Ts) (u : ByteArray) : Bool := if t.k = 0 then decide (u = t.s) else if t.k = 1 then likeL u.data.toList t.s.data.toList else if t.k = 2 then strLt u t.s else strLt u t.s || decide (u = t.s)
/-- the variables of a clause stand in the row -/
structure okC (c : Cl) (r : List RV) : Prop where
  nl : ∀ j (h : j < c.nl.length), 0 ≤ c.nl[j] ∧ c.nl[j] < r.length
  nn : ∀ j (h : j < c.nn.length), 0 ≤ c.nn[j] ∧ c.nn[j] < r.length
  ax : okA c.ax r.length
  is : ∀ j (h : j < c.is.length), okF c.is[j].f (r.length + c.ax.length)
  ts : ∀ j (h : j < c.ts.length), 0 ≤ c.ts[j].v ∧ c.ts[j].v < r.length
  sm : ∀ j (h : j < c.sm.length), (0 ≤ c.sm[j].1 ∧ c.sm[j].1 < r.length) ∧ 0 ≤ c.sm[j].2 ∧ c.sm[j].2 < r.length
  df : ∀ j (h : j < c.df.length), (0 ≤ c.df[j].1 ∧ c.df[j].1 < r.length) ∧ 0 ≤ c.df[j].2 ∧ c.df[j].2 < r.length
  cR : ∀ a ∈ c.ax, R64 a.f.c
  iR : ∀ a ∈ c.is, R64 a.f.c
theorem auV_len {r : List RV} : ∀ {l : List Ax} {out : List Int}, (auV r l out).2 = true → (auV r l out).1.length = out.length + l.length
  | [], out, _ => by rw [auV]; rfl
  | a :: l, out, h => by
    rw [auV] at h ⊢
    split
    · rename_i h0
      rw [if_pos h0] at h
      split
      · rename_i h1
        rw [if_pos h1] at h
        rw [auV_len h]; simp; omega
      · rename_i h1
        rw [if_neg h1] at h; cases h
    · rename_i h0
      rw [if_neg h0] at h
      split
      · rename_i h1
        rw [if_pos h1] at h
        rw [auV_len h]; simp; omega
      · rename_i h1
        rw [if_neg h1] at h; cases h
abbrev inQ (r : List RV) (au : List Int) (k : Ct) : Prop := (lfV r au k.f).2 = true ∧ (lfV r au k.f).1 ≤ 0 ∧ (k.e = true → (lfV r au k.f).1 = 0)
abbrev tsQ (r : List RV) (t : Ts) : Prop := (at' r t.v).k = 2 ∧ psB t (at' r t.v).s ≠ t.n
abbrev smQ (r : List RV) (p : Int × Int) : Prop := (at' r p.1).k = 2 ∧ (at' r p.2).k = 2 ∧ (at' r p.1).s = (at' r p.2).s
abbrev dfQ (r : List RV) (p : Int × Int) : Prop := (at' r p.1).k = 2 ∧ (at' r p.2).k = 2 ∧ (at' r p.1).s ≠ (at' r p.2).s
abbrev holP (c : Cl) (r : List RV) : Prop :=
  (∀ j (h : j < c.nl.length), (at' r c.nl[j]).k = 0) ∧ (∀ j (h : j < c.nn.length), (at' r c.nn[j]).k ≠ 0) ∧ (auV r c.ax []).2 = true ∧ (∀ j (h : j < c.is.length), inQ r (auV r c.ax []).1 c.is[j]) ∧
  (∀ j (h : j < c.ts.length), tsQ r c.ts[j]) ∧ (∀ j (h : j < c.sm.length), smQ r c.sm[j]) ∧ (∀ j (h : j < c.df.length), dfQ r c.df[j])

set_option maxHeartbeats 16000000 in
set_option maxRecDepth 20000 in
theorem holds_any (c : Cl) (r : List RV) (z : Nz) (hc : rgC c) (hr : r.length ≤ 17592186044000) (hs : ∀ v ∈ r, v.s.size ≤ 1000000000000000) (hok : okC c r) (hps : ∀ t ∈ c.ts, ∀ u : ByteArray, u.size ≤ 1000000000000000 → Pure Try.prog 27 [tsC t, sC u] (.c (bC (psB t u)))) : Pure Try.prog 10 [clC c, rowC z r] (.c (bC (decide (holP c r)))) := by
 intro H
 refine Spec.enter Try.func10 rfl ?_
 refine AW.wk (Wk.keep 193 [(0, .c (clC c)), (1, .c (rowC z r))] [] (H) rfl ⟨rfl, rfl, trivial⟩ trivial (fun _ _ h => h) rfl) ?_
 refine sR ?_
 refine SeqK.r (b_box (r := [_, _, _, _, _, _, _]) rfl rfl rfl rfl rfl rfl) rfl ?_
 refine sA ?_
 refine SeqK.nil ?_
 refine AW.seq ?_
 refine AW.seq ?_
 have q1 := hc.nl
 have q2 := hc.nn
 have q3 := hc.ax
 have q4 := hc.is
 have q5 := hc.ts
 have q6 := hc.sm
 have q7 := hc.df
 refine AW.reg ?_
 refine SeqK.q (q_fieldL _ rfl Fx.fl28_0 rfl rfl) rfl rfl rfl ?_
 refine SeqK.r (b_load (r := .a _) rfl Fx.ty22 rfl rfl rfl rfl rfl rfl) rfl ?_
 refine SeqK.q (q_len rfl Fx.un22 rfl) rfl rfl rfl ?_
 refine sM ?_
 refine SeqK.nil ?_
 refine AW.block ?_
 refine AW.loop (fun (i : Nat) s => (i ≤ c.nl.length ∧ ∀ j (h : j < c.nl.length), j < i → (at' r c.nl[j]).k = 0) ∧ s = ⟨193, sp [(1, .c (rowC z r)), (2, .lp 2 0), (4, .c (bC false)), (22, .c (.a (.t (.sl .un 1 (c.nl.map i64T))))), (23, iX .i64 (((c.nl.map i64T).length : Nat) : Int)), (24, iX .i64 ((i : Nat) : Int))], lv [(2, .box [.t (.sl .un 1 (c.nl.map i64T)), .t (.sl .un 1 (c.nn.map i64T)), .t (.sl .un 4 (c.ax.map axT)), .t (.sl .un 3 (c.is.map ctT)), .t (.sl .un 4 (c.ts.map tsT)), .t (.sl .un 2 (c.sm.map prT)), .t (.sl .un 2 (c.df.map prT))])], H⟩) (fun i => c.nl.length - i) 0 ⟨_, Wk.keep 193 [(1, .c (rowC z r)), (2, .lp 2 0), (4, .c (bC false)), (22, .c (.a (.t (.sl .un 1 (c.nl.map i64T))))), (23, iX .i64 (((c.nl.map i64T).length : Nat) : Int)), (24, iX .i64 ((((0 : Nat)) : Nat) : Int))] [(2, .box [.t (.sl .un 1 (c.nl.map i64T)), .t (.sl .un 1 (c.nn.map i64T)), .t (.sl .un 4 (c.ax.map axT)), .t (.sl .un 3 (c.is.map ctT)), .t (.sl .un 4 (c.ts.map tsT)), .t (.sl .un 2 (c.sm.map prT)), .t (.sl .un 2 (c.df.map prT))])] (H) rfl ⟨rfl, rfl, rfl, rfl, rfl, rfl, trivial⟩ ⟨rfl, trivial⟩ (fun _ _ h => h) rfl, ⟨Nat.zero_le _, up0⟩, rfl⟩ (fun i s hs => ?_)
 obtain ⟨⟨hi0, hU⟩, rfl⟩ := hs
 refine sR ?_
 refine SeqK.q (q_lss rfl rfl rfl) rfl rfl rfl ?_
 refine SeqK.nil ?_
 refine AW.seq ?_
 refine AW.condD rfl (fun h25 => ?_) (fun h25 => ?_)
 ·
  have hi : i < c.nl.length := by rw [List.length_map] at h25; omega
  have h0 := hok.nl i hi
  have ht : (c.nl[i]).toNat < r.length := by omega
  have ha := at_get ht
  refine AW.skip ?_
  refine AW.seq ?_
  refine AW.block ?_
  refine sR ?_
  refine SeqK.q (q_index _ rfl Fx.sl22 rfl rfl (by omega) (idx_map (f := i64T) hi)) rfl rfl rfl ?_
  refine SeqK.q (q_load (.a _) rfl Fx.ty3 rfl rfl rfl) rfl rfl rfl ?_
  refine sA ?_
  refine SeqK.nil ?_
  refine sR ?_
  refine sM ?_
  refine sM ?_
  refine SeqK.q (q_index _ rfl Fx.sl31 rfl rfl (by omega) (idx_map (f := rvT) ht)) rfl rfl rfl ?_
  refine SeqK.q (q_fieldP _ rfl Fx.fl42_0 rfl rfl) rfl rfl rfl ?_
  refine SeqK.q (q_load (.a _) rfl Fx.ty3 rfl rfl rfl) rfl rfl rfl ?_
  refine SeqK.q (q_neq rfl rfl rfl) rfl rfl rfl ?_
  refine SeqK.nil ?_
  refine AW.condD rfl (fun h33 => ?_) (fun h33 => ?_)
  ·
   refine sR ?_
   refine sA ?_
   refine SeqK.nil ?_
   refine AW.ret ?_
   exact fin_x (x := .c _) (H) (.tmp rfl .nil) rfl (fun _ _ h => h) (⟨bCe (dF (fun h => by have := h.1 i hi; rw [ha] at this; omega)), rfl⟩)
  ·
   refine AW.skip ?_
   refine AW.reg ?_
   refine SeqK.q (q_add _ rfl rfl rfl (w64 (by omega) (by omega))) rfl rfl rfl ?_
   refine sM ?_
   refine SeqK.nil ?_
   exact ⟨i + 1, _, Wk.keep 193 [(1, .c (rowC z r)), (2, .lp 2 0), (4, .c (bC false)), (22, .c (.a (.t (.sl .un 1 (c.nl.map i64T))))), (23, iX .i64 (((c.nl.map i64T).length : Nat) : Int)), (24, iX .i64 (((i + 1) : Nat) : Int))] [(2, .box [.t (.sl .un 1 (c.nl.map i64T)), .t (.sl .un 1 (c.nn.map i64T)), .t (.sl .un 4 (c.ax.map axT)), .t (.sl .un 3 (c.is.map ctT)), .t (.sl .un 4 (c.ts.map tsT)), .t (.sl .un 2 (c.sm.map prT)), .t (.sl .un 2 (c.df.map prT))])] (H) rfl ⟨rfl, rfl, rfl, rfl, rfl, rfl, trivial⟩ ⟨rfl, trivial⟩ (fun _ _ h => h) rfl, by omega, ⟨hi, upS hi hU (by rw [ha]; omega)⟩, rfl⟩
 ·
  refine AW.exit ?_
  refine eth_e ?_
  refine eth_e ?_
  refine exit_here ?_
  refine AW.seq ?_
  refine AW.seq ?_
  have hA := upE hU (by rw [List.length_map] at h25; omega)
  refine AW.reg ?_
  refine SeqK.q (q_fieldL _ rfl Fx.fl28_1 rfl rfl) rfl rfl rfl ?_
  refine SeqK.r (b_load (r := .a _) rfl Fx.ty22 rfl rfl rfl rfl rfl rfl) rfl ?_
  refine SeqK.q (q_len rfl Fx.un22 rfl) rfl rfl rfl ?_
  refine sM ?_
  refine SeqK.nil ?_
  refine AW.block ?_
  refine AW.loop (fun (i : Nat) s => (i ≤ c.nn.length ∧ ∀ j (h : j < c.nn.length), j < i → (at' r c.nn[j]).k ≠ 0) ∧ s = ⟨193, sp [(1, .c (rowC z r)), (2, .lp 2 0), (4, .c (bC false)), (36, .c (.a (.t (.sl .un 1 (c.nn.map i64T))))), (37, iX .i64 (((c.nn.map i64T).length : Nat) : Int)), (38, iX .i64 ((i : Nat) : Int))], lv [(2, .box [.t (.sl .un 1 (c.nl.map i64T)), .t (.sl .un 1 (c.nn.map i64T)), .t (.sl .un 4 (c.ax.map axT)), .t (.sl .un 3 (c.is.map ctT)), .t (.sl .un 4 (c.ts.map tsT)), .t (.sl .un 2 (c.sm.map prT)), .t (.sl .un 2 (c.df.map prT))])], H⟩) (fun i => c.nn.length - i) 0 ⟨_, Wk.keep 193 [(1, .c (rowC z r)), (2, .lp 2 0), (4, .c (bC false)), (36, .c (.a (.t (.sl .un 1 (c.nn.map i64T))))), (37, iX .i64 (((c.nn.map i64T).length : Nat) : Int)), (38, iX .i64 ((((0 : Nat)) : Nat) : Int))] [(2, .box [.t (.sl .un 1 (c.nl.map i64T)), .t (.sl .un 1 (c.nn.map i64T)), .t (.sl .un 4 (c.ax.map axT)), .t (.sl .un 3 (c.is.map ctT)), .t (.sl .un 4 (c.ts.map tsT)), .t (.sl .un 2 (c.sm.map prT)), .t (.sl .un 2 (c.df.map prT))])] (H) rfl ⟨rfl, rfl, rfl, rfl, rfl, rfl, trivial⟩ ⟨rfl, trivial⟩ (fun _ _ h => h) rfl, ⟨Nat.zero_le _, up0⟩, rfl⟩ (fun i s hs => ?_)
  obtain ⟨⟨hi0, hU2⟩, rfl⟩ := hs
  refine sR ?_
  refine SeqK.q (q_lss rfl rfl rfl) rfl rfl rfl ?_
  refine SeqK.nil ?_
  refine AW.seq ?_
  refine AW.condD rfl (fun h39 => ?_) (fun h39 => ?_)
  ·
   have hi : i < c.nn.length := by rw [List.length_map] at h39; omega
   have h0 := hok.nn i hi
   have ht : (c.nn[i]).toNat < r.length := by omega
   have ha := at_get ht
   refine AW.skip ?_
   refine AW.seq ?_
   refine AW.block ?_
   refine sR ?_
   refine SeqK.q (q_index _ rfl Fx.sl22 rfl rfl (by omega) (idx_map (f := i64T) hi)) rfl rfl rfl ?_
   refine SeqK.q (q_load (.a _) rfl Fx.ty3 rfl rfl rfl) rfl rfl rfl ?_
   refine sA ?_
   refine SeqK.nil ?_
   refine sR ?_
   refine sM ?_
   refine sM ?_
   refine SeqK.q (q_index _ rfl Fx.sl31 rfl rfl (by omega) (idx_map (f := rvT) ht)) rfl rfl rfl ?_
   refine SeqK.q (q_fieldP _ rfl Fx.fl42_0 rfl rfl) rfl rfl rfl ?_
   refine SeqK.q (q_load (.a _) rfl Fx.ty3 rfl rfl rfl) rfl rfl rfl ?_
   refine SeqK.q (q_eql rfl rfl rfl) rfl rfl rfl ?_
   refine SeqK.nil ?_
   refine AW.condD rfl (fun h47 => ?_) (fun h47 => ?_)
   ·
    refine sR ?_
    refine sA ?_
    refine SeqK.nil ?_
    refine AW.ret ?_
    exact fin_x (x := .c _) (H) (.tmp rfl .nil) rfl (fun _ _ h => h) (⟨bCe (dF (fun h => by have := h.2.1 i hi; rw [ha] at this; omega)), rfl⟩)
   ·
    refine AW.skip ?_
    refine AW.reg ?_
    refine SeqK.q (q_add _ rfl rfl rfl (w64 (by omega) (by omega))) rfl rfl rfl ?_
    refine sM ?_
    refine SeqK.nil ?_
    exact ⟨i + 1, _, Wk.keep 193 [(1, .c (rowC z r)), (2, .lp 2 0), (4, .c (bC false)), (36, .c (.a (.t (.sl .un 1 (c.nn.map i64T))))), (37, iX .i64 (((c.nn.map i64T).length : Nat) : Int)), (38, iX .i64 (((i + 1) : Nat) : Int))] [(2, .box [.t (.sl .un 1 (c.nl.map i64T)), .t (.sl .un 1 (c.nn.map i64T)), .t (.sl .un 4 (c.ax.map axT)), .t (.sl .un 3 (c.is.map ctT)), .t (.sl .un 4 (c.ts.map tsT)), .t (.sl .un 2 (c.sm.map prT)), .t (.sl .un 2 (c.df.map prT))])] (H) rfl ⟨rfl, rfl, rfl, rfl, rfl, rfl, trivial⟩ ⟨rfl, trivial⟩ (fun _ _ h => h) rfl, by omega, ⟨hi, upS hi hU2 (by rw [ha]; omega)⟩, rfl⟩
  ·
   refine AW.exit ?_
   refine eth_e ?_
   refine eth_e ?_
   refine exit_here ?_
   refine AW.seq ?_
   have hB := upE hU2 (by rw [List.length_map] at h39; omega)
   refine AW.reg ?_
   refine SeqK.r (b_load (r := .g [_, _, _, _, _, _, _]) rfl Fx.ty28 rfl rfl rfl rfl rfl rfl) rfl ?_
   refine sM ?_
   refine SeqK.q (q_call _ rfl Fx.fn12 rfl (aux_any c r z hc hr hs hok.ax hok.cR) rfl) rfl rfl rfl ?_
   refine SeqK.q (q_mvT rfl rfl) rfl rfl rfl ?_
   refine SeqK.q (q_extract _ rfl rfl rfl) rfl rfl rfl ?_
   refine SeqK.q (q_extract _ rfl rfl rfl) rfl rfl rfl ?_
   refine sA ?_
   refine sA ?_
   refine SeqK.nil ?_
   refine AW.seq ?_
   refine sR ?_
   refine sM ?_
   refine SeqK.q (q_not rfl rfl) rfl rfl rfl ?_
   refine SeqK.nil ?_
   refine AW.cond _ rfl (fun h56 => ?_) (fun h56 => ?_)
   ·
    refine sR ?_
    refine sA ?_
    refine SeqK.nil ?_
    refine AW.ret ?_
    exact fin_x (x := .c _) (H) (.tmp rfl .nil) rfl (fun _ _ h => h) (⟨bCe (dF (fun h => by have := h.2.2.1; simp_all)), rfl⟩)
   ·
    refine AW.skip ?_
    refine AW.seq ?_
    refine AW.seq ?_
    have hau : (auV r c.ax []).2 = true := by simpa using h56
    have hal : (auV r c.ax []).1.length = c.ax.length := by have := auV_len hau; simpa using this
    refine AW.reg ?_
    refine SeqK.q (q_fieldL _ rfl Fx.fl28_3 rfl rfl) rfl rfl rfl ?_
    refine SeqK.r (b_load (r := .a _) rfl Fx.ty24 rfl rfl rfl rfl rfl rfl) rfl ?_
    refine SeqK.q (q_len rfl Fx.un24 rfl) rfl rfl rfl ?_
    refine sM ?_
    refine SeqK.nil ?_
    refine AW.block ?_
    refine AW.loop (fun (i : Nat) s => (i ≤ c.is.length ∧ ∀ j (h : j < c.is.length), j < i → inQ r (auV r c.ax []).1 c.is[j]) ∧ s = ⟨193, sp [(1, .c (rowC z r)), (2, .lp 2 0), (4, .c (bC false)), (9, .c (iL .un (auV r c.ax []).1)), (58, .c (.a (.t (.sl .un 3 (c.is.map ctT))))), (59, iX .i64 (((c.is.map ctT).length : Nat) : Int)), (60, iX .i64 ((i : Nat) : Int))], lv [(2, .box [.t (.sl .un 1 (c.nl.map i64T)), .t (.sl .un 1 (c.nn.map i64T)), .t (.sl .un 4 (c.ax.map axT)), .t (.sl .un 3 (c.is.map ctT)), .t (.sl .un 4 (c.ts.map tsT)), .t (.sl .un 2 (c.sm.map prT)), .t (.sl .un 2 (c.df.map prT))])], H⟩) (fun i => c.is.length - i) 0 ⟨_, Wk.keep 193 [(1, .c (rowC z r)), (2, .lp 2 0), (4, .c (bC false)), (9, .c (iL .un (auV r c.ax []).1)), (58, .c (.a (.t (.sl .un 3 (c.is.map ctT))))), (59, iX .i64 (((c.is.map ctT).length : Nat) : Int)), (60, iX .i64 ((((0 : Nat)) : Nat) : Int))] [(2, .box [.t (.sl .un 1 (c.nl.map i64T)), .t (.sl .un 1 (c.nn.map i64T)), .t (.sl .un 4 (c.ax.map axT)), .t (.sl .un 3 (c.is.map ctT)), .t (.sl .un 4 (c.ts.map tsT)), .t (.sl .un 2 (c.sm.map prT)), .t (.sl .un 2 (c.df.map prT))])] (H) rfl ⟨rfl, rfl, rfl, rfl, rfl, rfl, rfl, trivial⟩ ⟨rfl, trivial⟩ (fun _ _ h => h) rfl, ⟨Nat.zero_le _, up0⟩, rfl⟩ (fun i s hs => ?_)
    obtain ⟨⟨hi0, hU3⟩, rfl⟩ := hs
    refine sR ?_
    refine SeqK.q (q_lss rfl rfl rfl) rfl rfl rfl ?_
    refine SeqK.nil ?_
    refine AW.seq ?_
    refine AW.condD rfl (fun h61 => ?_) (fun h61 => ?_)
    ·
     have hi : i < c.is.length := by rw [List.length_map] at h61; omega
     have hfl := hc.isf _ (List.getElem_mem hi)
     have hfi := hok.is i hi
     rw [← hal] at hfi
     refine AW.skip ?_
     refine AW.seq ?_
     refine AW.block ?_
     refine sR ?_
     refine SeqK.q (q_index _ rfl Fx.sl24 rfl rfl (by omega) (idx_map (f := ctT) hi)) rfl rfl rfl ?_
     refine SeqK.q (q_load (.g [_, _, _]) rfl Fx.ty76 rfl rfl rfl) rfl rfl rfl ?_
     refine SeqK.r (b_alloc (r := [_, _, _]) rfl rfl Fx.ze76 rfl rfl rfl rfl) rfl ?_
     refine SeqK.r (b_store (r := [_, _, _]) rfl rfl Fx.ty76 rfl rfl rfl rfl rfl rfl) rfl ?_
     refine SeqK.nil ?_
     refine sR ?_
     refine SeqK.q (q_fieldL _ rfl Fx.fl76_0 rfl rfl) rfl rfl rfl ?_
     refine SeqK.r (b_load (r := .g [_, _]) rfl Fx.ty74 rfl rfl rfl rfl rfl rfl) rfl ?_
     refine sM ?_
     refine sM ?_
     refine SeqK.q (q_call _ rfl Fx.fn26 rfl (compute_any _ r _ z .un hr (by omega) hfl hfi) rfl) rfl rfl rfl ?_
     refine SeqK.q (q_mvT rfl rfl) rfl rfl rfl ?_
     refine SeqK.q (q_extract _ rfl rfl rfl) rfl rfl rfl ?_
     refine SeqK.q (q_extract _ rfl rfl rfl) rfl rfl rfl ?_
     refine sA ?_
     refine sA ?_
     refine SeqK.nil ?_
     refine sR ?_
     refine sM ?_
     refine SeqK.q (q_not rfl rfl) rfl rfl rfl ?_
     refine SeqK.qB (q_mvC rfl rfl) rfl rfl rfl (fun g74 => ?_) (fun g74 => ?_)
     ·
      refine SeqK.off rfl rfl rfl rfl rfl rfl ?_
      refine SeqK.off rfl rfl rfl rfl rfl rfl ?_
      refine SeqK.q (q_pkT rfl rfl rfl) rfl rfl rfl ?_
      refine sM ?_
      refine SeqK.off rfl rfl rfl rfl rfl rfl ?_
      refine SeqK.off rfl rfl rfl rfl rfl rfl ?_
      refine SeqK.off rfl rfl rfl rfl rfl rfl ?_
      refine SeqK.offU rfl rfl rfl rfl rfl ?_
      refine SeqK.offU rfl rfl rfl rfl rfl ?_
      refine SeqK.off rfl rfl rfl rfl rfl rfl ?_
      refine SeqK.q (q_pkT rfl rfl rfl) rfl rfl rfl ?_
      refine SeqK.nil ?_
      refine AW.condT rfl ?_
      refine sR ?_
      refine sA ?_
      refine SeqK.nil ?_
      refine AW.ret ?_
      exact fin_x (x := .c _) (H) (.tmp rfl .nil) rfl (fun _ _ h => h) (⟨bCe (dF (fun h => by obtain ⟨k1, k2, k3⟩ := h.2.2.2.1 i hi; first | omega | simp_all)), rfl⟩)
     ·
      refine SeqK.on (q_mvC rfl rfl) rfl rfl rfl rfl rfl ?_
      refine SeqK.on (q_gtr rfl rfl rfl) rfl rfl rfl rfl rfl ?_
      refine SeqK.q (q_pkF rfl rfl rfl) rfl rfl rfl ?_
      refine SeqK.qD (q_mvC rfl rfl) rfl rfl rfl (fun g78 => ?_) (fun g78 => ?_)
      ·
       refine SeqK.off rfl rfl rfl rfl rfl rfl ?_
       refine SeqK.off rfl rfl rfl rfl rfl rfl ?_
       refine SeqK.off rfl rfl rfl rfl rfl rfl ?_
       refine SeqK.offU rfl rfl rfl rfl rfl ?_
       refine SeqK.offU rfl rfl rfl rfl rfl ?_
       refine SeqK.off rfl rfl rfl rfl rfl rfl ?_
       refine SeqK.q (q_pkT rfl rfl rfl) rfl rfl rfl ?_
       refine SeqK.nil ?_
       refine AW.condT rfl ?_
       refine sR ?_
       refine sA ?_
       refine SeqK.nil ?_
       refine AW.ret ?_
       exact fin_x (x := .c _) (H) (.tmp rfl .nil) rfl (fun _ _ h => h) (⟨bCe (dF (fun h => by obtain ⟨k1, k2, k3⟩ := h.2.2.2.1 i hi; first | omega | simp_all)), rfl⟩)
      ·
       refine SeqK.on (q_fieldL _ rfl Fx.fl76_1 rfl rfl) rfl rfl rfl rfl rfl ?_
       refine SeqK.rOn (b_load (r := .a _) rfl Fx.ty4 rfl rfl rfl rfl rfl rfl) rfl rfl rfl ?_
       refine SeqK.onB (q_mvC rfl rfl) rfl rfl rfl rfl rfl (fun g81 => ?_) (fun g81 => ?_)
       ·
        refine SeqK.on (q_mvC rfl rfl) rfl rfl rfl rfl rfl ?_
        refine SeqK.on (q_neq rfl rfl rfl) rfl rfl rfl rfl rfl ?_
        refine SeqK.on (q_pkT rfl rfl rfl) rfl rfl rfl rfl rfl ?_
        refine SeqK.q (q_pkF rfl rfl rfl) rfl rfl rfl ?_
        refine SeqK.nil ?_
        refine AW.condD rfl (fun h85 => ?_) (fun h85 => ?_)
        ·
         refine sR ?_
         refine sA ?_
         refine SeqK.nil ?_
         refine AW.ret ?_
         exact fin_x (x := .c _) (H) (.tmp rfl .nil) rfl (fun _ _ h => h) (⟨bCe (dF (fun h => by obtain ⟨k1, k2, k3⟩ := h.2.2.2.1 i hi; first | omega | simp_all)), rfl⟩)
        ·
         refine AW.skip ?_
         refine AW.reg ?_
         refine SeqK.q (q_add _ rfl rfl rfl (w64 (by omega) (by omega))) rfl rfl rfl ?_
         refine sM ?_
         refine SeqK.nil ?_
         exact ⟨i + 1, _, Wk.keep 193 [(1, .c (rowC z r)), (2, .lp 2 0), (4, .c (bC false)), (9, .c (iL .un (auV r c.ax []).1)), (58, .c (.a (.t (.sl .un 3 (c.is.map ctT))))), (59, iX .i64 (((c.is.map ctT).length : Nat) : Int)), (60, iX .i64 (((i + 1) : Nat) : Int))] [(2, .box [.t (.sl .un 1 (c.nl.map i64T)), .t (.sl .un 1 (c.nn.map i64T)), .t (.sl .un 4 (c.ax.map axT)), .t (.sl .un 3 (c.is.map ctT)), .t (.sl .un 4 (c.ts.map tsT)), .t (.sl .un 2 (c.sm.map prT)), .t (.sl .un 2 (c.df.map prT))])] (H) rfl ⟨rfl, rfl, rfl, rfl, rfl, rfl, rfl, trivial⟩ ⟨rfl, trivial⟩ (fun _ _ h => h) rfl, by omega, ⟨hi, upS hi hU3 (by refine ⟨by simpa using g74, by omega, fun he => ?_⟩; first | omega | (rw [he] at g81; cases g81) | simp_all)⟩, rfl⟩
       ·
        refine SeqK.off rfl rfl rfl rfl rfl rfl ?_
        refine SeqK.off rfl rfl rfl rfl rfl rfl ?_
        refine SeqK.on (q_pkF rfl rfl rfl) rfl rfl rfl rfl rfl ?_
        refine SeqK.q (q_pkF rfl rfl rfl) rfl rfl rfl ?_
        refine SeqK.nil ?_
        refine AW.condF rfl ?_
        refine AW.skip ?_
        refine AW.reg ?_
        refine SeqK.q (q_add _ rfl rfl rfl (w64 (by omega) (by omega))) rfl rfl rfl ?_
        refine sM ?_
        refine SeqK.nil ?_
        exact ⟨i + 1, _, Wk.keep 193 [(1, .c (rowC z r)), (2, .lp 2 0), (4, .c (bC false)), (9, .c (iL .un (auV r c.ax []).1)), (58, .c (.a (.t (.sl .un 3 (c.is.map ctT))))), (59, iX .i64 (((c.is.map ctT).length : Nat) : Int)), (60, iX .i64 (((i + 1) : Nat) : Int))] [(2, .box [.t (.sl .un 1 (c.nl.map i64T)), .t (.sl .un 1 (c.nn.map i64T)), .t (.sl .un 4 (c.ax.map axT)), .t (.sl .un 3 (c.is.map ctT)), .t (.sl .un 4 (c.ts.map tsT)), .t (.sl .un 2 (c.sm.map prT)), .t (.sl .un 2 (c.df.map prT))])] (H) rfl ⟨rfl, rfl, rfl, rfl, rfl, rfl, rfl, trivial⟩ ⟨rfl, trivial⟩ (fun _ _ h => h) rfl, by omega, ⟨hi, upS hi hU3 (by refine ⟨by simpa using g74, by omega, fun he => ?_⟩; first | omega | (rw [he] at g81; cases g81) | simp_all)⟩, rfl⟩
    ·
     refine AW.exit ?_
     refine eth_e ?_
     refine eth_e ?_
     refine exit_here ?_
     refine AW.seq ?_
     refine AW.seq ?_
     have hC := upE hU3 (by rw [List.length_map] at h61; omega)
     refine AW.reg ?_
     refine SeqK.q (q_fieldL _ rfl Fx.fl28_4 rfl rfl) rfl rfl rfl ?_
     refine SeqK.r (b_load (r := .a _) rfl Fx.ty25 rfl rfl rfl rfl rfl rfl) rfl ?_
     refine SeqK.q (q_len rfl Fx.un25 rfl) rfl rfl rfl ?_
     refine sM ?_
     refine SeqK.nil ?_
     refine AW.block ?_
     refine AW.loop (fun (i : Nat) s => (i ≤ c.ts.length ∧ ∀ j (h : j < c.ts.length), j < i → tsQ r c.ts[j]) ∧ s = ⟨193, sp [(1, .c (rowC z r)), (2, .lp 2 0), (4, .c (bC false)), (88, .c (.a (.t (.sl .un 4 (c.ts.map tsT))))), (89, iX .i64 (((c.ts.map tsT).length : Nat) : Int)), (90, iX .i64 ((i : Nat) : Int))], lv [(2, .box [.t (.sl .un 1 (c.nl.map i64T)), .t (.sl .un 1 (c.nn.map i64T)), .t (.sl .un 4 (c.ax.map axT)), .t (.sl .un 3 (c.is.map ctT)), .t (.sl .un 4 (c.ts.map tsT)), .t (.sl .un 2 (c.sm.map prT)), .t (.sl .un 2 (c.df.map prT))])], H⟩) (fun i => c.ts.length - i) 0 ⟨_, Wk.keep 193 [(1, .c (rowC z r)), (2, .lp 2 0), (4, .c (bC false)), (88, .c (.a (.t (.sl .un 4 (c.ts.map tsT))))), (89, iX .i64 (((c.ts.map tsT).length : Nat) : Int)), (90, iX .i64 ((((0 : Nat)) : Nat) : Int))] [(2, .box [.t (.sl .un 1 (c.nl.map i64T)), .t (.sl .un 1 (c.nn.map i64T)), .t (.sl .un 4 (c.ax.map axT)), .t (.sl .un 3 (c.is.map ctT)), .t (.sl .un 4 (c.ts.map tsT)), .t (.sl .un 2 (c.sm.map prT)), .t (.sl .un 2 (c.df.map prT))])] (H) rfl ⟨rfl, rfl, rfl, rfl, rfl, rfl, trivial⟩ ⟨rfl, trivial⟩ (fun _ _ h => h) rfl, ⟨Nat.zero_le _, up0⟩, rfl⟩ (fun i s hs => ?_)
     obtain ⟨⟨hi0, hU4⟩, rfl⟩ := hs
     refine sR ?_
     refine SeqK.q (q_lss rfl rfl rfl) rfl rfl rfl ?_
     refine SeqK.nil ?_
     refine AW.seq ?_
     refine AW.condD rfl (fun h91 => ?_) (fun h91 => ?_)
     ·
      have hi : i < c.ts.length := by rw [List.length_map] at h91; omega
      have h0 := hok.ts i hi
      have ht : (c.ts[i].v).toNat < r.length := by omega
      have ha := at_get ht
      refine AW.skip ?_
      refine AW.seq ?_
      refine AW.block ?_
      refine sR ?_
      refine SeqK.q (q_index _ rfl Fx.sl25 rfl rfl (by omega) (idx_map (f := tsT) hi)) rfl rfl rfl ?_
      refine SeqK.q (q_load (.g [_, _, _, _]) rfl Fx.ty61 rfl rfl rfl) rfl rfl rfl ?_
      refine SeqK.r (b_alloc (r := [_, _, _, _]) rfl rfl Fx.ze61 rfl rfl rfl rfl) rfl ?_
      refine SeqK.r (b_store (r := [_, _, _, _]) rfl rfl Fx.ty61 rfl rfl rfl rfl rfl rfl) rfl ?_
      refine SeqK.nil ?_
      refine AW.seq ?_
      refine AW.draw Fx.mo ?_
      refine LexK.q (q_mvC rfl rfl) rfl rfl rfl ?_
      refine LexK.q (q_fieldL _ rfl Fx.fl61_0 rfl rfl) rfl rfl rfl ?_
      refine LexK.r (b_load (r := .a _) rfl Fx.ty3 rfl rfl rfl rfl rfl rfl) rfl ?_
      refine LexK.q (q_index _ rfl Fx.sl31 rfl rfl (by omega) (idx_map (f := rvT) ht)) rfl rfl rfl ?_
      refine LexK.q (q_fieldP _ rfl Fx.fl42_0 rfl rfl) rfl rfl rfl ?_
      refine LexK.q (q_load (.a _) rfl Fx.ty3 rfl rfl rfl) rfl rfl rfl ?_
      refine LexK.q (q_neq rfl rfl rfl) rfl rfl rfl ?_
      refine LexK.qD (q_mvC rfl rfl) rfl rfl rfl (fun g101 => ?_) (fun g101 => ?_)
      ·
       refine LexK.off rfl rfl rfl rfl rfl rfl ?_
       refine LexK.off rfl rfl rfl rfl rfl rfl ?_
       refine LexK.off rfl rfl rfl rfl rfl rfl ?_
       refine LexK.off rfl rfl rfl rfl rfl rfl ?_
       refine LexK.off rfl rfl rfl rfl rfl rfl ?_
       refine LexK.off rfl rfl rfl rfl rfl rfl ?_
       refine LexK.off rfl rfl rfl rfl rfl rfl ?_
       refine LexK.off rfl rfl rfl rfl rfl rfl ?_
       refine LexK.off rfl rfl rfl rfl rfl rfl ?_
       refine LexK.off rfl rfl rfl rfl rfl rfl ?_
       refine LexK.off rfl rfl rfl rfl rfl rfl ?_
       refine LexK.q (q_pkT rfl rfl rfl) rfl rfl rfl ?_
       refine LexK.nil (by kernel_rfl) ?_
       refine AW.condT rfl ?_
       refine sR ?_
       refine sA ?_
       refine SeqK.nil ?_
       refine AW.ret ?_
       exact fin_x (x := .c _) (H) (.tmp rfl .nil) rfl (fun _ _ h => h) (⟨bCe (dF (fun h => by obtain ⟨k1, k2⟩ := h.2.2.2.2.1 i hi; rw [ha] at k1 k2; first | omega | simp_all)), rfl⟩)
      ·
       refine LexK.rOn (b_load (r := .g [_, _, _, _]) rfl Fx.ty61 rfl rfl rfl rfl rfl rfl) rfl rfl rfl ?_
       refine LexK.on (q_mvC rfl rfl) rfl rfl rfl rfl rfl ?_
       refine LexK.on (q_fieldL _ rfl Fx.fl61_0 rfl rfl) rfl rfl rfl rfl rfl ?_
       refine LexK.rOn (b_load (r := .a _) rfl Fx.ty3 rfl rfl rfl rfl rfl rfl) rfl rfl rfl ?_
       refine LexK.on (q_index _ rfl Fx.sl31 rfl rfl (by omega) (idx_map (f := rvT) ht)) rfl rfl rfl rfl rfl ?_
       refine LexK.on (q_fieldP _ rfl Fx.fl42_2 rfl rfl) rfl rfl rfl rfl rfl ?_
       refine LexK.on (q_load (.a _) rfl Fx.ty9 rfl rfl rfl) rfl rfl rfl rfl rfl ?_
       refine LexK.on (q_call _ rfl Fx.fn27 rfl (hps _ (List.getElem_mem hi) _ (hs _ (List.getElem_mem _))) rfl) rfl rfl rfl rfl rfl ?_
       refine LexK.on (q_fieldL _ rfl Fx.fl61_2 rfl rfl) rfl rfl rfl rfl rfl ?_
       refine LexK.rOn (b_load (r := .a _) rfl Fx.ty4 rfl rfl rfl rfl rfl rfl) rfl rfl rfl ?_
       refine LexK.on (q_eqlB rfl Fx.un4 rfl rfl) rfl rfl rfl rfl rfl ?_
       refine LexK.q (q_pkF rfl rfl rfl) rfl rfl rfl ?_
       refine LexK.nil (by kernel_rfl) ?_
       refine AW.condD rfl (fun h113 => ?_) (fun h113 => ?_)
       ·
        refine sR ?_
        refine sA ?_
        refine SeqK.nil ?_
        refine AW.ret ?_
        exact fin_x (x := .c _) (H) (.tmp rfl .nil) rfl (fun _ _ h => h) (⟨bCe (dF (fun h => by obtain ⟨k1, k2⟩ := h.2.2.2.2.1 i hi; rw [ha] at k1 k2; first | omega | simp_all)), rfl⟩)
       ·
        refine AW.skip ?_
        refine AW.reg ?_
        refine SeqK.q (q_add _ rfl rfl rfl (w64 (by omega) (by omega))) rfl rfl rfl ?_
        refine sM ?_
        refine SeqK.nil ?_
        exact ⟨i + 1, _, Wk.keep 193 [(1, .c (rowC z r)), (2, .lp 2 0), (4, .c (bC false)), (88, .c (.a (.t (.sl .un 4 (c.ts.map tsT))))), (89, iX .i64 (((c.ts.map tsT).length : Nat) : Int)), (90, iX .i64 (((i + 1) : Nat) : Int))] [(2, .box [.t (.sl .un 1 (c.nl.map i64T)), .t (.sl .un 1 (c.nn.map i64T)), .t (.sl .un 4 (c.ax.map axT)), .t (.sl .un 3 (c.is.map ctT)), .t (.sl .un 4 (c.ts.map tsT)), .t (.sl .un 2 (c.sm.map prT)), .t (.sl .un 2 (c.df.map prT))])] (H) rfl ⟨rfl, rfl, rfl, rfl, rfl, rfl, trivial⟩ ⟨rfl, trivial⟩ (fun _ _ h => h) rfl, by omega, ⟨hi, upS hi hU4 (⟨by rw [ha]; omega, by rw [ha]; simp_all⟩)⟩, rfl⟩
     ·
      refine AW.exit ?_
      refine eth_e ?_
      refine eth_e ?_
      refine exit_here ?_
      refine AW.seq ?_
      refine AW.seq ?_
      have hD := upE hU4 (by rw [List.length_map] at h91; omega)
      refine AW.reg ?_
      refine SeqK.q (q_fieldL _ rfl Fx.fl28_5 rfl rfl) rfl rfl rfl ?_
      refine SeqK.r (b_load (r := .a _) rfl Fx.ty26 rfl rfl rfl rfl rfl rfl) rfl ?_
      refine SeqK.q (q_len rfl Fx.un26 rfl) rfl rfl rfl ?_
      refine sM ?_
      refine SeqK.nil ?_
      refine AW.block ?_
      refine AW.loop (fun (i : Nat) s => (i ≤ c.sm.length ∧ ∀ j (h : j < c.sm.length), j < i → smQ r c.sm[j]) ∧ s = ⟨193, sp [(1, .c (rowC z r)), (2, .lp 2 0), (4, .c (bC false)), (116, .c (.a (.t (.sl .un 2 (c.sm.map prT))))), (117, iX .i64 (((c.sm.map prT).length : Nat) : Int)), (118, iX .i64 ((i : Nat) : Int))], lv [(2, .box [.t (.sl .un 1 (c.nl.map i64T)), .t (.sl .un 1 (c.nn.map i64T)), .t (.sl .un 4 (c.ax.map axT)), .t (.sl .un 3 (c.is.map ctT)), .t (.sl .un 4 (c.ts.map tsT)), .t (.sl .un 2 (c.sm.map prT)), .t (.sl .un 2 (c.df.map prT))])], H⟩) (fun i => c.sm.length - i) 0 ⟨_, Wk.keep 193 [(1, .c (rowC z r)), (2, .lp 2 0), (4, .c (bC false)), (116, .c (.a (.t (.sl .un 2 (c.sm.map prT))))), (117, iX .i64 (((c.sm.map prT).length : Nat) : Int)), (118, iX .i64 ((((0 : Nat)) : Nat) : Int))] [(2, .box [.t (.sl .un 1 (c.nl.map i64T)), .t (.sl .un 1 (c.nn.map i64T)), .t (.sl .un 4 (c.ax.map axT)), .t (.sl .un 3 (c.is.map ctT)), .t (.sl .un 4 (c.ts.map tsT)), .t (.sl .un 2 (c.sm.map prT)), .t (.sl .un 2 (c.df.map prT))])] (H) rfl ⟨rfl, rfl, rfl, rfl, rfl, rfl, trivial⟩ ⟨rfl, trivial⟩ (fun _ _ h => h) rfl, ⟨Nat.zero_le _, up0⟩, rfl⟩ (fun i s hs => ?_)
      obtain ⟨⟨hi0, hU5⟩, rfl⟩ := hs
      refine sR ?_
      refine SeqK.q (q_lss rfl rfl rfl) rfl rfl rfl ?_
      refine SeqK.nil ?_
      refine AW.seq ?_
      refine AW.condD rfl (fun h119 => ?_) (fun h119 => ?_)
      ·
       have hi : i < c.sm.length := by rw [List.length_map] at h119; omega
       have h0 := (hok.sm i hi).1
       have ht : (c.sm[i].1).toNat < r.length := by omega
       have ha := at_get ht
       have h02 := (hok.sm i hi).2
       have ht2 : (c.sm[i].2).toNat < r.length := by omega
       have ha2 := at_get ht2
       refine AW.skip ?_
       refine AW.seq ?_
       refine AW.block ?_
       refine sR ?_
       refine SeqK.q (q_index _ rfl Fx.sl26 rfl rfl (by omega) (idx_map (f := prT) hi)) rfl rfl rfl ?_
       refine SeqK.q (q_load (.g [_, _]) rfl Fx.ty80 rfl rfl rfl) rfl rfl rfl ?_
       refine SeqK.r (b_alloc (r := [_, _]) rfl rfl Fx.ze80 rfl rfl rfl rfl) rfl ?_
       refine SeqK.r (b_store (r := [_, _]) rfl rfl Fx.ty80 rfl rfl rfl rfl rfl rfl) rfl ?_
       refine SeqK.nil ?_
       refine AW.seq ?_
       refine AW.draw Fx.mo ?_
       refine LexK.q (q_mvC rfl rfl) rfl rfl rfl ?_
       refine LexK.q (q_indexL _ rfl Fx.ar80 rfl rfl (by omega) (by omega) rfl) rfl rfl rfl ?_
       refine LexK.r (b_load (r := .a _) rfl Fx.ty3 rfl rfl rfl rfl rfl rfl) rfl ?_
       refine LexK.q (q_index _ rfl Fx.sl31 rfl rfl (by omega) (idx_map (f := rvT) ht)) rfl rfl rfl ?_
       refine LexK.q (q_fieldP _ rfl Fx.fl42_0 rfl rfl) rfl rfl rfl ?_
       refine LexK.q (q_load (.a _) rfl Fx.ty3 rfl rfl rfl) rfl rfl rfl ?_
       refine LexK.q (q_neq rfl rfl rfl) rfl rfl rfl ?_
       refine LexK.qD (q_mvC rfl rfl) rfl rfl rfl (fun g129 => ?_) (fun g129 => ?_)
       ·
        refine LexK.off rfl rfl rfl rfl rfl rfl ?_
        refine LexK.off rfl rfl rfl rfl rfl rfl ?_
        refine LexK.off rfl rfl rfl rfl rfl rfl ?_
        refine LexK.off rfl rfl rfl rfl rfl rfl ?_
        refine LexK.off rfl rfl rfl rfl rfl rfl ?_
        refine LexK.off rfl rfl rfl rfl rfl rfl ?_
        refine LexK.off rfl rfl rfl rfl rfl rfl ?_
        refine LexK.q (q_pkT rfl rfl rfl) rfl rfl rfl ?_
        refine LexK.q (q_mvC rfl rfl) rfl rfl rfl ?_
        refine LexK.off rfl rfl rfl rfl rfl rfl ?_
        refine LexK.off rfl rfl rfl rfl rfl rfl ?_
        refine LexK.off rfl rfl rfl rfl rfl rfl ?_
        refine LexK.off rfl rfl rfl rfl rfl rfl ?_
        refine LexK.off rfl rfl rfl rfl rfl rfl ?_
        refine LexK.off rfl rfl rfl rfl rfl rfl ?_
        refine LexK.off rfl rfl rfl rfl rfl rfl ?_
        refine LexK.off rfl rfl rfl rfl rfl rfl ?_
        refine LexK.off rfl rfl rfl rfl rfl rfl ?_
        refine LexK.off rfl rfl rfl rfl rfl rfl ?_
        refine LexK.off rfl rfl rfl rfl rfl rfl ?_
        refine LexK.off rfl rfl rfl rfl rfl rfl ?_
        refine LexK.off rfl rfl rfl rfl rfl rfl ?_
        refine LexK.q (q_pkT rfl rfl rfl) rfl rfl rfl ?_
        refine LexK.nil (by kernel_rfl) ?_
        refine AW.condT rfl ?_
        refine sR ?_
        refine sA ?_
        refine SeqK.nil ?_
        refine AW.ret ?_
        exact fin_x (x := .c _) (H) (.tmp rfl .nil) rfl (fun _ _ h => h) (⟨bCe (dF (fun h => by obtain ⟨k1, k2, k3⟩ := h.2.2.2.2.2.1 i hi; rw [ha] at k1; rw [ha2] at k2; rw [ha, ha2] at k3; first | omega | simp_all)), rfl⟩)
       ·
        refine LexK.on (q_mvC rfl rfl) rfl rfl rfl rfl rfl ?_
        refine LexK.on (q_indexL _ rfl Fx.ar80 rfl rfl (by omega) (by omega) rfl) rfl rfl rfl rfl rfl ?_
        refine LexK.rOn (b_load (r := .a _) rfl Fx.ty3 rfl rfl rfl rfl rfl rfl) rfl rfl rfl ?_
        refine LexK.on (q_index _ rfl Fx.sl31 rfl rfl (by omega) (idx_map (f := rvT) ht2)) rfl rfl rfl rfl rfl ?_
        refine LexK.on (q_fieldP _ rfl Fx.fl42_0 rfl rfl) rfl rfl rfl rfl rfl ?_
        refine LexK.on (q_load (.a _) rfl Fx.ty3 rfl rfl rfl) rfl rfl rfl rfl rfl ?_
        refine LexK.on (q_neq rfl rfl rfl) rfl rfl rfl rfl rfl ?_
        refine LexK.q (q_pkF rfl rfl rfl) rfl rfl rfl ?_
        refine LexK.qD (q_mvC rfl rfl) rfl rfl rfl (fun g138 => ?_) (fun g138 => ?_)
        ·
         refine LexK.off rfl rfl rfl rfl rfl rfl ?_
         refine LexK.off rfl rfl rfl rfl rfl rfl ?_
         refine LexK.off rfl rfl rfl rfl rfl rfl ?_
         refine LexK.off rfl rfl rfl rfl rfl rfl ?_
         refine LexK.off rfl rfl rfl rfl rfl rfl ?_
         refine LexK.off rfl rfl rfl rfl rfl rfl ?_
         refine LexK.off rfl rfl rfl rfl rfl rfl ?_
         refine LexK.off rfl rfl rfl rfl rfl rfl ?_
         refine LexK.off rfl rfl rfl rfl rfl rfl ?_
         refine LexK.off rfl rfl rfl rfl rfl rfl ?_
         refine LexK.off rfl rfl rfl rfl rfl rfl ?_
         refine LexK.off rfl rfl rfl rfl rfl rfl ?_
         refine LexK.off rfl rfl rfl rfl rfl rfl ?_
         refine LexK.q (q_pkT rfl rfl rfl) rfl rfl rfl ?_
         refine LexK.nil (by kernel_rfl) ?_
         refine AW.condT rfl ?_
         refine sR ?_
         refine sA ?_
         refine SeqK.nil ?_
         refine AW.ret ?_
         exact fin_x (x := .c _) (H) (.tmp rfl .nil) rfl (fun _ _ h => h) (⟨bCe (dF (fun h => by obtain ⟨k1, k2, k3⟩ := h.2.2.2.2.2.1 i hi; rw [ha] at k1; rw [ha2] at k2; rw [ha, ha2] at k3; first | omega | simp_all)), rfl⟩)
        ·
         refine LexK.on (q_mvC rfl rfl) rfl rfl rfl rfl rfl ?_
         refine LexK.on (q_indexL _ rfl Fx.ar80 rfl rfl (by omega) (by omega) rfl) rfl rfl rfl rfl rfl ?_
         refine LexK.rOn (b_load (r := .a _) rfl Fx.ty3 rfl rfl rfl rfl rfl rfl) rfl rfl rfl ?_
         refine LexK.on (q_index _ rfl Fx.sl31 rfl rfl (by omega) (idx_map (f := rvT) ht)) rfl rfl rfl rfl rfl ?_
         refine LexK.on (q_fieldP _ rfl Fx.fl42_2 rfl rfl) rfl rfl rfl rfl rfl ?_
         refine LexK.on (q_load (.a _) rfl Fx.ty9 rfl rfl rfl) rfl rfl rfl rfl rfl ?_
         refine LexK.on (q_mvC rfl rfl) rfl rfl rfl rfl rfl ?_
         refine LexK.on (q_indexL _ rfl Fx.ar80 rfl rfl (by omega) (by omega) rfl) rfl rfl rfl rfl rfl ?_
         refine LexK.rOn (b_load (r := .a _) rfl Fx.ty3 rfl rfl rfl rfl rfl rfl) rfl rfl rfl ?_
         refine LexK.on (q_index _ rfl Fx.sl31 rfl rfl (by omega) (idx_map (f := rvT) ht2)) rfl rfl rfl rfl rfl ?_
         refine LexK.on (q_fieldP _ rfl Fx.fl42_2 rfl rfl) rfl rfl rfl rfl rfl ?_
         refine LexK.on (q_load (.a _) rfl Fx.ty9 rfl rfl rfl) rfl rfl rfl rfl rfl ?_
         refine LexK.on (q_neqS rfl rfl rfl) rfl rfl rfl rfl rfl ?_
         refine LexK.q (q_pkF rfl rfl rfl) rfl rfl rfl ?_
         refine LexK.nil (by kernel_rfl) ?_
         refine AW.condD rfl (fun h152 => ?_) (fun h152 => ?_)
         ·
          refine sR ?_
          refine sA ?_
          refine SeqK.nil ?_
          refine AW.ret ?_
          exact fin_x (x := .c _) (H) (.tmp rfl .nil) rfl (fun _ _ h => h) (⟨bCe (dF (fun h => by obtain ⟨k1, k2, k3⟩ := h.2.2.2.2.2.1 i hi; rw [ha] at k1; rw [ha2] at k2; rw [ha, ha2] at k3; first | omega | simp_all)), rfl⟩)
         ·
          refine AW.skip ?_
          refine AW.reg ?_
          refine SeqK.q (q_add _ rfl rfl rfl (w64 (by omega) (by omega))) rfl rfl rfl ?_
          refine sM ?_
          refine SeqK.nil ?_
          exact ⟨i + 1, _, Wk.keep 193 [(1, .c (rowC z r)), (2, .lp 2 0), (4, .c (bC false)), (116, .c (.a (.t (.sl .un 2 (c.sm.map prT))))), (117, iX .i64 (((c.sm.map prT).length : Nat) : Int)), (118, iX .i64 (((i + 1) : Nat) : Int))] [(2, .box [.t (.sl .un 1 (c.nl.map i64T)), .t (.sl .un 1 (c.nn.map i64T)), .t (.sl .un 4 (c.ax.map axT)), .t (.sl .un 3 (c.is.map ctT)), .t (.sl .un 4 (c.ts.map tsT)), .t (.sl .un 2 (c.sm.map prT)), .t (.sl .un 2 (c.df.map prT))])] (H) rfl ⟨rfl, rfl, rfl, rfl, rfl, rfl, trivial⟩ ⟨rfl, trivial⟩ (fun _ _ h => h) rfl, by omega, ⟨hi, upS hi hU5 (⟨by rw [ha]; omega, by rw [ha2]; omega, by rw [ha, ha2]; simp_all⟩)⟩, rfl⟩
      ·
       refine AW.exit ?_
       refine eth_e ?_
       refine eth_e ?_
       refine exit_here ?_
       refine AW.seq ?_
       refine AW.seq ?_
       have hE := upE hU5 (by rw [List.length_map] at h119; omega)
       refine AW.reg ?_
       refine SeqK.q (q_fieldL _ rfl Fx.fl28_6 rfl rfl) rfl rfl rfl ?_
       refine SeqK.r (b_load (r := .a _) rfl Fx.ty26 rfl rfl rfl rfl rfl rfl) rfl ?_
       refine SeqK.q (q_len rfl Fx.un26 rfl) rfl rfl rfl ?_
       refine sM ?_
       refine SeqK.nil ?_
       refine AW.block ?_
       refine AW.loop (fun (i : Nat) s => (i ≤ c.df.length ∧ ∀ j (h : j < c.df.length), j < i → dfQ r c.df[j]) ∧ s = ⟨193, sp [(1, .c (rowC z r)), (2, .lp 2 0), (4, .c (bC false)), (155, .c (.a (.t (.sl .un 2 (c.df.map prT))))), (156, iX .i64 (((c.df.map prT).length : Nat) : Int)), (157, iX .i64 ((i : Nat) : Int))], lv [(2, .box [.t (.sl .un 1 (c.nl.map i64T)), .t (.sl .un 1 (c.nn.map i64T)), .t (.sl .un 4 (c.ax.map axT)), .t (.sl .un 3 (c.is.map ctT)), .t (.sl .un 4 (c.ts.map tsT)), .t (.sl .un 2 (c.sm.map prT)), .t (.sl .un 2 (c.df.map prT))])], H⟩) (fun i => c.df.length - i) 0 ⟨_, Wk.keep 193 [(1, .c (rowC z r)), (2, .lp 2 0), (4, .c (bC false)), (155, .c (.a (.t (.sl .un 2 (c.df.map prT))))), (156, iX .i64 (((c.df.map prT).length : Nat) : Int)), (157, iX .i64 ((((0 : Nat)) : Nat) : Int))] [(2, .box [.t (.sl .un 1 (c.nl.map i64T)), .t (.sl .un 1 (c.nn.map i64T)), .t (.sl .un 4 (c.ax.map axT)), .t (.sl .un 3 (c.is.map ctT)), .t (.sl .un 4 (c.ts.map tsT)), .t (.sl .un 2 (c.sm.map prT)), .t (.sl .un 2 (c.df.map prT))])] (H) rfl ⟨rfl, rfl, rfl, rfl, rfl, rfl, trivial⟩ ⟨rfl, trivial⟩ (fun _ _ h => h) rfl, ⟨Nat.zero_le _, up0⟩, rfl⟩ (fun i s hs => ?_)
       obtain ⟨⟨hi0, hU6⟩, rfl⟩ := hs
       refine sR ?_
       refine SeqK.q (q_lss rfl rfl rfl) rfl rfl rfl ?_
       refine SeqK.nil ?_
       refine AW.seq ?_
       refine AW.condD rfl (fun h158 => ?_) (fun h158 => ?_)
       ·
        have hi : i < c.df.length := by rw [List.length_map] at h158; omega
        have h0 := (hok.df i hi).1
        have ht : (c.df[i].1).toNat < r.length := by omega
        have ha := at_get ht
        have h02 := (hok.df i hi).2
        have ht2 : (c.df[i].2).toNat < r.length := by omega
        have ha2 := at_get ht2
        refine AW.skip ?_
        refine AW.seq ?_
        refine AW.block ?_
        refine sR ?_
        refine SeqK.q (q_index _ rfl Fx.sl26 rfl rfl (by omega) (idx_map (f := prT) hi)) rfl rfl rfl ?_
        refine SeqK.q (q_load (.g [_, _]) rfl Fx.ty80 rfl rfl rfl) rfl rfl rfl ?_
        refine SeqK.r (b_alloc (r := [_, _]) rfl rfl Fx.ze80 rfl rfl rfl rfl) rfl ?_
        refine SeqK.r (b_store (r := [_, _]) rfl rfl Fx.ty80 rfl rfl rfl rfl rfl rfl) rfl ?_
        refine SeqK.nil ?_
        refine AW.seq ?_
        refine AW.draw Fx.mo ?_
        refine LexK.q (q_mvC rfl rfl) rfl rfl rfl ?_
        refine LexK.q (q_indexL _ rfl Fx.ar80 rfl rfl (by omega) (by omega) rfl) rfl rfl rfl ?_
        refine LexK.r (b_load (r := .a _) rfl Fx.ty3 rfl rfl rfl rfl rfl rfl) rfl ?_
        refine LexK.q (q_index _ rfl Fx.sl31 rfl rfl (by omega) (idx_map (f := rvT) ht)) rfl rfl rfl ?_
        refine LexK.q (q_fieldP _ rfl Fx.fl42_0 rfl rfl) rfl rfl rfl ?_
        refine LexK.q (q_load (.a _) rfl Fx.ty3 rfl rfl rfl) rfl rfl rfl ?_
        refine LexK.q (q_neq rfl rfl rfl) rfl rfl rfl ?_
        refine LexK.qD (q_mvC rfl rfl) rfl rfl rfl (fun g168 => ?_) (fun g168 => ?_)
        ·
         refine LexK.off rfl rfl rfl rfl rfl rfl ?_
         refine LexK.off rfl rfl rfl rfl rfl rfl ?_
         refine LexK.off rfl rfl rfl rfl rfl rfl ?_
         refine LexK.off rfl rfl rfl rfl rfl rfl ?_
         refine LexK.off rfl rfl rfl rfl rfl rfl ?_
         refine LexK.off rfl rfl rfl rfl rfl rfl ?_
         refine LexK.off rfl rfl rfl rfl rfl rfl ?_
         refine LexK.q (q_pkT rfl rfl rfl) rfl rfl rfl ?_
         refine LexK.q (q_mvC rfl rfl) rfl rfl rfl ?_
         refine LexK.off rfl rfl rfl rfl rfl rfl ?_
         refine LexK.off rfl rfl rfl rfl rfl rfl ?_
         refine LexK.off rfl rfl rfl rfl rfl rfl ?_
         refine LexK.off rfl rfl rfl rfl rfl rfl ?_
         refine LexK.off rfl rfl rfl rfl rfl rfl ?_
         refine LexK.off rfl rfl rfl rfl rfl rfl ?_
         refine LexK.off rfl rfl rfl rfl rfl rfl ?_
         refine LexK.off rfl rfl rfl rfl rfl rfl ?_
         refine LexK.off rfl rfl rfl rfl rfl rfl ?_
         refine LexK.off rfl rfl rfl rfl rfl rfl ?_
         refine LexK.off rfl rfl rfl rfl rfl rfl ?_
         refine LexK.off rfl rfl rfl rfl rfl rfl ?_
         refine LexK.off rfl rfl rfl rfl rfl rfl ?_
         refine LexK.q (q_pkT rfl rfl rfl) rfl rfl rfl ?_
         refine LexK.nil (by kernel_rfl) ?_
         refine AW.condT rfl ?_
         refine sR ?_
         refine sA ?_
         refine SeqK.nil ?_
         refine AW.ret ?_
         exact fin_x (x := .c _) (H) (.tmp rfl .nil) rfl (fun _ _ h => h) (⟨bCe (dF (fun h => by obtain ⟨k1, k2, k3⟩ := h.2.2.2.2.2.2 i hi; rw [ha] at k1; rw [ha2] at k2; rw [ha, ha2] at k3; first | omega | simp_all)), rfl⟩)
        ·
         refine LexK.on (q_mvC rfl rfl) rfl rfl rfl rfl rfl ?_
         refine LexK.on (q_indexL _ rfl Fx.ar80 rfl rfl (by omega) (by omega) rfl) rfl rfl rfl rfl rfl ?_
         refine LexK.rOn (b_load (r := .a _) rfl Fx.ty3 rfl rfl rfl rfl rfl rfl) rfl rfl rfl ?_
         refine LexK.on (q_index _ rfl Fx.sl31 rfl rfl (by omega) (idx_map (f := rvT) ht2)) rfl rfl rfl rfl rfl ?_
         refine LexK.on (q_fieldP _ rfl Fx.fl42_0 rfl rfl) rfl rfl rfl rfl rfl ?_
         refine LexK.on (q_load (.a _) rfl Fx.ty3 rfl rfl rfl) rfl rfl rfl rfl rfl ?_
         refine LexK.on (q_neq rfl rfl rfl) rfl rfl rfl rfl rfl ?_
         refine LexK.q (q_pkF rfl rfl rfl) rfl rfl rfl ?_
         refine LexK.qD (q_mvC rfl rfl) rfl rfl rfl (fun g177 => ?_) (fun g177 => ?_)
         ·
          refine LexK.off rfl rfl rfl rfl rfl rfl ?_
          refine LexK.off rfl rfl rfl rfl rfl rfl ?_
          refine LexK.off rfl rfl rfl rfl rfl rfl ?_
          refine LexK.off rfl rfl rfl rfl rfl rfl ?_
          refine LexK.off rfl rfl rfl rfl rfl rfl ?_
          refine LexK.off rfl rfl rfl rfl rfl rfl ?_
          refine LexK.off rfl rfl rfl rfl rfl rfl ?_
          refine LexK.off rfl rfl rfl rfl rfl rfl ?_
          refine LexK.off rfl rfl rfl rfl rfl rfl ?_
          refine LexK.off rfl rfl rfl rfl rfl rfl ?_
          refine LexK.off rfl rfl rfl rfl rfl rfl ?_
          refine LexK.off rfl rfl rfl rfl rfl rfl ?_
          refine LexK.off rfl rfl rfl rfl rfl rfl ?_
          refine LexK.q (q_pkT rfl rfl rfl) rfl rfl rfl ?_
          refine LexK.nil (by kernel_rfl) ?_
          refine AW.condT rfl ?_
          refine sR ?_
          refine sA ?_
          refine SeqK.nil ?_
          refine AW.ret ?_
          exact fin_x (x := .c _) (H) (.tmp rfl .nil) rfl (fun _ _ h => h) (⟨bCe (dF (fun h => by obtain ⟨k1, k2, k3⟩ := h.2.2.2.2.2.2 i hi; rw [ha] at k1; rw [ha2] at k2; rw [ha, ha2] at k3; first | omega | simp_all)), rfl⟩)
         ·
          refine LexK.on (q_mvC rfl rfl) rfl rfl rfl rfl rfl ?_
          refine LexK.on (q_indexL _ rfl Fx.ar80 rfl rfl (by omega) (by omega) rfl) rfl rfl rfl rfl rfl ?_
          refine LexK.rOn (b_load (r := .a _) rfl Fx.ty3 rfl rfl rfl rfl rfl rfl) rfl rfl rfl ?_
          refine LexK.on (q_index _ rfl Fx.sl31 rfl rfl (by omega) (idx_map (f := rvT) ht)) rfl rfl rfl rfl rfl ?_
          refine LexK.on (q_fieldP _ rfl Fx.fl42_2 rfl rfl) rfl rfl rfl rfl rfl ?_
          refine LexK.on (q_load (.a _) rfl Fx.ty9 rfl rfl rfl) rfl rfl rfl rfl rfl ?_
          refine LexK.on (q_mvC rfl rfl) rfl rfl rfl rfl rfl ?_
          refine LexK.on (q_indexL _ rfl Fx.ar80 rfl rfl (by omega) (by omega) rfl) rfl rfl rfl rfl rfl ?_
          refine LexK.rOn (b_load (r := .a _) rfl Fx.ty3 rfl rfl rfl rfl rfl rfl) rfl rfl rfl ?_
          refine LexK.on (q_index _ rfl Fx.sl31 rfl rfl (by omega) (idx_map (f := rvT) ht2)) rfl rfl rfl rfl rfl ?_
          refine LexK.on (q_fieldP _ rfl Fx.fl42_2 rfl rfl) rfl rfl rfl rfl rfl ?_
          refine LexK.on (q_load (.a _) rfl Fx.ty9 rfl rfl rfl) rfl rfl rfl rfl rfl ?_
          refine LexK.on (q_eqlS rfl rfl rfl) rfl rfl rfl rfl rfl ?_
          refine LexK.q (q_pkF rfl rfl rfl) rfl rfl rfl ?_
          refine LexK.nil (by kernel_rfl) ?_
          refine AW.condD rfl (fun h191 => ?_) (fun h191 => ?_)
          ·
           refine sR ?_
           refine sA ?_
           refine SeqK.nil ?_
           refine AW.ret ?_
           exact fin_x (x := .c _) (H) (.tmp rfl .nil) rfl (fun _ _ h => h) (⟨bCe (dF (fun h => by obtain ⟨k1, k2, k3⟩ := h.2.2.2.2.2.2 i hi; rw [ha] at k1; rw [ha2] at k2; rw [ha, ha2] at k3; first | omega | simp_all)), rfl⟩)
          ·
           refine AW.skip ?_
           refine AW.reg ?_
           refine SeqK.q (q_add _ rfl rfl rfl (w64 (by omega) (by omega))) rfl rfl rfl ?_
           refine sM ?_
           refine SeqK.nil ?_
           exact ⟨i + 1, _, Wk.keep 193 [(1, .c (rowC z r)), (2, .lp 2 0), (4, .c (bC false)), (155, .c (.a (.t (.sl .un 2 (c.df.map prT))))), (156, iX .i64 (((c.df.map prT).length : Nat) : Int)), (157, iX .i64 (((i + 1) : Nat) : Int))] [(2, .box [.t (.sl .un 1 (c.nl.map i64T)), .t (.sl .un 1 (c.nn.map i64T)), .t (.sl .un 4 (c.ax.map axT)), .t (.sl .un 3 (c.is.map ctT)), .t (.sl .un 4 (c.ts.map tsT)), .t (.sl .un 2 (c.sm.map prT)), .t (.sl .un 2 (c.df.map prT))])] (H) rfl ⟨rfl, rfl, rfl, rfl, rfl, rfl, trivial⟩ ⟨rfl, trivial⟩ (fun _ _ h => h) rfl, by omega, ⟨hi, upS hi hU6 (⟨by rw [ha]; omega, by rw [ha2]; omega, by rw [ha, ha2]; simp_all⟩)⟩, rfl⟩
       ·
        refine AW.exit ?_
        refine eth_e ?_
        refine eth_e ?_
        refine exit_here ?_
        refine AW.seq ?_
        have hF := upE hU6 (by rw [List.length_map] at h158; omega)
        refine AW.reg ?_
        refine sA ?_
        refine SeqK.nil ?_
        refine AW.ret ?_
        exact fin_x (x := .c _) (H) (.tmp rfl .nil) rfl (fun _ _ h => h) (⟨bCe (dT ⟨hA, hB, hau, hC, hD, hE, hF⟩), rfl⟩)

end Go.Proofs.Ytnmfjojhgfipcaa.W
namespace Go.Proofs.Ytnmfjojhgfipcaa.W
open Go.RowKit E
set_option linter.unusedVariables false
set_option linter.unusedSimpArgs false
set_option linter.unusedSectionVars false
/-- the flag of the loops: what came before, and all up to a place -/
abbrev flag (ok : Bool) (A : Prop) {n : Nat} (Q : (j : Nat) → j < n → Prop) (i : Nat) : Prop := ok = true ↔ A ∧ ∀ j (h : j < n), j < i → Q j h
theorem flag0 {ok : Bool} {A : Prop} {n : Nat} {Q : (j : Nat) → j < n → Prop} (h : ok = true ↔ A) : flag ok A Q 0 := h.trans ⟨fun h => ⟨h, up0⟩, fun h => h.1⟩
theorem flagS {ok ok' : Bool} {A : Prop} {n i : Nat} {Q : (j : Nat) → j < n → Prop} (hi : i < n) (h : flag ok A Q i) (hk : ok = true) (h' : ok' = true ↔ Q i hi) : flag ok' A Q (i + 1) := by
  obtain ⟨hA, hU⟩ := h.1 hk
  exact ⟨fun k => ⟨hA, upS hi hU (h'.1 k)⟩, fun k => h'.2 (k.2 i hi (Nat.lt_succ_self i))⟩
theorem flagE {ok : Bool} {A : Prop} {n i : Nat} {Q : (j : Nat) → j < n → Prop} (h : flag ok A Q i) (he : n ≤ i ∨ ok = false) : ok = true ↔ A ∧ ∀ j (h : j < n), Q j h := by
  rcases he with he | he
  · exact h.trans ⟨fun k => ⟨k.1, upE k.2 he⟩, fun k => ⟨k.1, fun j hj _ => k.2 j hj⟩⟩
  · subst he
    exact ⟨fun k => (by cases k), fun k => h.2 ⟨k.1, fun j hj _ => k.2 j hj⟩⟩
theorem beq3 {a b : RV} (ha : vvP a) (hb : vvP b) (hk : a.k = 2) : (decide (a.k = b.k) && decide (a.n = b.n) && decide (a.s = b.s)) = decide (b.k = 2 ∧ a.s = b.s) := by
  have h1 : a.n = 0 := by rcases ha with ⟨x, y, z⟩ | ⟨x, y⟩ | ⟨x, y, z⟩ <;> omega
  by_cases h2 : b.k = 2
  · have h3 : b.n = 0 := by rcases hb with ⟨x, y, z⟩ | ⟨x, y⟩ | ⟨x, y, z⟩ <;> omega
    simp [hk, h1, h2, h3]
  · have : ¬ a.k = b.k := by omega
    simp [this, h2]

set_option maxHeartbeats 16000000 in
set_option maxRecDepth 20000 in
theorem rholds_any (c : Cl) (r : List RV) (z : Nz) (hc : rgC c) (hr : r.length ≤ 17592186044000) (hs : ∀ v ∈ r, v.s.size ≤ 1000000000000000) (hv : ∀ v ∈ r, vvP v) (hok : okC c r) (hps : ∀ t ∈ c.ts, ∀ u : ByteArray, u.size ≤ 1000000000000000 → Pure Try.prog 29 [tsC t, sC u] (.c (bC (decide (psB t u ≠ t.n))))) : Pure Try.prog 11 [clC c, rowC z r] (.c (bC (decide (holP c r)))) := by
 intro H
 refine Spec.enter Try.func11 rfl ?_
 refine AW.wk (Wk.keep 216 [(0, .c (clC c)), (1, .c (rowC z r))] [] (H) rfl ⟨rfl, rfl, trivial⟩ trivial (fun _ _ h => h) rfl) ?_
 refine sR ?_
 refine SeqK.r (b_box (r := [_, _, _, _, _, _, _]) rfl rfl rfl rfl rfl rfl) rfl ?_
 refine sA ?_
 refine SeqK.nil ?_
 refine AW.seq ?_
 refine AW.seq ?_
 have q1 := hc.nl
 have q2 := hc.nn
 have q3 := hc.ax
 have q4 := hc.is
 have q5 := hc.ts
 have q6 := hc.sm
 have q7 := hc.df
 refine AW.reg ?_
 refine sA ?_
 refine SeqK.nil ?_
 refine AW.block ?_
 refine AW.loop (fun (i : Nat) s => (i ≤ c.nl.length ∧ ∀ j (h : j < c.nl.length), j < i → (at' r c.nl[j]).k = 0) ∧ s = ⟨216, sp [(1, .c (rowC z r)), (2, .lp 2 0), (4, .c (bC false)), (5, iX .i64 ((i : Nat) : Int))], lv [(2, .box [.t (.sl .un 1 (c.nl.map i64T)), .t (.sl .un 1 (c.nn.map i64T)), .t (.sl .un 4 (c.ax.map axT)), .t (.sl .un 3 (c.is.map ctT)), .t (.sl .un 4 (c.ts.map tsT)), .t (.sl .un 2 (c.sm.map prT)), .t (.sl .un 2 (c.df.map prT))])], H⟩) (fun i => c.nl.length - i) 0 ⟨_, Wk.keep 216 [(1, .c (rowC z r)), (2, .lp 2 0), (4, .c (bC false)), (5, iX .i64 ((((0 : Nat)) : Nat) : Int))] [(2, .box [.t (.sl .un 1 (c.nl.map i64T)), .t (.sl .un 1 (c.nn.map i64T)), .t (.sl .un 4 (c.ax.map axT)), .t (.sl .un 3 (c.is.map ctT)), .t (.sl .un 4 (c.ts.map tsT)), .t (.sl .un 2 (c.sm.map prT)), .t (.sl .un 2 (c.df.map prT))])] (H) rfl ⟨rfl, rfl, rfl, rfl, trivial⟩ ⟨rfl, trivial⟩ (fun _ _ h => h) rfl, ⟨Nat.zero_le _, up0⟩, rfl⟩ (fun i s hs => ?_)
 obtain ⟨⟨hi0, hU⟩, rfl⟩ := hs
 refine AW.seq ?_
 refine sR ?_
 refine sM ?_
 refine SeqK.q (q_fieldL _ rfl Fx.fl28_0 rfl rfl) rfl rfl rfl ?_
 refine SeqK.r (b_load (r := .a _) rfl Fx.ty22 rfl rfl rfl rfl rfl rfl) rfl ?_
 refine SeqK.q (q_len rfl Fx.un22 rfl) rfl rfl rfl ?_
 refine SeqK.q (q_lss rfl rfl rfl) rfl rfl rfl ?_
 refine SeqK.nil ?_
 refine AW.condD rfl (fun h22 => ?_) (fun h22 => ?_)
 ·
  have hi : i < c.nl.length := by rw [List.length_map] at h22; omega
  have h0 := hok.nl i hi
  have ht : (c.nl[i]).toNat < r.length := by omega
  have ha := at_get ht
  refine AW.skip ?_
  refine AW.seq ?_
  refine AW.block ?_
  refine sR ?_
  refine sM ?_
  refine SeqK.q (q_fieldL _ rfl Fx.fl28_0 rfl rfl) rfl rfl rfl ?_
  refine SeqK.r (b_load (r := .a _) rfl Fx.ty22 rfl rfl rfl rfl rfl rfl) rfl ?_
  refine sM ?_
  refine SeqK.q (q_index _ rfl Fx.sl22 rfl rfl (by omega) (idx_map (f := i64T) hi)) rfl rfl rfl ?_
  refine SeqK.q (q_load (.a _) rfl Fx.ty3 rfl rfl rfl) rfl rfl rfl ?_
  refine SeqK.q (q_index _ rfl Fx.sl31 rfl rfl (by omega) (idx_map (f := rvT) ht)) rfl rfl rfl ?_
  refine SeqK.q (q_fieldP _ rfl Fx.fl42_0 rfl rfl) rfl rfl rfl ?_
  refine SeqK.q (q_load (.a _) rfl Fx.ty3 rfl rfl rfl) rfl rfl rfl ?_
  refine SeqK.q (q_neq rfl rfl rfl) rfl rfl rfl ?_
  refine SeqK.nil ?_
  refine AW.condD rfl (fun h34 => ?_) (fun h34 => ?_)
  ·
   refine sR ?_
   refine sA ?_
   refine SeqK.nil ?_
   refine AW.ret ?_
   exact fin_x (x := .c _) (H) (.tmp rfl .nil) rfl (fun _ _ h => h) (⟨bCe (dF (fun h => by have := h.1 i hi; rw [ha] at this; omega)), rfl⟩)
  ·
   refine AW.skip ?_
   refine AW.reg ?_
   refine sM ?_
   refine SeqK.q (q_add _ rfl rfl rfl (w64 (by omega) (by omega))) rfl rfl rfl ?_
   refine sA ?_
   refine SeqK.nil ?_
   exact ⟨i + 1, _, Wk.keep 216 [(1, .c (rowC z r)), (2, .lp 2 0), (4, .c (bC false)), (5, iX .i64 (((i + 1) : Nat) : Int))] [(2, .box [.t (.sl .un 1 (c.nl.map i64T)), .t (.sl .un 1 (c.nn.map i64T)), .t (.sl .un 4 (c.ax.map axT)), .t (.sl .un 3 (c.is.map ctT)), .t (.sl .un 4 (c.ts.map tsT)), .t (.sl .un 2 (c.sm.map prT)), .t (.sl .un 2 (c.df.map prT))])] (H) rfl ⟨rfl, rfl, rfl, rfl, trivial⟩ ⟨rfl, trivial⟩ (fun _ _ h => h) rfl, by omega, ⟨hi, upS hi hU (by rw [ha]; omega)⟩, rfl⟩
 ·
  refine AW.exit ?_
  refine eth_e ?_
  refine eth_e ?_
  refine exit_here ?_
  refine AW.seq ?_
  refine AW.seq ?_
  have hA := upE hU (by rw [List.length_map] at h22; omega)
  refine AW.reg ?_
  refine sA ?_
  refine SeqK.nil ?_
  refine AW.block ?_
  refine AW.loop (fun (i : Nat) s => (i ≤ c.nn.length ∧ ∀ j (h : j < c.nn.length), j < i → (at' r c.nn[j]).k ≠ 0) ∧ s = ⟨216, sp [(1, .c (rowC z r)), (2, .lp 2 0), (4, .c (bC false)), (6, iX .i64 ((i : Nat) : Int))], lv [(2, .box [.t (.sl .un 1 (c.nl.map i64T)), .t (.sl .un 1 (c.nn.map i64T)), .t (.sl .un 4 (c.ax.map axT)), .t (.sl .un 3 (c.is.map ctT)), .t (.sl .un 4 (c.ts.map tsT)), .t (.sl .un 2 (c.sm.map prT)), .t (.sl .un 2 (c.df.map prT))])], H⟩) (fun i => c.nn.length - i) 0 ⟨_, Wk.keep 216 [(1, .c (rowC z r)), (2, .lp 2 0), (4, .c (bC false)), (6, iX .i64 ((((0 : Nat)) : Nat) : Int))] [(2, .box [.t (.sl .un 1 (c.nl.map i64T)), .t (.sl .un 1 (c.nn.map i64T)), .t (.sl .un 4 (c.ax.map axT)), .t (.sl .un 3 (c.is.map ctT)), .t (.sl .un 4 (c.ts.map tsT)), .t (.sl .un 2 (c.sm.map prT)), .t (.sl .un 2 (c.df.map prT))])] (H) rfl ⟨rfl, rfl, rfl, rfl, trivial⟩ ⟨rfl, trivial⟩ (fun _ _ h => h) rfl, ⟨Nat.zero_le _, up0⟩, rfl⟩ (fun i s hs => ?_)
  obtain ⟨⟨hi0, hU2⟩, rfl⟩ := hs
  refine AW.seq ?_
  refine sR ?_
  refine sM ?_
  refine SeqK.q (q_fieldL _ rfl Fx.fl28_1 rfl rfl) rfl rfl rfl ?_
  refine SeqK.r (b_load (r := .a _) rfl Fx.ty22 rfl rfl rfl rfl rfl rfl) rfl ?_
  refine SeqK.q (q_len rfl Fx.un22 rfl) rfl rfl rfl ?_
  refine SeqK.q (q_lss rfl rfl rfl) rfl rfl rfl ?_
  refine SeqK.nil ?_
  refine AW.condD rfl (fun h39 => ?_) (fun h39 => ?_)
  ·
   have hi : i < c.nn.length := by rw [List.length_map] at h39; omega
   have h0 := hok.nn i hi
   have ht : (c.nn[i]).toNat < r.length := by omega
   have ha := at_get ht
   refine AW.skip ?_
   refine AW.seq ?_
   refine AW.block ?_
   refine sR ?_
   refine sM ?_
   refine SeqK.q (q_fieldL _ rfl Fx.fl28_1 rfl rfl) rfl rfl rfl ?_
   refine SeqK.r (b_load (r := .a _) rfl Fx.ty22 rfl rfl rfl rfl rfl rfl) rfl ?_
   refine sM ?_
   refine SeqK.q (q_index _ rfl Fx.sl22 rfl rfl (by omega) (idx_map (f := i64T) hi)) rfl rfl rfl ?_
   refine SeqK.q (q_load (.a _) rfl Fx.ty3 rfl rfl rfl) rfl rfl rfl ?_
   refine SeqK.q (q_index _ rfl Fx.sl31 rfl rfl (by omega) (idx_map (f := rvT) ht)) rfl rfl rfl ?_
   refine SeqK.q (q_fieldP _ rfl Fx.fl42_0 rfl rfl) rfl rfl rfl ?_
   refine SeqK.q (q_load (.a _) rfl Fx.ty3 rfl rfl rfl) rfl rfl rfl ?_
   refine SeqK.q (q_eql rfl rfl rfl) rfl rfl rfl ?_
   refine SeqK.nil ?_
   refine AW.condD rfl (fun h51 => ?_) (fun h51 => ?_)
   ·
    refine sR ?_
    refine sA ?_
    refine SeqK.nil ?_
    refine AW.ret ?_
    exact fin_x (x := .c _) (H) (.tmp rfl .nil) rfl (fun _ _ h => h) (⟨bCe (dF (fun h => by have := h.2.1 i hi; rw [ha] at this; omega)), rfl⟩)
   ·
    refine AW.skip ?_
    refine AW.reg ?_
    refine sM ?_
    refine SeqK.q (q_add _ rfl rfl rfl (w64 (by omega) (by omega))) rfl rfl rfl ?_
    refine sA ?_
    refine SeqK.nil ?_
    exact ⟨i + 1, _, Wk.keep 216 [(1, .c (rowC z r)), (2, .lp 2 0), (4, .c (bC false)), (6, iX .i64 (((i + 1) : Nat) : Int))] [(2, .box [.t (.sl .un 1 (c.nl.map i64T)), .t (.sl .un 1 (c.nn.map i64T)), .t (.sl .un 4 (c.ax.map axT)), .t (.sl .un 3 (c.is.map ctT)), .t (.sl .un 4 (c.ts.map tsT)), .t (.sl .un 2 (c.sm.map prT)), .t (.sl .un 2 (c.df.map prT))])] (H) rfl ⟨rfl, rfl, rfl, rfl, trivial⟩ ⟨rfl, trivial⟩ (fun _ _ h => h) rfl, by omega, ⟨hi, upS hi hU2 (by rw [ha]; omega)⟩, rfl⟩
  ·
   refine AW.exit ?_
   refine eth_e ?_
   refine eth_e ?_
   refine exit_here ?_
   refine AW.seq ?_
   have hB := upE hU2 (by rw [List.length_map] at h39; omega)
   refine AW.reg ?_
   refine SeqK.r (b_load (r := .g [_, _, _, _, _, _, _]) rfl Fx.ty28 rfl rfl rfl rfl rfl rfl) rfl ?_
   refine sM ?_
   refine SeqK.q (q_call _ rfl Fx.fn13 rfl (raux_any c r z hc hr hs hok.ax hok.cR) rfl) rfl rfl rfl ?_
   refine SeqK.q (q_mvT rfl rfl) rfl rfl rfl ?_
   refine SeqK.q (q_extract _ rfl rfl rfl) rfl rfl rfl ?_
   refine SeqK.q (q_extract _ rfl rfl rfl) rfl rfl rfl ?_
   refine sA ?_
   refine sA ?_
   refine SeqK.nil ?_
   refine AW.seqM (fun s => ∃ (okb : Bool), (okb = true ↔ ((auV r c.ax []).2 = true) ∧ ∀ j (h : j < c.is.length), inQ r (auV r c.ax []).1 c.is[j]) ∧ s = ⟨216, sp [(1, .c (rowC z r)), (2, .lp 2 0), (4, .c (bC false)), (8, bX okb)], lv [(2, .box [.t (.sl .un 1 (c.nl.map i64T)), .t (.sl .un 1 (c.nn.map i64T)), .t (.sl .un 4 (c.ax.map axT)), .t (.sl .un 3 (c.is.map ctT)), .t (.sl .un 4 (c.ts.map tsT)), .t (.sl .un 2 (c.sm.map prT)), .t (.sl .un 2 (c.df.map prT))])], H⟩) ?_ ?_
   ·
    refine sR ?_
    refine sA ?_
    refine SeqK.nil ?_
    refine AW.block ?_
    refine AW.loop (fun (i : Nat) s => ∃ (okb : Bool), (i ≤ c.is.length ∧ flag okb ((auV r c.ax []).2 = true) (fun j (h : j < c.is.length) => inQ r (auV r c.ax []).1 c.is[j]) i) ∧ s = ⟨216, sp [(1, .c (rowC z r)), (2, .lp 2 0), (4, .c (bC false)), (7, .c (iL .un (auV r c.ax []).1)), (9, iX .i64 ((i : Nat) : Int)), (8, bX okb)], lv [(2, .box [.t (.sl .un 1 (c.nl.map i64T)), .t (.sl .un 1 (c.nn.map i64T)), .t (.sl .un 4 (c.ax.map axT)), .t (.sl .un 3 (c.is.map ctT)), .t (.sl .un 4 (c.ts.map tsT)), .t (.sl .un 2 (c.sm.map prT)), .t (.sl .un 2 (c.df.map prT))])], H⟩) (fun i => c.is.length - i) 0 ⟨_, Wk.keep 216 [(1, .c (rowC z r)), (2, .lp 2 0), (4, .c (bC false)), (7, .c (iL .un (auV r c.ax []).1)), (9, iX .i64 ((((0 : Nat)) : Nat) : Int)), (8, bX ((auV r c.ax []).2))] [(2, .box [.t (.sl .un 1 (c.nl.map i64T)), .t (.sl .un 1 (c.nn.map i64T)), .t (.sl .un 4 (c.ax.map axT)), .t (.sl .un 3 (c.is.map ctT)), .t (.sl .un 4 (c.ts.map tsT)), .t (.sl .un 2 (c.sm.map prT)), .t (.sl .un 2 (c.df.map prT))])] (H) rfl ⟨rfl, rfl, rfl, rfl, rfl, rfl, trivial⟩ ⟨rfl, trivial⟩ (fun _ _ h => h) rfl, (auV r c.ax []).2, ⟨Nat.zero_le _, flag0 (Iff.rfl)⟩, rfl⟩ (fun i s hs => ?_)
    obtain ⟨okb, ⟨hi0, hG⟩, rfl⟩ := hs
    refine AW.seq ?_
    refine sR ?_
    refine sM ?_
    refine SeqK.q (q_fieldL _ rfl Fx.fl28_3 rfl rfl) rfl rfl rfl ?_
    refine SeqK.r (b_load (r := .a _) rfl Fx.ty24 rfl rfl rfl rfl rfl rfl) rfl ?_
    refine SeqK.q (q_len rfl Fx.un24 rfl) rfl rfl rfl ?_
    refine SeqK.q (q_lss rfl rfl rfl) rfl rfl rfl ?_
    refine SeqK.qD (q_mvC rfl rfl) rfl rfl rfl (fun g63 => ?_) (fun g63 => ?_)
    ·
     have hi : i < c.is.length := by rw [List.length_map] at g63; omega
     have hfl := hc.isf _ (List.getElem_mem hi)
     refine SeqK.on (q_mvC rfl rfl) rfl rfl rfl rfl rfl ?_
     refine SeqK.q (q_pkT rfl rfl rfl) rfl rfl rfl ?_
     refine SeqK.nil ?_
     refine AW.cond _ rfl (fun h65 => ?_) (fun h65 => ?_)
     ·
      have hok1 := (hG.1 h65).1
      have hal : (auV r c.ax []).1.length = c.ax.length := by have := auV_len hok1; simpa using this
      have hfi := hok.is i hi
      rw [← hal] at hfi
      refine AW.skip ?_
      refine AW.seq ?_
      refine AW.block ?_
      refine sR ?_
      refine SeqK.q (q_fieldL _ rfl Fx.fl28_3 rfl rfl) rfl rfl rfl ?_
      refine SeqK.r (b_load (r := .a _) rfl Fx.ty24 rfl rfl rfl rfl rfl rfl) rfl ?_
      refine sM ?_
      refine SeqK.q (q_index _ rfl Fx.sl24 rfl rfl (by omega) (idx_map (f := ctT) hi)) rfl rfl rfl ?_
      refine SeqK.q (q_fieldP _ rfl Fx.fl76_0 rfl rfl) rfl rfl rfl ?_
      refine SeqK.q (q_load (.g [_, _]) rfl Fx.ty74 rfl rfl rfl) rfl rfl rfl ?_
      refine sM ?_
      refine sM ?_
      refine SeqK.q (q_call _ rfl Fx.fn28 rfl (rvalue_any _ r _ z .un hr (by omega) hfl hfi) rfl) rfl rfl rfl ?_
      refine SeqK.q (q_mvT rfl rfl) rfl rfl rfl ?_
      refine SeqK.q (q_extract _ rfl rfl rfl) rfl rfl rfl ?_
      refine SeqK.q (q_extract _ rfl rfl rfl) rfl rfl rfl ?_
      refine sA ?_
      refine sA ?_
      refine SeqK.nil ?_
      refine AW.reg ?_
      refine sM ?_
      refine SeqK.qB (q_mvC rfl rfl) rfl rfl rfl (fun g81 => ?_) (fun g81 => ?_)
      ·
       refine SeqK.on (q_mvC rfl rfl) rfl rfl rfl rfl rfl ?_
       refine SeqK.on (q_leq rfl rfl rfl) rfl rfl rfl rfl rfl ?_
       refine SeqK.q (q_pkT rfl rfl rfl) rfl rfl rfl ?_
       refine SeqK.qD (q_mvC rfl rfl) rfl rfl rfl (fun g85 => ?_) (fun g85 => ?_)
       ·
        refine SeqK.on (q_mvC rfl rfl) rfl rfl rfl rfl rfl ?_
        refine SeqK.on (q_eql rfl rfl rfl) rfl rfl rfl rfl rfl ?_
        refine SeqK.onD (q_mvC rfl rfl) rfl rfl rfl rfl rfl (fun g88 => ?_) (fun g88 => ?_)
        ·
         refine SeqK.off rfl rfl rfl rfl rfl rfl ?_
         refine SeqK.off rfl rfl rfl rfl rfl rfl ?_
         refine SeqK.off rfl rfl rfl rfl rfl rfl ?_
         refine SeqK.off rfl rfl rfl rfl rfl rfl ?_
         refine SeqK.off rfl rfl rfl rfl rfl rfl ?_
         refine SeqK.off rfl rfl rfl rfl rfl rfl ?_
         refine SeqK.off rfl rfl rfl rfl rfl rfl ?_
         refine SeqK.on (q_pkT rfl rfl rfl) rfl rfl rfl rfl rfl ?_
         refine SeqK.q (q_pkT rfl rfl rfl) rfl rfl rfl ?_
         refine sA ?_
         refine SeqK.nil ?_
         refine AW.reg ?_
         refine sM ?_
         refine SeqK.q (q_add _ rfl rfl rfl (w64 (by omega) (by omega))) rfl rfl rfl ?_
         refine sA ?_
         refine SeqK.nil ?_
         exact ⟨i + 1, _, Wk.keep 216 [(1, .c (rowC z r)), (2, .lp 2 0), (4, .c (bC false)), (7, .c (iL .un (auV r c.ax []).1)), (9, iX .i64 (((i + 1) : Nat) : Int)), (8, bX (true))] [(2, .box [.t (.sl .un 1 (c.nl.map i64T)), .t (.sl .un 1 (c.nn.map i64T)), .t (.sl .un 4 (c.ax.map axT)), .t (.sl .un 3 (c.is.map ctT)), .t (.sl .un 4 (c.ts.map tsT)), .t (.sl .un 2 (c.sm.map prT)), .t (.sl .un 2 (c.df.map prT))])] (H) rfl ⟨rfl, rfl, rfl, rfl, rfl, rfl, trivial⟩ ⟨rfl, trivial⟩ (fun _ _ h => h) rfl, by omega, true, ⟨hi, flagS hi hG (by assumption) (⟨fun _ => ⟨g81, g85, fun _ => g88⟩, fun _ => rfl⟩)⟩, rfl⟩
        ·
         refine SeqK.on (q_fieldL _ rfl Fx.fl28_3 rfl rfl) rfl rfl rfl rfl rfl ?_
         refine SeqK.rOn (b_load (r := .a _) rfl Fx.ty24 rfl rfl rfl rfl rfl rfl) rfl rfl rfl ?_
         refine SeqK.on (q_mvC rfl rfl) rfl rfl rfl rfl rfl ?_
         refine SeqK.on (q_index _ rfl Fx.sl24 rfl rfl (by omega) (idx_map (f := ctT) hi)) rfl rfl rfl rfl rfl ?_
         refine SeqK.on (q_fieldP _ rfl Fx.fl76_1 rfl rfl) rfl rfl rfl rfl rfl ?_
         refine SeqK.on (q_load (.a _) rfl Fx.ty4 rfl rfl rfl) rfl rfl rfl rfl rfl ?_
         refine SeqK.on (q_not rfl rfl) rfl rfl rfl rfl rfl ?_
         refine SeqK.on (q_pkF rfl rfl rfl) rfl rfl rfl rfl rfl ?_
         refine SeqK.q (q_pkT rfl rfl rfl) rfl rfl rfl ?_
         refine sA ?_
         refine SeqK.nil ?_
         refine AW.reg ?_
         refine sM ?_
         refine SeqK.q (q_add _ rfl rfl rfl (w64 (by omega) (by omega))) rfl rfl rfl ?_
         refine sA ?_
         refine SeqK.nil ?_
         exact ⟨i + 1, _, Wk.keep 216 [(1, .c (rowC z r)), (2, .lp 2 0), (4, .c (bC false)), (7, .c (iL .un (auV r c.ax []).1)), (9, iX .i64 (((i + 1) : Nat) : Int)), (8, bX ((!c.is[i].e)))] [(2, .box [.t (.sl .un 1 (c.nl.map i64T)), .t (.sl .un 1 (c.nn.map i64T)), .t (.sl .un 4 (c.ax.map axT)), .t (.sl .un 3 (c.is.map ctT)), .t (.sl .un 4 (c.ts.map tsT)), .t (.sl .un 2 (c.sm.map prT)), .t (.sl .un 2 (c.df.map prT))])] (H) rfl ⟨rfl, rfl, rfl, rfl, rfl, rfl, trivial⟩ ⟨rfl, trivial⟩ (fun _ _ h => h) rfl, by omega, (!c.is[i].e), ⟨hi, flagS hi hG (by assumption) (⟨fun k => ⟨g81, g85, fun he => by rw [he] at k; cases k⟩, fun k => by cases he : c.is[i].e; rfl; exact absurd (k.2.2 he) g88⟩)⟩, rfl⟩
       ·
        refine SeqK.off rfl rfl rfl rfl rfl rfl ?_
        refine SeqK.off rfl rfl rfl rfl rfl rfl ?_
        refine SeqK.off rfl rfl rfl rfl rfl rfl ?_
        refine SeqK.offU rfl rfl rfl rfl rfl ?_
        refine SeqK.offU rfl rfl rfl rfl rfl ?_
        refine SeqK.offU rfl rfl rfl rfl rfl ?_
        refine SeqK.offU rfl rfl rfl rfl rfl ?_
        refine SeqK.offU rfl rfl rfl rfl rfl ?_
        refine SeqK.offU rfl rfl rfl rfl rfl ?_
        refine SeqK.offU rfl rfl rfl rfl rfl ?_
        refine SeqK.off rfl rfl rfl rfl rfl rfl ?_
        refine SeqK.q (q_pkF rfl rfl rfl) rfl rfl rfl ?_
        refine sA ?_
        refine SeqK.nil ?_
        refine AW.reg ?_
        refine sM ?_
        refine SeqK.q (q_add _ rfl rfl rfl (w64 (by omega) (by omega))) rfl rfl rfl ?_
        refine sA ?_
        refine SeqK.nil ?_
        exact ⟨i + 1, _, Wk.keep 216 [(1, .c (rowC z r)), (2, .lp 2 0), (4, .c (bC false)), (7, .c (iL .un (auV r c.ax []).1)), (9, iX .i64 (((i + 1) : Nat) : Int)), (8, bX (false))] [(2, .box [.t (.sl .un 1 (c.nl.map i64T)), .t (.sl .un 1 (c.nn.map i64T)), .t (.sl .un 4 (c.ax.map axT)), .t (.sl .un 3 (c.is.map ctT)), .t (.sl .un 4 (c.ts.map tsT)), .t (.sl .un 2 (c.sm.map prT)), .t (.sl .un 2 (c.df.map prT))])] (H) rfl ⟨rfl, rfl, rfl, rfl, rfl, rfl, trivial⟩ ⟨rfl, trivial⟩ (fun _ _ h => h) rfl, by omega, false, ⟨hi, flagS hi hG (by assumption) (⟨fun k => (by cases k), fun k => absurd k.2.1 g85⟩)⟩, rfl⟩
      ·
       refine SeqK.off rfl rfl rfl rfl rfl rfl ?_
       refine SeqK.off rfl rfl rfl rfl rfl rfl ?_
       refine SeqK.q (q_pkF rfl rfl rfl) rfl rfl rfl ?_
       refine sM ?_
       refine SeqK.off rfl rfl rfl rfl rfl rfl ?_
       refine SeqK.off rfl rfl rfl rfl rfl rfl ?_
       refine SeqK.off rfl rfl rfl rfl rfl rfl ?_
       refine SeqK.offU rfl rfl rfl rfl rfl ?_
       refine SeqK.offU rfl rfl rfl rfl rfl ?_
       refine SeqK.offU rfl rfl rfl rfl rfl ?_
       refine SeqK.offU rfl rfl rfl rfl rfl ?_
       refine SeqK.offU rfl rfl rfl rfl rfl ?_
       refine SeqK.offU rfl rfl rfl rfl rfl ?_
       refine SeqK.offU rfl rfl rfl rfl rfl ?_
       refine SeqK.off rfl rfl rfl rfl rfl rfl ?_
       refine SeqK.q (q_pkF rfl rfl rfl) rfl rfl rfl ?_
       refine sA ?_
       refine SeqK.nil ?_
       refine AW.reg ?_
       refine sM ?_
       refine SeqK.q (q_add _ rfl rfl rfl (w64 (by omega) (by omega))) rfl rfl rfl ?_
       refine sA ?_
       refine SeqK.nil ?_
       exact ⟨i + 1, _, Wk.keep 216 [(1, .c (rowC z r)), (2, .lp 2 0), (4, .c (bC false)), (7, .c (iL .un (auV r c.ax []).1)), (9, iX .i64 (((i + 1) : Nat) : Int)), (8, bX (false))] [(2, .box [.t (.sl .un 1 (c.nl.map i64T)), .t (.sl .un 1 (c.nn.map i64T)), .t (.sl .un 4 (c.ax.map axT)), .t (.sl .un 3 (c.is.map ctT)), .t (.sl .un 4 (c.ts.map tsT)), .t (.sl .un 2 (c.sm.map prT)), .t (.sl .un 2 (c.df.map prT))])] (H) rfl ⟨rfl, rfl, rfl, rfl, rfl, rfl, trivial⟩ ⟨rfl, trivial⟩ (fun _ _ h => h) rfl, by omega, false, ⟨hi, flagS hi hG (by assumption) (⟨fun k => (by cases k), fun k => by rw [k.1] at g81; cases g81⟩)⟩, rfl⟩
     ·
      refine AW.exit ?_
      refine eth_e ?_
      refine eth_e ?_
      refine exit_here ?_
      exact ⟨_, Wk.keep 216 [(1, .c (rowC z r)), (2, .lp 2 0), (4, .c (bC false)), (8, bX okb)] [(2, .box [.t (.sl .un 1 (c.nl.map i64T)), .t (.sl .un 1 (c.nn.map i64T)), .t (.sl .un 4 (c.ax.map axT)), .t (.sl .un 3 (c.is.map ctT)), .t (.sl .un 4 (c.ts.map tsT)), .t (.sl .un 2 (c.sm.map prT)), .t (.sl .un 2 (c.df.map prT))])] (H) rfl ⟨rfl, rfl, rfl, rfl, trivial⟩ ⟨rfl, trivial⟩ (fun _ _ h => h) rfl, ⟨okb, flagE hG (by first | exact .inl (by rw [List.length_map] at *; omega) | exact .inr (by assumption)), rfl⟩⟩
    ·
     refine SeqK.off rfl rfl rfl rfl rfl rfl ?_
     refine SeqK.q (q_pkF rfl rfl rfl) rfl rfl rfl ?_
     refine SeqK.nil ?_
     refine AW.condF rfl ?_
     refine AW.exit ?_
     refine eth_e ?_
     refine eth_e ?_
     refine exit_here ?_
     exact ⟨_, Wk.keep 216 [(1, .c (rowC z r)), (2, .lp 2 0), (4, .c (bC false)), (8, bX okb)] [(2, .box [.t (.sl .un 1 (c.nl.map i64T)), .t (.sl .un 1 (c.nn.map i64T)), .t (.sl .un 4 (c.ax.map axT)), .t (.sl .un 3 (c.is.map ctT)), .t (.sl .un 4 (c.ts.map tsT)), .t (.sl .un 2 (c.sm.map prT)), .t (.sl .un 2 (c.df.map prT))])] (H) rfl ⟨rfl, rfl, rfl, rfl, trivial⟩ ⟨rfl, trivial⟩ (fun _ _ h => h) rfl, ⟨okb, flagE hG (by first | exact .inl (by rw [List.length_map] at *; omega) | exact .inr (by assumption)), rfl⟩⟩
   ·
    rintro s ⟨okb, hG3, rfl⟩
    refine AW.seqM (fun s => ∃ (okb : Bool), (okb = true ↔ (((auV r c.ax []).2 = true) ∧ ∀ j (h : j < c.is.length), inQ r (auV r c.ax []).1 c.is[j]) ∧ ∀ j (h : j < c.ts.length), tsQ r c.ts[j]) ∧ s = ⟨216, sp [(1, .c (rowC z r)), (2, .lp 2 0), (4, .c (bC false)), (8, bX okb)], lv [(2, .box [.t (.sl .un 1 (c.nl.map i64T)), .t (.sl .un 1 (c.nn.map i64T)), .t (.sl .un 4 (c.ax.map axT)), .t (.sl .un 3 (c.is.map ctT)), .t (.sl .un 4 (c.ts.map tsT)), .t (.sl .un 2 (c.sm.map prT)), .t (.sl .un 2 (c.df.map prT))])], H⟩) ?_ ?_
    ·
     refine sR ?_
     refine sA ?_
     refine SeqK.nil ?_
     refine AW.block ?_
     refine AW.loop (fun (i : Nat) s => ∃ (okb : Bool), (i ≤ c.ts.length ∧ flag okb (((auV r c.ax []).2 = true) ∧ ∀ j (h : j < c.is.length), inQ r (auV r c.ax []).1 c.is[j]) (fun j (h : j < c.ts.length) => tsQ r c.ts[j]) i) ∧ s = ⟨216, sp [(1, .c (rowC z r)), (2, .lp 2 0), (4, .c (bC false)), (12, iX .i64 ((i : Nat) : Int)), (8, bX okb)], lv [(2, .box [.t (.sl .un 1 (c.nl.map i64T)), .t (.sl .un 1 (c.nn.map i64T)), .t (.sl .un 4 (c.ax.map axT)), .t (.sl .un 3 (c.is.map ctT)), .t (.sl .un 4 (c.ts.map tsT)), .t (.sl .un 2 (c.sm.map prT)), .t (.sl .un 2 (c.df.map prT))])], H⟩) (fun i => c.ts.length - i) 0 ⟨_, Wk.keep 216 [(1, .c (rowC z r)), (2, .lp 2 0), (4, .c (bC false)), (12, iX .i64 ((((0 : Nat)) : Nat) : Int)), (8, bX (okb))] [(2, .box [.t (.sl .un 1 (c.nl.map i64T)), .t (.sl .un 1 (c.nn.map i64T)), .t (.sl .un 4 (c.ax.map axT)), .t (.sl .un 3 (c.is.map ctT)), .t (.sl .un 4 (c.ts.map tsT)), .t (.sl .un 2 (c.sm.map prT)), .t (.sl .un 2 (c.df.map prT))])] (H) rfl ⟨rfl, rfl, rfl, rfl, rfl, trivial⟩ ⟨rfl, trivial⟩ (fun _ _ h => h) rfl, okb, ⟨Nat.zero_le _, flag0 (hG3)⟩, rfl⟩ (fun i s hs => ?_)
     obtain ⟨okb, ⟨hi0, hG⟩, rfl⟩ := hs
     refine AW.seq ?_
     refine sR ?_
     refine sM ?_
     refine SeqK.q (q_fieldL _ rfl Fx.fl28_4 rfl rfl) rfl rfl rfl ?_
     refine SeqK.r (b_load (r := .a _) rfl Fx.ty25 rfl rfl rfl rfl rfl rfl) rfl ?_
     refine SeqK.q (q_len rfl Fx.un25 rfl) rfl rfl rfl ?_
     refine SeqK.q (q_lss rfl rfl rfl) rfl rfl rfl ?_
     refine SeqK.qD (q_mvC rfl rfl) rfl rfl rfl (fun g103 => ?_) (fun g103 => ?_)
     ·
      have hi : i < c.ts.length := by rw [List.length_map] at g103; omega
      have h0 := hok.ts i hi
      have ht : (c.ts[i].v).toNat < r.length := by omega
      have ha := at_get ht
      refine SeqK.on (q_mvC rfl rfl) rfl rfl rfl rfl rfl ?_
      refine SeqK.q (q_pkT rfl rfl rfl) rfl rfl rfl ?_
      refine SeqK.nil ?_
      refine AW.cond _ rfl (fun h105 => ?_) (fun h105 => ?_)
      ·
       refine AW.skip ?_
       refine AW.seq ?_
       refine AW.block ?_
       refine sR ?_
       refine sM ?_
       refine SeqK.q (q_fieldL _ rfl Fx.fl28_4 rfl rfl) rfl rfl rfl ?_
       refine SeqK.r (b_load (r := .a _) rfl Fx.ty25 rfl rfl rfl rfl rfl rfl) rfl ?_
       refine sM ?_
       refine SeqK.q (q_index _ rfl Fx.sl25 rfl rfl (by omega) (idx_map (f := tsT) hi)) rfl rfl rfl ?_
       refine SeqK.q (q_fieldP _ rfl Fx.fl61_0 rfl rfl) rfl rfl rfl ?_
       refine SeqK.q (q_load (.a _) rfl Fx.ty3 rfl rfl rfl) rfl rfl rfl ?_
       refine SeqK.q (q_index _ rfl Fx.sl31 rfl rfl (by omega) (idx_map (f := rvT) ht)) rfl rfl rfl ?_
       refine SeqK.q (q_load (.g [_, _, _]) rfl Fx.ty42 rfl rfl rfl) rfl rfl rfl ?_
       refine SeqK.r (b_alloc (r := [_, _, _]) rfl rfl Fx.ze42 rfl rfl rfl rfl) rfl ?_
       refine SeqK.r (b_store (r := [_, _, _]) rfl rfl Fx.ty42 rfl rfl rfl rfl rfl rfl) rfl ?_
       refine SeqK.nil ?_
       refine AW.draw Fx.mo ?_
       refine LexK.q (q_fieldL _ rfl Fx.fl42_0 rfl rfl) rfl rfl rfl ?_
       refine LexK.r (b_load (r := .a _) rfl Fx.ty3 rfl rfl rfl rfl rfl rfl) rfl ?_
       refine LexK.q (q_eql rfl rfl rfl) rfl rfl rfl ?_
       refine LexK.qD (q_mvC rfl rfl) rfl rfl rfl (fun g120 => ?_) (fun g120 => ?_)
       ·
        refine LexK.on (q_fieldL _ rfl Fx.fl28_4 rfl rfl) rfl rfl rfl rfl rfl ?_
        refine LexK.rOn (b_load (r := .a _) rfl Fx.ty25 rfl rfl rfl rfl rfl rfl) rfl rfl rfl ?_
        refine LexK.on (q_mvC rfl rfl) rfl rfl rfl rfl rfl ?_
        refine LexK.on (q_index _ rfl Fx.sl25 rfl rfl (by omega) (idx_map (f := tsT) hi)) rfl rfl rfl rfl rfl ?_
        refine LexK.on (q_load (.g [_, _, _, _]) rfl Fx.ty61 rfl rfl rfl) rfl rfl rfl rfl rfl ?_
        refine LexK.on (q_fieldL _ rfl Fx.fl42_2 rfl rfl) rfl rfl rfl rfl rfl ?_
        refine LexK.rOn (b_load (r := .a _) rfl Fx.ty9 rfl rfl rfl rfl rfl rfl) rfl rfl rfl ?_
        refine LexK.on (q_call _ rfl Fx.fn29 rfl (hps _ (List.getElem_mem hi) _ (hs _ (List.getElem_mem _))) rfl) rfl rfl rfl rfl rfl ?_
        refine LexK.q (q_pkT rfl rfl rfl) rfl rfl rfl ?_
        refine LexK.q (q_asC rfl rfl) rfl rfl rfl ?_
        refine LexK.nil (by kernel_rfl) ?_
        refine AW.reg ?_
        refine sM ?_
        refine SeqK.q (q_add _ rfl rfl rfl (w64 (by omega) (by omega))) rfl rfl rfl ?_
        refine sA ?_
        refine SeqK.nil ?_
        exact ⟨i + 1, _, Wk.keep 216 [(1, .c (rowC z r)), (2, .lp 2 0), (4, .c (bC false)), (12, iX .i64 (((i + 1) : Nat) : Int)), (8, bX ((decide (psB c.ts[i] r[c.ts[i].v.toNat].s ≠ c.ts[i].n))))] [(2, .box [.t (.sl .un 1 (c.nl.map i64T)), .t (.sl .un 1 (c.nn.map i64T)), .t (.sl .un 4 (c.ax.map axT)), .t (.sl .un 3 (c.is.map ctT)), .t (.sl .un 4 (c.ts.map tsT)), .t (.sl .un 2 (c.sm.map prT)), .t (.sl .un 2 (c.df.map prT))])] (H) rfl ⟨rfl, rfl, rfl, rfl, rfl, trivial⟩ ⟨rfl, trivial⟩ (fun _ _ h => h) rfl, by omega, (decide (psB c.ts[i] r[c.ts[i].v.toNat].s ≠ c.ts[i].n)), ⟨hi, flagS hi hG (by assumption) (decide_eq_true_iff.trans ⟨fun k => ⟨by rw [ha]; exact g120, by rw [ha]; exact k⟩, fun k => by have := k.2; rw [ha] at this; exact this⟩)⟩, rfl⟩
       ·
        refine LexK.off rfl rfl rfl rfl rfl rfl ?_
        refine LexK.off rfl rfl rfl rfl rfl rfl ?_
        refine LexK.off rfl rfl rfl rfl rfl rfl ?_
        refine LexK.off rfl rfl rfl rfl rfl rfl ?_
        refine LexK.off rfl rfl rfl rfl rfl rfl ?_
        refine LexK.off rfl rfl rfl rfl rfl rfl ?_
        refine LexK.off rfl rfl rfl rfl rfl rfl ?_
        refine LexK.off rfl rfl rfl rfl rfl rfl ?_
        refine LexK.q (q_pkF rfl rfl rfl) rfl rfl rfl ?_
        refine LexK.q (q_asC rfl rfl) rfl rfl rfl ?_
        refine LexK.nil (by kernel_rfl) ?_
        refine AW.reg ?_
        refine sM ?_
        refine SeqK.q (q_add _ rfl rfl rfl (w64 (by omega) (by omega))) rfl rfl rfl ?_
        refine sA ?_
        refine SeqK.nil ?_
        exact ⟨i + 1, _, Wk.keep 216 [(1, .c (rowC z r)), (2, .lp 2 0), (4, .c (bC false)), (12, iX .i64 (((i + 1) : Nat) : Int)), (8, bX (false))] [(2, .box [.t (.sl .un 1 (c.nl.map i64T)), .t (.sl .un 1 (c.nn.map i64T)), .t (.sl .un 4 (c.ax.map axT)), .t (.sl .un 3 (c.is.map ctT)), .t (.sl .un 4 (c.ts.map tsT)), .t (.sl .un 2 (c.sm.map prT)), .t (.sl .un 2 (c.df.map prT))])] (H) rfl ⟨rfl, rfl, rfl, rfl, rfl, trivial⟩ ⟨rfl, trivial⟩ (fun _ _ h => h) rfl, by omega, false, ⟨hi, flagS hi hG (by assumption) (⟨fun k => (by cases k), fun k => absurd (by have := k.1; rw [ha] at this; exact this) g120⟩)⟩, rfl⟩
      ·
       refine AW.exit ?_
       refine eth_e ?_
       refine eth_e ?_
       refine exit_here ?_
       exact ⟨_, Wk.keep 216 [(1, .c (rowC z r)), (2, .lp 2 0), (4, .c (bC false)), (8, bX okb)] [(2, .box [.t (.sl .un 1 (c.nl.map i64T)), .t (.sl .un 1 (c.nn.map i64T)), .t (.sl .un 4 (c.ax.map axT)), .t (.sl .un 3 (c.is.map ctT)), .t (.sl .un 4 (c.ts.map tsT)), .t (.sl .un 2 (c.sm.map prT)), .t (.sl .un 2 (c.df.map prT))])] (H) rfl ⟨rfl, rfl, rfl, rfl, trivial⟩ ⟨rfl, trivial⟩ (fun _ _ h => h) rfl, ⟨okb, flagE hG (by first | exact .inl (by rw [List.length_map] at *; omega) | exact .inr (by assumption)), rfl⟩⟩
     ·
      refine SeqK.off rfl rfl rfl rfl rfl rfl ?_
      refine SeqK.q (q_pkF rfl rfl rfl) rfl rfl rfl ?_
      refine SeqK.nil ?_
      refine AW.condF rfl ?_
      refine AW.exit ?_
      refine eth_e ?_
      refine eth_e ?_
      refine exit_here ?_
      exact ⟨_, Wk.keep 216 [(1, .c (rowC z r)), (2, .lp 2 0), (4, .c (bC false)), (8, bX okb)] [(2, .box [.t (.sl .un 1 (c.nl.map i64T)), .t (.sl .un 1 (c.nn.map i64T)), .t (.sl .un 4 (c.ax.map axT)), .t (.sl .un 3 (c.is.map ctT)), .t (.sl .un 4 (c.ts.map tsT)), .t (.sl .un 2 (c.sm.map prT)), .t (.sl .un 2 (c.df.map prT))])] (H) rfl ⟨rfl, rfl, rfl, rfl, trivial⟩ ⟨rfl, trivial⟩ (fun _ _ h => h) rfl, ⟨okb, flagE hG (by first | exact .inl (by rw [List.length_map] at *; omega) | exact .inr (by assumption)), rfl⟩⟩
    ·
     rintro s ⟨okb, hG4, rfl⟩
     refine AW.seqM (fun s => ∃ (okb : Bool), (okb = true ↔ ((((auV r c.ax []).2 = true) ∧ ∀ j (h : j < c.is.length), inQ r (auV r c.ax []).1 c.is[j]) ∧ ∀ j (h : j < c.ts.length), tsQ r c.ts[j]) ∧ ∀ j (h : j < c.sm.length), smQ r c.sm[j]) ∧ s = ⟨216, sp [(1, .c (rowC z r)), (2, .lp 2 0), (4, .c (bC false)), (8, bX okb)], lv [(2, .box [.t (.sl .un 1 (c.nl.map i64T)), .t (.sl .un 1 (c.nn.map i64T)), .t (.sl .un 4 (c.ax.map axT)), .t (.sl .un 3 (c.is.map ctT)), .t (.sl .un 4 (c.ts.map tsT)), .t (.sl .un 2 (c.sm.map prT)), .t (.sl .un 2 (c.df.map prT))])], H⟩) ?_ ?_
     ·
      refine sR ?_
      refine sA ?_
      refine SeqK.nil ?_
      refine AW.block ?_
      refine AW.loop (fun (i : Nat) s => ∃ (okb : Bool), (i ≤ c.sm.length ∧ flag okb ((((auV r c.ax []).2 = true) ∧ ∀ j (h : j < c.is.length), inQ r (auV r c.ax []).1 c.is[j]) ∧ ∀ j (h : j < c.ts.length), tsQ r c.ts[j]) (fun j (h : j < c.sm.length) => smQ r c.sm[j]) i) ∧ s = ⟨216, sp [(1, .c (rowC z r)), (2, .lp 2 0), (4, .c (bC false)), (14, iX .i64 ((i : Nat) : Int)), (8, bX okb)], lv [(2, .box [.t (.sl .un 1 (c.nl.map i64T)), .t (.sl .un 1 (c.nn.map i64T)), .t (.sl .un 4 (c.ax.map axT)), .t (.sl .un 3 (c.is.map ctT)), .t (.sl .un 4 (c.ts.map tsT)), .t (.sl .un 2 (c.sm.map prT)), .t (.sl .un 2 (c.df.map prT))])], H⟩) (fun i => c.sm.length - i) 0 ⟨_, Wk.keep 216 [(1, .c (rowC z r)), (2, .lp 2 0), (4, .c (bC false)), (14, iX .i64 ((((0 : Nat)) : Nat) : Int)), (8, bX (okb))] [(2, .box [.t (.sl .un 1 (c.nl.map i64T)), .t (.sl .un 1 (c.nn.map i64T)), .t (.sl .un 4 (c.ax.map axT)), .t (.sl .un 3 (c.is.map ctT)), .t (.sl .un 4 (c.ts.map tsT)), .t (.sl .un 2 (c.sm.map prT)), .t (.sl .un 2 (c.df.map prT))])] (H) rfl ⟨rfl, rfl, rfl, rfl, rfl, trivial⟩ ⟨rfl, trivial⟩ (fun _ _ h => h) rfl, okb, ⟨Nat.zero_le _, flag0 (hG4)⟩, rfl⟩ (fun i s hs => ?_)
      obtain ⟨okb, ⟨hi0, hG⟩, rfl⟩ := hs
      refine AW.seq ?_
      refine sR ?_
      refine sM ?_
      refine SeqK.q (q_fieldL _ rfl Fx.fl28_5 rfl rfl) rfl rfl rfl ?_
      refine SeqK.r (b_load (r := .a _) rfl Fx.ty26 rfl rfl rfl rfl rfl rfl) rfl ?_
      refine SeqK.q (q_len rfl Fx.un26 rfl) rfl rfl rfl ?_
      refine SeqK.q (q_lss rfl rfl rfl) rfl rfl rfl ?_
      refine SeqK.qD (q_mvC rfl rfl) rfl rfl rfl (fun g135 => ?_) (fun g135 => ?_)
      ·
       have hi : i < c.sm.length := by rw [List.length_map] at g135; omega
       have h0 := (hok.sm i hi).1
       have ht : (c.sm[i].1).toNat < r.length := by omega
       have ha := at_get ht
       have h02 := (hok.sm i hi).2
       have ht2 : (c.sm[i].2).toNat < r.length := by omega
       have ha2 := at_get ht2
       refine SeqK.on (q_mvC rfl rfl) rfl rfl rfl rfl rfl ?_
       refine SeqK.q (q_pkT rfl rfl rfl) rfl rfl rfl ?_
       refine SeqK.nil ?_
       refine AW.cond _ rfl (fun h137 => ?_) (fun h137 => ?_)
       ·
        refine AW.skip ?_
        refine AW.seq ?_
        refine AW.block ?_
        refine AW.draw Fx.mo ?_
        refine LexK.q (q_mvC rfl rfl) rfl rfl rfl ?_
        refine LexK.q (q_fieldL _ rfl Fx.fl28_5 rfl rfl) rfl rfl rfl ?_
        refine LexK.r (b_load (r := .a _) rfl Fx.ty26 rfl rfl rfl rfl rfl rfl) rfl ?_
        refine LexK.q (q_mvC rfl rfl) rfl rfl rfl ?_
        refine LexK.q (q_index _ rfl Fx.sl26 rfl rfl (by omega) (idx_map (f := prT) hi)) rfl rfl rfl ?_
        refine LexK.q (q_indexP _ rfl Fx.ar80 rfl rfl (by omega) (by omega) rfl) rfl rfl rfl ?_
        refine LexK.q (q_load (.a _) rfl Fx.ty3 rfl rfl rfl) rfl rfl rfl ?_
        refine LexK.q (q_index _ rfl Fx.sl31 rfl rfl (by omega) (idx_map (f := rvT) ht)) rfl rfl rfl ?_
        refine LexK.q (q_fieldP _ rfl Fx.fl42_0 rfl rfl) rfl rfl rfl ?_
        refine LexK.q (q_load (.a _) rfl Fx.ty3 rfl rfl rfl) rfl rfl rfl ?_
        refine LexK.q (q_eql rfl rfl rfl) rfl rfl rfl ?_
        refine LexK.qD (q_mvC rfl rfl) rfl rfl rfl (fun g151 => ?_) (fun g151 => ?_)
        ·
         refine LexK.on (q_mvC rfl rfl) rfl rfl rfl rfl rfl ?_
         refine LexK.on (q_fieldL _ rfl Fx.fl28_5 rfl rfl) rfl rfl rfl rfl rfl ?_
         refine LexK.rOn (b_load (r := .a _) rfl Fx.ty26 rfl rfl rfl rfl rfl rfl) rfl rfl rfl ?_
         refine LexK.on (q_mvC rfl rfl) rfl rfl rfl rfl rfl ?_
         refine LexK.on (q_index _ rfl Fx.sl26 rfl rfl (by omega) (idx_map (f := prT) hi)) rfl rfl rfl rfl rfl ?_
         refine LexK.on (q_indexP _ rfl Fx.ar80 rfl rfl (by omega) (by omega) rfl) rfl rfl rfl rfl rfl ?_
         refine LexK.on (q_load (.a _) rfl Fx.ty3 rfl rfl rfl) rfl rfl rfl rfl rfl ?_
         refine LexK.on (q_index _ rfl Fx.sl31 rfl rfl (by omega) (idx_map (f := rvT) ht)) rfl rfl rfl rfl rfl ?_
         refine LexK.on (q_load (.g [_, _, _]) rfl Fx.ty42 rfl rfl rfl) rfl rfl rfl rfl rfl ?_
         refine LexK.on (q_mvC rfl rfl) rfl rfl rfl rfl rfl ?_
         refine LexK.on (q_fieldL _ rfl Fx.fl28_5 rfl rfl) rfl rfl rfl rfl rfl ?_
         refine LexK.rOn (b_load (r := .a _) rfl Fx.ty26 rfl rfl rfl rfl rfl rfl) rfl rfl rfl ?_
         refine LexK.on (q_mvC rfl rfl) rfl rfl rfl rfl rfl ?_
         refine LexK.on (q_index _ rfl Fx.sl26 rfl rfl (by omega) (idx_map (f := prT) hi)) rfl rfl rfl rfl rfl ?_
         refine LexK.on (q_indexP _ rfl Fx.ar80 rfl rfl (by omega) (by omega) rfl) rfl rfl rfl rfl rfl ?_
         refine LexK.on (q_load (.a _) rfl Fx.ty3 rfl rfl rfl) rfl rfl rfl rfl rfl ?_
         refine LexK.on (q_index _ rfl Fx.sl31 rfl rfl (by omega) (idx_map (f := rvT) ht2)) rfl rfl rfl rfl rfl ?_
         refine LexK.on (q_load (.g [_, _, _]) rfl Fx.ty42 rfl rfl rfl) rfl rfl rfl rfl rfl ?_
         refine LexK.on (q_eqlG [.int .i64 r[c.sm[i].1.toNat].k, .int .i64 r[c.sm[i].1.toNat].n, .string r[c.sm[i].1.toNat].s] [.int .i64 r[c.sm[i].2.toNat].k, .int .i64 r[c.sm[i].2.toNat].n, .string r[c.sm[i].2.toNat].s] rfl rfl rfl rfl rfl (by kernel_rfl) (fun w => eq42 _ _ _ _ _ _ w)) rfl rfl rfl rfl rfl ?_
         refine LexK.q (q_pkT rfl rfl rfl) rfl rfl rfl ?_
         refine LexK.q (q_asC rfl rfl) rfl rfl rfl ?_
         refine LexK.nil (by kernel_rfl) ?_
         refine AW.reg ?_
         refine sM ?_
         refine SeqK.q (q_add _ rfl rfl rfl (w64 (by omega) (by omega))) rfl rfl rfl ?_
         refine sA ?_
         refine SeqK.nil ?_
         exact ⟨i + 1, _, Wk.keep 216 [(1, .c (rowC z r)), (2, .lp 2 0), (4, .c (bC false)), (14, iX .i64 (((i + 1) : Nat) : Int)), (8, bX ((decide (r[c.sm[i].1.toNat].k = r[c.sm[i].2.toNat].k) && decide (r[c.sm[i].1.toNat].n = r[c.sm[i].2.toNat].n) && decide (r[c.sm[i].1.toNat].s = r[c.sm[i].2.toNat].s))))] [(2, .box [.t (.sl .un 1 (c.nl.map i64T)), .t (.sl .un 1 (c.nn.map i64T)), .t (.sl .un 4 (c.ax.map axT)), .t (.sl .un 3 (c.is.map ctT)), .t (.sl .un 4 (c.ts.map tsT)), .t (.sl .un 2 (c.sm.map prT)), .t (.sl .un 2 (c.df.map prT))])] (H) rfl ⟨rfl, rfl, rfl, rfl, rfl, trivial⟩ ⟨rfl, trivial⟩ (fun _ _ h => h) rfl, by omega, (decide (r[c.sm[i].1.toNat].k = r[c.sm[i].2.toNat].k) && decide (r[c.sm[i].1.toNat].n = r[c.sm[i].2.toNat].n) && decide (r[c.sm[i].1.toNat].s = r[c.sm[i].2.toNat].s)), ⟨hi, flagS hi hG (by assumption) (by rw [beq3 (hv _ (List.getElem_mem ht)) (hv _ (List.getElem_mem ht2)) g151, decide_eq_true_iff]; exact ⟨fun k => ⟨by rw [ha]; exact g151, by rw [ha2]; exact k.1, by rw [ha, ha2]; exact k.2⟩, fun k => ⟨by have := k.2.1; rw [ha2] at this; exact this, by have := k.2.2; rw [ha, ha2] at this; exact this⟩⟩)⟩, rfl⟩
        ·
         refine LexK.off rfl rfl rfl rfl rfl rfl ?_
         refine LexK.off rfl rfl rfl rfl rfl rfl ?_
         refine LexK.off rfl rfl rfl rfl rfl rfl ?_
         refine LexK.off rfl rfl rfl rfl rfl rfl ?_
         refine LexK.off rfl rfl rfl rfl rfl rfl ?_
         refine LexK.off rfl rfl rfl rfl rfl rfl ?_
         refine LexK.off rfl rfl rfl rfl rfl rfl ?_
         refine LexK.off rfl rfl rfl rfl rfl rfl ?_
         refine LexK.off rfl rfl rfl rfl rfl rfl ?_
         refine LexK.off rfl rfl rfl rfl rfl rfl ?_
         refine LexK.off rfl rfl rfl rfl rfl rfl ?_
         refine LexK.off rfl rfl rfl rfl rfl rfl ?_
         refine LexK.off rfl rfl rfl rfl rfl rfl ?_
         refine LexK.off rfl rfl rfl rfl rfl rfl ?_
         refine LexK.off rfl rfl rfl rfl rfl rfl ?_
         refine LexK.off rfl rfl rfl rfl rfl rfl ?_
         refine LexK.off rfl rfl rfl rfl rfl rfl ?_
         refine LexK.off rfl rfl rfl rfl rfl rfl ?_
         refine LexK.off rfl rfl rfl rfl rfl rfl ?_
         refine LexK.q (q_pkF rfl rfl rfl) rfl rfl rfl ?_
         refine LexK.q (q_asC rfl rfl) rfl rfl rfl ?_
         refine LexK.nil (by kernel_rfl) ?_
         refine AW.reg ?_
         refine sM ?_
         refine SeqK.q (q_add _ rfl rfl rfl (w64 (by omega) (by omega))) rfl rfl rfl ?_
         refine sA ?_
         refine SeqK.nil ?_
         exact ⟨i + 1, _, Wk.keep 216 [(1, .c (rowC z r)), (2, .lp 2 0), (4, .c (bC false)), (14, iX .i64 (((i + 1) : Nat) : Int)), (8, bX (false))] [(2, .box [.t (.sl .un 1 (c.nl.map i64T)), .t (.sl .un 1 (c.nn.map i64T)), .t (.sl .un 4 (c.ax.map axT)), .t (.sl .un 3 (c.is.map ctT)), .t (.sl .un 4 (c.ts.map tsT)), .t (.sl .un 2 (c.sm.map prT)), .t (.sl .un 2 (c.df.map prT))])] (H) rfl ⟨rfl, rfl, rfl, rfl, rfl, trivial⟩ ⟨rfl, trivial⟩ (fun _ _ h => h) rfl, by omega, false, ⟨hi, flagS hi hG (by assumption) (⟨fun k => (by cases k), fun k => absurd (by have := k.1; rw [ha] at this; exact this) g151⟩)⟩, rfl⟩
       ·
        refine AW.exit ?_
        refine eth_e ?_
        refine eth_e ?_
        refine exit_here ?_
        exact ⟨_, Wk.keep 216 [(1, .c (rowC z r)), (2, .lp 2 0), (4, .c (bC false)), (8, bX okb)] [(2, .box [.t (.sl .un 1 (c.nl.map i64T)), .t (.sl .un 1 (c.nn.map i64T)), .t (.sl .un 4 (c.ax.map axT)), .t (.sl .un 3 (c.is.map ctT)), .t (.sl .un 4 (c.ts.map tsT)), .t (.sl .un 2 (c.sm.map prT)), .t (.sl .un 2 (c.df.map prT))])] (H) rfl ⟨rfl, rfl, rfl, rfl, trivial⟩ ⟨rfl, trivial⟩ (fun _ _ h => h) rfl, ⟨okb, flagE hG (by first | exact .inl (by rw [List.length_map] at *; omega) | exact .inr (by assumption)), rfl⟩⟩
      ·
       refine SeqK.off rfl rfl rfl rfl rfl rfl ?_
       refine SeqK.q (q_pkF rfl rfl rfl) rfl rfl rfl ?_
       refine SeqK.nil ?_
       refine AW.condF rfl ?_
       refine AW.exit ?_
       refine eth_e ?_
       refine eth_e ?_
       refine exit_here ?_
       exact ⟨_, Wk.keep 216 [(1, .c (rowC z r)), (2, .lp 2 0), (4, .c (bC false)), (8, bX okb)] [(2, .box [.t (.sl .un 1 (c.nl.map i64T)), .t (.sl .un 1 (c.nn.map i64T)), .t (.sl .un 4 (c.ax.map axT)), .t (.sl .un 3 (c.is.map ctT)), .t (.sl .un 4 (c.ts.map tsT)), .t (.sl .un 2 (c.sm.map prT)), .t (.sl .un 2 (c.df.map prT))])] (H) rfl ⟨rfl, rfl, rfl, rfl, trivial⟩ ⟨rfl, trivial⟩ (fun _ _ h => h) rfl, ⟨okb, flagE hG (by first | exact .inl (by rw [List.length_map] at *; omega) | exact .inr (by assumption)), rfl⟩⟩
     ·
      rintro s ⟨okb, hG5, rfl⟩
      refine AW.seqM (fun s => ∃ (okb : Bool), (okb = true ↔ (((((auV r c.ax []).2 = true) ∧ ∀ j (h : j < c.is.length), inQ r (auV r c.ax []).1 c.is[j]) ∧ ∀ j (h : j < c.ts.length), tsQ r c.ts[j]) ∧ ∀ j (h : j < c.sm.length), smQ r c.sm[j]) ∧ ∀ j (h : j < c.df.length), dfQ r c.df[j]) ∧ s = ⟨216, sp [(1, .c (rowC z r)), (2, .lp 2 0), (4, .c (bC false)), (8, bX okb)], lv [(2, .box [.t (.sl .un 1 (c.nl.map i64T)), .t (.sl .un 1 (c.nn.map i64T)), .t (.sl .un 4 (c.ax.map axT)), .t (.sl .un 3 (c.is.map ctT)), .t (.sl .un 4 (c.ts.map tsT)), .t (.sl .un 2 (c.sm.map prT)), .t (.sl .un 2 (c.df.map prT))])], H⟩) ?_ ?_
      ·
       refine sR ?_
       refine sA ?_
       refine SeqK.nil ?_
       refine AW.block ?_
       refine AW.loop (fun (i : Nat) s => ∃ (okb : Bool), (i ≤ c.df.length ∧ flag okb (((((auV r c.ax []).2 = true) ∧ ∀ j (h : j < c.is.length), inQ r (auV r c.ax []).1 c.is[j]) ∧ ∀ j (h : j < c.ts.length), tsQ r c.ts[j]) ∧ ∀ j (h : j < c.sm.length), smQ r c.sm[j]) (fun j (h : j < c.df.length) => dfQ r c.df[j]) i) ∧ s = ⟨216, sp [(1, .c (rowC z r)), (2, .lp 2 0), (4, .c (bC false)), (15, iX .i64 ((i : Nat) : Int)), (8, bX okb)], lv [(2, .box [.t (.sl .un 1 (c.nl.map i64T)), .t (.sl .un 1 (c.nn.map i64T)), .t (.sl .un 4 (c.ax.map axT)), .t (.sl .un 3 (c.is.map ctT)), .t (.sl .un 4 (c.ts.map tsT)), .t (.sl .un 2 (c.sm.map prT)), .t (.sl .un 2 (c.df.map prT))])], H⟩) (fun i => c.df.length - i) 0 ⟨_, Wk.keep 216 [(1, .c (rowC z r)), (2, .lp 2 0), (4, .c (bC false)), (15, iX .i64 ((((0 : Nat)) : Nat) : Int)), (8, bX (okb))] [(2, .box [.t (.sl .un 1 (c.nl.map i64T)), .t (.sl .un 1 (c.nn.map i64T)), .t (.sl .un 4 (c.ax.map axT)), .t (.sl .un 3 (c.is.map ctT)), .t (.sl .un 4 (c.ts.map tsT)), .t (.sl .un 2 (c.sm.map prT)), .t (.sl .un 2 (c.df.map prT))])] (H) rfl ⟨rfl, rfl, rfl, rfl, rfl, trivial⟩ ⟨rfl, trivial⟩ (fun _ _ h => h) rfl, okb, ⟨Nat.zero_le _, flag0 (hG5)⟩, rfl⟩ (fun i s hs => ?_)
       obtain ⟨okb, ⟨hi0, hG⟩, rfl⟩ := hs
       refine AW.seq ?_
       refine sR ?_
       refine sM ?_
       refine SeqK.q (q_fieldL _ rfl Fx.fl28_6 rfl rfl) rfl rfl rfl ?_
       refine SeqK.r (b_load (r := .a _) rfl Fx.ty26 rfl rfl rfl rfl rfl rfl) rfl ?_
       refine SeqK.q (q_len rfl Fx.un26 rfl) rfl rfl rfl ?_
       refine SeqK.q (q_lss rfl rfl rfl) rfl rfl rfl ?_
       refine SeqK.qD (q_mvC rfl rfl) rfl rfl rfl (fun g177 => ?_) (fun g177 => ?_)
       ·
        have hi : i < c.df.length := by rw [List.length_map] at g177; omega
        have h0 := (hok.df i hi).1
        have ht : (c.df[i].1).toNat < r.length := by omega
        have ha := at_get ht
        have h02 := (hok.df i hi).2
        have ht2 : (c.df[i].2).toNat < r.length := by omega
        have ha2 := at_get ht2
        refine SeqK.on (q_mvC rfl rfl) rfl rfl rfl rfl rfl ?_
        refine SeqK.q (q_pkT rfl rfl rfl) rfl rfl rfl ?_
        refine SeqK.nil ?_
        refine AW.cond _ rfl (fun h179 => ?_) (fun h179 => ?_)
        ·
         refine AW.skip ?_
         refine AW.seq ?_
         refine AW.block ?_
         refine AW.seq ?_
         refine AW.draw Fx.mo ?_
         refine LexK.q (q_mvC rfl rfl) rfl rfl rfl ?_
         refine LexK.q (q_fieldL _ rfl Fx.fl28_6 rfl rfl) rfl rfl rfl ?_
         refine LexK.r (b_load (r := .a _) rfl Fx.ty26 rfl rfl rfl rfl rfl rfl) rfl ?_
         refine LexK.q (q_mvC rfl rfl) rfl rfl rfl ?_
         refine LexK.q (q_index _ rfl Fx.sl26 rfl rfl (by omega) (idx_map (f := prT) hi)) rfl rfl rfl ?_
         refine LexK.q (q_indexP _ rfl Fx.ar80 rfl rfl (by omega) (by omega) rfl) rfl rfl rfl ?_
         refine LexK.q (q_load (.a _) rfl Fx.ty3 rfl rfl rfl) rfl rfl rfl ?_
         refine LexK.q (q_index _ rfl Fx.sl31 rfl rfl (by omega) (idx_map (f := rvT) ht)) rfl rfl rfl ?_
         refine LexK.q (q_load (.g [_, _, _]) rfl Fx.ty42 rfl rfl rfl) rfl rfl rfl ?_
         refine LexK.q (q_mvC rfl rfl) rfl rfl rfl ?_
         refine LexK.q (q_fieldL _ rfl Fx.fl28_6 rfl rfl) rfl rfl rfl ?_
         refine LexK.r (b_load (r := .a _) rfl Fx.ty26 rfl rfl rfl rfl rfl rfl) rfl ?_
         refine LexK.q (q_mvC rfl rfl) rfl rfl rfl ?_
         refine LexK.q (q_index _ rfl Fx.sl26 rfl rfl (by omega) (idx_map (f := prT) hi)) rfl rfl rfl ?_
         refine LexK.q (q_indexP _ rfl Fx.ar80 rfl rfl (by omega) (by omega) rfl) rfl rfl rfl ?_
         refine LexK.q (q_load (.a _) rfl Fx.ty3 rfl rfl rfl) rfl rfl rfl ?_
         refine LexK.q (q_index _ rfl Fx.sl31 rfl rfl (by omega) (idx_map (f := rvT) ht2)) rfl rfl rfl ?_
         refine LexK.q (q_load (.g [_, _, _]) rfl Fx.ty42 rfl rfl rfl) rfl rfl rfl ?_
         refine LexK.r (b_alloc (r := [_, _, _]) rfl rfl Fx.ze42 rfl rfl rfl rfl) rfl ?_
         refine LexK.r (b_alloc (r := [_, _, _]) rfl rfl Fx.ze42 rfl rfl rfl rfl) rfl ?_
         refine LexK.r (b_store (r := [_, _, _]) rfl rfl Fx.ty42 rfl rfl rfl rfl rfl rfl) rfl ?_
         refine LexK.r (b_store (r := [_, _, _]) rfl rfl Fx.ty42 rfl rfl rfl rfl rfl rfl) rfl ?_
         refine LexK.nil (by kernel_rfl) ?_
         refine AW.reg ?_
         refine SeqK.q (q_fieldL _ rfl Fx.fl42_0 rfl rfl) rfl rfl rfl ?_
         refine SeqK.r (b_load (r := .a _) rfl Fx.ty3 rfl rfl rfl rfl rfl rfl) rfl ?_
         refine SeqK.q (q_eql rfl rfl rfl) rfl rfl rfl ?_
         refine SeqK.qD (q_mvC rfl rfl) rfl rfl rfl (fun g203 => ?_) (fun g203 => ?_)
         ·
          refine SeqK.on (q_fieldL _ rfl Fx.fl42_0 rfl rfl) rfl rfl rfl rfl rfl ?_
          refine SeqK.rOn (b_load (r := .a _) rfl Fx.ty3 rfl rfl rfl rfl rfl rfl) rfl rfl rfl ?_
          refine SeqK.on (q_eql rfl rfl rfl) rfl rfl rfl rfl rfl ?_
          refine SeqK.q (q_pkT rfl rfl rfl) rfl rfl rfl ?_
          refine SeqK.qD (q_mvC rfl rfl) rfl rfl rfl (fun g208 => ?_) (fun g208 => ?_)
          ·
           refine SeqK.on (q_fieldL _ rfl Fx.fl42_2 rfl rfl) rfl rfl rfl rfl rfl ?_
           refine SeqK.rOn (b_load (r := .a _) rfl Fx.ty9 rfl rfl rfl rfl rfl rfl) rfl rfl rfl ?_
           refine SeqK.on (q_fieldL _ rfl Fx.fl42_2 rfl rfl) rfl rfl rfl rfl rfl ?_
           refine SeqK.rOn (b_load (r := .a _) rfl Fx.ty9 rfl rfl rfl rfl rfl rfl) rfl rfl rfl ?_
           refine SeqK.on (q_neqS rfl rfl rfl) rfl rfl rfl rfl rfl ?_
           refine SeqK.q (q_pkT rfl rfl rfl) rfl rfl rfl ?_
           refine sA ?_
           refine SeqK.nil ?_
           refine AW.reg ?_
           refine sM ?_
           refine SeqK.q (q_add _ rfl rfl rfl (w64 (by omega) (by omega))) rfl rfl rfl ?_
           refine sA ?_
           refine SeqK.nil ?_
           exact ⟨i + 1, _, Wk.keep 216 [(1, .c (rowC z r)), (2, .lp 2 0), (4, .c (bC false)), (15, iX .i64 (((i + 1) : Nat) : Int)), (8, bX ((decide (r[c.df[i].1.toNat].s ≠ r[c.df[i].2.toNat].s))))] [(2, .box [.t (.sl .un 1 (c.nl.map i64T)), .t (.sl .un 1 (c.nn.map i64T)), .t (.sl .un 4 (c.ax.map axT)), .t (.sl .un 3 (c.is.map ctT)), .t (.sl .un 4 (c.ts.map tsT)), .t (.sl .un 2 (c.sm.map prT)), .t (.sl .un 2 (c.df.map prT))])] (H) rfl ⟨rfl, rfl, rfl, rfl, rfl, trivial⟩ ⟨rfl, trivial⟩ (fun _ _ h => h) rfl, by omega, (decide (r[c.df[i].1.toNat].s ≠ r[c.df[i].2.toNat].s)), ⟨hi, flagS hi hG (by assumption) (decide_eq_true_iff.trans ⟨fun k => ⟨by rw [ha]; exact g203, by rw [ha2]; exact g208, by rw [ha, ha2]; exact k⟩, fun k => by have := k.2.2; rw [ha, ha2] at this; exact this⟩)⟩, rfl⟩
          ·
           refine SeqK.off rfl rfl rfl rfl rfl rfl ?_
           refine SeqK.off rfl rfl rfl rfl rfl rfl ?_
           refine SeqK.off rfl rfl rfl rfl rfl rfl ?_
           refine SeqK.off rfl rfl rfl rfl rfl rfl ?_
           refine SeqK.off rfl rfl rfl rfl rfl rfl ?_
           refine SeqK.q (q_pkF rfl rfl rfl) rfl rfl rfl ?_
           refine sA ?_
           refine SeqK.nil ?_
           refine AW.reg ?_
           refine sM ?_
           refine SeqK.q (q_add _ rfl rfl rfl (w64 (by omega) (by omega))) rfl rfl rfl ?_
           refine sA ?_
           refine SeqK.nil ?_
           exact ⟨i + 1, _, Wk.keep 216 [(1, .c (rowC z r)), (2, .lp 2 0), (4, .c (bC false)), (15, iX .i64 (((i + 1) : Nat) : Int)), (8, bX (false))] [(2, .box [.t (.sl .un 1 (c.nl.map i64T)), .t (.sl .un 1 (c.nn.map i64T)), .t (.sl .un 4 (c.ax.map axT)), .t (.sl .un 3 (c.is.map ctT)), .t (.sl .un 4 (c.ts.map tsT)), .t (.sl .un 2 (c.sm.map prT)), .t (.sl .un 2 (c.df.map prT))])] (H) rfl ⟨rfl, rfl, rfl, rfl, rfl, trivial⟩ ⟨rfl, trivial⟩ (fun _ _ h => h) rfl, by omega, false, ⟨hi, flagS hi hG (by assumption) (⟨fun k => (by cases k), fun k => absurd (by have := k.2.1; rw [ha2] at this; exact this) g208⟩)⟩, rfl⟩
         ·
          refine SeqK.off rfl rfl rfl rfl rfl rfl ?_
          refine SeqK.off rfl rfl rfl rfl rfl rfl ?_
          refine SeqK.off rfl rfl rfl rfl rfl rfl ?_
          refine SeqK.q (q_pkF rfl rfl rfl) rfl rfl rfl ?_
          refine sM ?_
          refine SeqK.off rfl rfl rfl rfl rfl rfl ?_
          refine SeqK.off rfl rfl rfl rfl rfl rfl ?_
          refine SeqK.off rfl rfl rfl rfl rfl rfl ?_
          refine SeqK.off rfl rfl rfl rfl rfl rfl ?_
          refine SeqK.off rfl rfl rfl rfl rfl rfl ?_
          refine SeqK.q (q_pkF rfl rfl rfl) rfl rfl rfl ?_
          refine sA ?_
          refine SeqK.nil ?_
          refine AW.reg ?_
          refine sM ?_
          refine SeqK.q (q_add _ rfl rfl rfl (w64 (by omega) (by omega))) rfl rfl rfl ?_
          refine sA ?_
          refine SeqK.nil ?_
          exact ⟨i + 1, _, Wk.keep 216 [(1, .c (rowC z r)), (2, .lp 2 0), (4, .c (bC false)), (15, iX .i64 (((i + 1) : Nat) : Int)), (8, bX (false))] [(2, .box [.t (.sl .un 1 (c.nl.map i64T)), .t (.sl .un 1 (c.nn.map i64T)), .t (.sl .un 4 (c.ax.map axT)), .t (.sl .un 3 (c.is.map ctT)), .t (.sl .un 4 (c.ts.map tsT)), .t (.sl .un 2 (c.sm.map prT)), .t (.sl .un 2 (c.df.map prT))])] (H) rfl ⟨rfl, rfl, rfl, rfl, rfl, trivial⟩ ⟨rfl, trivial⟩ (fun _ _ h => h) rfl, by omega, false, ⟨hi, flagS hi hG (by assumption) (⟨fun k => (by cases k), fun k => absurd (by have := k.1; rw [ha] at this; exact this) g203⟩)⟩, rfl⟩
        ·
         refine AW.exit ?_
         refine eth_e ?_
         refine eth_e ?_
         refine exit_here ?_
         exact ⟨_, Wk.keep 216 [(1, .c (rowC z r)), (2, .lp 2 0), (4, .c (bC false)), (8, bX okb)] [(2, .box [.t (.sl .un 1 (c.nl.map i64T)), .t (.sl .un 1 (c.nn.map i64T)), .t (.sl .un 4 (c.ax.map axT)), .t (.sl .un 3 (c.is.map ctT)), .t (.sl .un 4 (c.ts.map tsT)), .t (.sl .un 2 (c.sm.map prT)), .t (.sl .un 2 (c.df.map prT))])] (H) rfl ⟨rfl, rfl, rfl, rfl, trivial⟩ ⟨rfl, trivial⟩ (fun _ _ h => h) rfl, ⟨okb, flagE hG (by first | exact .inl (by rw [List.length_map] at *; omega) | exact .inr (by assumption)), rfl⟩⟩
       ·
        refine SeqK.off rfl rfl rfl rfl rfl rfl ?_
        refine SeqK.q (q_pkF rfl rfl rfl) rfl rfl rfl ?_
        refine SeqK.nil ?_
        refine AW.condF rfl ?_
        refine AW.exit ?_
        refine eth_e ?_
        refine eth_e ?_
        refine exit_here ?_
        exact ⟨_, Wk.keep 216 [(1, .c (rowC z r)), (2, .lp 2 0), (4, .c (bC false)), (8, bX okb)] [(2, .box [.t (.sl .un 1 (c.nl.map i64T)), .t (.sl .un 1 (c.nn.map i64T)), .t (.sl .un 4 (c.ax.map axT)), .t (.sl .un 3 (c.is.map ctT)), .t (.sl .un 4 (c.ts.map tsT)), .t (.sl .un 2 (c.sm.map prT)), .t (.sl .un 2 (c.df.map prT))])] (H) rfl ⟨rfl, rfl, rfl, rfl, trivial⟩ ⟨rfl, trivial⟩ (fun _ _ h => h) rfl, ⟨okb, flagE hG (by first | exact .inl (by rw [List.length_map] at *; omega) | exact .inr (by assumption)), rfl⟩⟩
      ·
       rintro s ⟨okb, hG6, rfl⟩
       refine sR ?_
       refine sM ?_
       refine sA ?_
       refine SeqK.nil ?_
       refine AW.ret ?_
       exact fin_x (x := .c _) (H) (.tmp rfl .nil) rfl (fun _ _ h => h) (⟨bCe (Bool.eq_iff_iff.2 (hG6.trans ⟨fun ⟨⟨⟨⟨k1, k2⟩, k3⟩, k4⟩, k5⟩ => decide_eq_true ⟨hA, hB, k1, k2, k3, k4, k5⟩, fun h => by have := of_decide_eq_true h; exact ⟨⟨⟨⟨this.2.2.1, this.2.2.2.1⟩, this.2.2.2.2.1⟩, this.2.2.2.2.2.1⟩, this.2.2.2.2.2.2⟩⟩)), rfl⟩)

end Go.Proofs.Ytnmfjojhgfipcaa.W
