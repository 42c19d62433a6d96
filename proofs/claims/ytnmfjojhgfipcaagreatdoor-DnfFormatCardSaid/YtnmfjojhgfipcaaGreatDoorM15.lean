/- Parts of the proof, one after the other: W3, W4, W5, W6, W7, W8, W9, W10, W11, W12, W13. No condition. -/
import Derived.Test.YtnmfjojhgfipcaaGreatDoorM14
namespace Go.Proofs.YtnmfjojhgfipcaaGreatDoor.W
open Go.RowKit E
set_option linter.unusedVariables false
set_option linter.unusedSimpArgs false
set_option linter.unusedSectionVars false
/-! linear forms -/
abbrev bsC (z : Nz) (bs : List Nat) : C := .a (.t (.sl z 1 (bs.map fun b : Nat => i64T (b : Int))))
def bnd (n : Nat) (bs : List Nat) (v : Int) : Nat := if (n : Int) ≤ v then bs.getD (v.toNat - n) 0 else 2147483648
def csum (n : Nat) (bs : List Nat) : List Cf → Nat
  | [] => 0
  | k :: r => k.n.natAbs * bnd n bs k.v + csum n bs r
theorem csum_app {n : Nat} {bs : List Nat} (a b : List Cf) : csum n bs (a ++ b) = csum n bs a + csum n bs b := by
  induction a with
  | nil => simp [csum]
  | cons x r ih => simp only [List.cons_append, csum, ih]; omega
theorem csum_take {n : Nat} {bs : List Nat} {l : List Cf} {i : Nat} (h : i < l.length) : csum n bs (l.take (i + 1)) = csum n bs (l.take i) + l[i].n.natAbs * bnd n bs l[i].v := by
  rw [List.take_succ_eq_append_getElem h, csum_app]; simp [csum]
theorem csum_take_le {n : Nat} {bs : List Nat} (l : List Cf) (i : Nat) : csum n bs (l.take i) ≤ csum n bs l := by
  have h := csum_app (n := n) (bs := bs) (l.take i) (l.drop i)
  rw [List.take_append_drop] at h; omega
def fsum (n : Nat) (bs : List Nat) (f : Lf) : Nat := f.c.natAbs + csum n bs f.cs
abbrev cfQ (f : Lf) (nn : List Int) (l : List Vr) (m : Nat) (j : Nat) (h : j < f.cs.length) : Prop :=
  (0 ≤ f.cs[j].v ∧ f.cs[j].v < l.length + m) ∧ (∀ (h0 : 0 < j), f.cs[j - 1].v < f.cs[j].v) ∧ f.cs[j].n ≠ 0 ∧ (-1048576 ≤ f.cs[j].n ∧ f.cs[j].n ≤ 1048576) ∧ (f.cs[j].v < l.length → vty l f.cs[j].v = 1 ∧ f.cs[j].v ∈ nn)
abbrev formP (f : Lf) (nn : List Int) (l : List Vr) (bs : List Nat) : Prop :=
  (-1099511627777 ≤ f.c ∧ f.c ≤ 1099511627777) ∧ (∀ j (h : j < f.cs.length), cfQ f nn l bs.length j h) ∧ fsum l.length bs f ≤ 1152921504606846977
def formV (f : Lf) (nn : List Int) (l : List Vr) (bs : List Nat) : Int := if formP f nn l bs then (fsum l.length bs f : Int) else -1
theorem quoM {a : Nat} (h1 : 1 ≤ a) (h : a ≤ 1048576) : IntKind.i64.wrap ((1152921504606846977 : Int).tdiv (a : Int)) = ((1152921504606846977 / a : Nat) : Int) := by
  have h1 : (1152921504606846977 : Int).tdiv (a : Int) = ((1152921504606846977 / a : Nat) : Int) := rfl
  have h2 : ((1152921504606846977 / a : Nat) : Int) ≤ ((1152921504606846977 : Nat) : Int) := by exact_mod_cast Nat.div_le_self 1152921504606846977 a
  have h0 : (0 : Int) ≤ ((1152921504606846977 / a : Nat) : Int) := Int.natCast_nonneg _
  rw [h1, w64 (by omega) (by omega)]
theorem quo_gt {a b : Nat} (h1 : 1 ≤ a) : ((1152921504606846977 / a : Nat) : Int) < (b : Int) ↔ 1152921504606846977 < a * b := by
  rw [Int.ofNat_lt, Nat.div_lt_iff_lt_mul (by omega), Nat.mul_comm]
theorem bnd_hi {n : Nat} {bs : List Nat} {v : Int} (h : (n : Int) ≤ v) (h2 : v.toNat - n < bs.length) : bnd n bs v = bs[v.toNat - n] := by
  unfold bnd; rw [if_pos h, List.getD_eq_getElem?_getD, List.getElem?_eq_getElem h2]; rfl
theorem bnd_lo {n : Nat} {bs : List Nat} {v : Int} (h : ¬ (n : Int) ≤ v) : bnd n bs v = 2147483648 := by unfold bnd; rw [if_neg h]
theorem w64mul {a b : Nat} (h : a * b ≤ 1152921504606846977) : IntKind.i64.wrap ((a : Int) * (b : Int)) = ((a * b : Nat) : Int) := by
  have h0 : (0 : Int) ≤ ((a * b : Nat) : Int) := Int.natCast_nonneg _
  have e : (a : Int) * (b : Int) = ((a * b : Nat) : Int) := by push_cast; rfl
  rw [e, w64 (by omega) (by omega)]
theorem fsum_gt {n : Nat} {bs : List Nat} {f : Lf} {i : Nat} (h : 1152921504606846977 < f.c.natAbs + csum n bs (f.cs.take i)) : 1152921504606846977 < fsum n bs f := by
  have := csum_take_le (n := n) (bs := bs) f.cs i
  unfold fsum; omega

set_option maxHeartbeats 8000000 in
set_option maxRecDepth 20000 in
theorem form_any (f : Lf) (c : Cl) (l : List Vr) (z zb : Nz) (bs : List Nat) (hn : c.nn.length ≤ 17592186044000) (hf : f.cs.length ≤ 17592186044000) (hl : l.length ≤ 17592186044000) (hb : bs.length ≤ 17592186044000) : Pure Tryz.prog 14 [lfC f, clC c, vsC z l, bsC zb bs] (.c (iC (formV f c.nn l bs))) := by
  intro H
  refine Spec.enter Tryz.func14 rfl ?_
  refine AW.wk (Wk.keep 116 [(0, .c (lfC f)), (1, .c (clC c)), (2, .c (vsC z l)), (3, .c (bsC zb bs))] [] (H) rfl ⟨rfl, rfl, rfl, rfl, trivial⟩ trivial (fun _ _ h => h) rfl) ?_
  refine AW.seq ?_
  refine AW.reg ?_
  refine SeqK.r (b_box (r := [_, _]) rfl rfl rfl rfl rfl rfl) rfl ?_
  refine SeqK.r (b_box (r := [_, _, _, _, _, _, _]) rfl rfl rfl rfl rfl rfl) rfl ?_
  refine SeqK.q (q_asC rfl rfl) rfl rfl rfl ?_
  refine SeqK.nil ?_
  refine AW.seq ?_
  refine AW.seq ?_
  refine AW.reg ?_
  refine SeqK.q (q_fieldL _ rfl Fx.fl61_0 rfl rfl) rfl rfl rfl ?_
  refine SeqK.r (b_load (r := .a _) rfl Fx.ty2 rfl rfl rfl rfl rfl rfl) rfl ?_
  refine SeqK.q (q_call _ rfl Fx.fn15 rfl (within_any _ _ _) rfl) rfl rfl rfl ?_
  refine SeqK.q (q_not rfl rfl) rfl rfl rfl ?_
  refine SeqK.nil ?_
  refine AW.cond _ rfl (fun h16 => ?_) (fun h16 => ?_)
  ·
    have k16 := nd_t h16
    refine AW.seq ?_
    refine AW.reg ?_
    refine SeqK.q (q_asC rfl rfl) rfl rfl rfl ?_
    refine SeqK.nil ?_
    refine AW.ret ?_
    exact fin_x (x := .c _) (H) (.tmp rfl .nil) rfl (fun _ _ h => h) (⟨iCe (if_neg (fun hp => k16 hp.1)).symm, rfl⟩)
  ·
    have k16 := nd_f h16
    refine AW.skip ?_
    refine AW.seq ?_
    refine AW.reg ?_
    refine SeqK.q (q_fieldL _ rfl Fx.fl61_0 rfl rfl) rfl rfl rfl ?_
    refine SeqK.r (b_load (r := .a _) rfl Fx.ty2 rfl rfl rfl rfl rfl rfl) rfl ?_
    refine SeqK.q (q_call _ rfl Fx.fn37 rfl (rabs_any _ (by omega)) rfl) rfl rfl rfl ?_
    refine SeqK.q (q_asC rfl rfl) rfl rfl rfl ?_
    refine SeqK.nil ?_
    refine AW.seq ?_
    refine AW.seq ?_
    refine AW.reg ?_
    refine SeqK.q (q_asC rfl rfl) rfl rfl rfl ?_
    refine SeqK.nil ?_
    refine AW.block ?_
    refine AW.wk (Wk.keep 116 [(2, .c (vsC z l)), (3, .c (bsC zb bs)), (4, .lp 4 0), (5, .lp 5 0), (8, .c (iC 0)), (9, iX .i64 ((f.c.natAbs + csum l.length bs (f.cs.take 0) : Nat) : Int)), (10, iX .i64 ((0 : Nat) : Int))] [(4, .box [.t (.v (.int .i64 f.c)), .t (.sl .un 2 (f.cs.map cfT))]), (5, .box [.t (.sl .un 1 (c.nl.map i64T)), .t (.sl .un 1 (c.nn.map i64T)), .t (.sl .un 4 (c.ax.map axT)), .t (.sl .un 3 (c.is.map ctT)), .t (.sl .un 4 (c.ts.map tsT)), .t (.sl .un 2 (c.sm.map prT)), .t (.sl .un 2 (c.df.map prT))])] (H) rfl ⟨rfl, rfl, rfl, rfl, rfl, iXe (by simp [csum]), rfl, trivial⟩ ⟨rfl, rfl, trivial⟩ (fun _ _ h => h) rfl) ?_
    refine AW.loop (fun (i : Nat) s => (i ≤ f.cs.length ∧ (∀ j (h : j < f.cs.length), j < i → cfQ f c.nn l bs.length j h) ∧ f.c.natAbs + csum l.length bs (f.cs.take i) ≤ 1152921504606846977) ∧ s = ⟨116, sp [(2, .c (vsC z l)), (3, .c (bsC zb bs)), (4, .lp 4 0), (5, .lp 5 0), (8, .c (iC 0)), (9, iX .i64 ((f.c.natAbs + csum l.length bs (f.cs.take i) : Nat) : Int)), (10, iX .i64 ((i : Nat) : Int))], lv [(4, .box [.t (.v (.int .i64 f.c)), .t (.sl .un 2 (f.cs.map cfT))]), (5, .box [.t (.sl .un 1 (c.nl.map i64T)), .t (.sl .un 1 (c.nn.map i64T)), .t (.sl .un 4 (c.ax.map axT)), .t (.sl .un 3 (c.is.map ctT)), .t (.sl .un 4 (c.ts.map tsT)), .t (.sl .un 2 (c.sm.map prT)), .t (.sl .un 2 (c.df.map prT))])], H⟩) (fun i => f.cs.length - i) 0 ⟨_, Wk.keep 116 [(2, .c (vsC z l)), (3, .c (bsC zb bs)), (4, .lp 4 0), (5, .lp 5 0), (8, .c (iC 0)), (9, iX .i64 ((f.c.natAbs + csum l.length bs (f.cs.take ((0 : Nat))) : Nat) : Int)), (10, iX .i64 ((((0 : Nat)) : Nat) : Int))] [(4, .box [.t (.v (.int .i64 f.c)), .t (.sl .un 2 (f.cs.map cfT))]), (5, .box [.t (.sl .un 1 (c.nl.map i64T)), .t (.sl .un 1 (c.nn.map i64T)), .t (.sl .un 4 (c.ax.map axT)), .t (.sl .un 3 (c.is.map ctT)), .t (.sl .un 4 (c.ts.map tsT)), .t (.sl .un 2 (c.sm.map prT)), .t (.sl .un 2 (c.df.map prT))])] (H) rfl ⟨rfl, rfl, rfl, rfl, rfl, rfl, rfl, trivial⟩ ⟨rfl, rfl, trivial⟩ (fun _ _ h => h) rfl, ⟨Nat.zero_le _, up0, by simp [csum]; omega⟩, rfl⟩ (fun i s hs => ?_)
    obtain ⟨⟨hi0, hU, hS⟩, rfl⟩ := hs
    refine AW.seq ?_
    refine AW.seq ?_
    refine AW.reg ?_
    refine SeqK.q (q_mvC rfl rfl) rfl rfl rfl ?_
    refine SeqK.q (q_fieldL _ rfl Fx.fl61_1 rfl rfl) rfl rfl rfl ?_
    refine SeqK.r (b_load (r := .a _) rfl Fx.ty59 rfl rfl rfl rfl rfl rfl) rfl ?_
    refine SeqK.q (q_len rfl Fx.un59 rfl) rfl rfl rfl ?_
    refine SeqK.q (q_lss rfl rfl rfl) rfl rfl rfl ?_
    refine SeqK.nil ?_
    refine AW.condD rfl (fun h24 => ?_) (fun h24 => ?_)
    ·
      have hi : i < f.cs.length := by rw [List.length_map] at h24; omega
      refine AW.skip ?_
      refine AW.seq ?_
      refine AW.block ?_
      refine AW.seq ?_
      refine AW.reg ?_
      refine SeqK.q (q_fieldL _ rfl Fx.fl61_1 rfl rfl) rfl rfl rfl ?_
      refine SeqK.r (b_load (r := .a _) rfl Fx.ty59 rfl rfl rfl rfl rfl rfl) rfl ?_
      refine SeqK.q (q_mvC rfl rfl) rfl rfl rfl ?_
      refine SeqK.q (q_index _ rfl Fx.sl59 rfl rfl (by omega) (idx_map (f := cfT) hi)) rfl rfl rfl ?_
      refine SeqK.q (q_load (.g [_, _]) rfl Fx.ty96 rfl rfl rfl) rfl rfl rfl ?_
      refine SeqK.r (b_alloc (r := [_, _]) rfl rfl Fx.ze96 rfl rfl rfl rfl) rfl ?_
      refine SeqK.r (b_store (r := [_, _]) rfl rfl Fx.ty96 rfl rfl rfl rfl rfl rfl) rfl ?_
      refine SeqK.nil ?_
      refine AW.seq ?_
      refine AW.seq ?_
      refine AW.draw Fx.mo ?_
      refine LexK.q (q_fieldL _ rfl Fx.fl96_0 rfl rfl) rfl rfl rfl ?_
      refine LexK.r (b_load (r := .a _) rfl Fx.ty3 rfl rfl rfl rfl rfl rfl) rfl ?_
      refine LexK.q (q_lss rfl rfl rfl) rfl rfl rfl ?_
      refine LexK.qD (q_mvC rfl rfl) rfl rfl rfl (fun g35 => ?_) (fun g35 => ?_)
      ·
        refine LexK.off rfl rfl rfl rfl rfl rfl ?_
        refine LexK.off rfl rfl rfl rfl rfl rfl ?_
        refine LexK.off rfl rfl rfl rfl rfl rfl ?_
        refine LexK.off rfl rfl rfl rfl rfl rfl ?_
        refine LexK.off rfl rfl rfl rfl rfl rfl ?_
        refine LexK.off rfl rfl rfl rfl rfl rfl ?_
        refine LexK.off rfl rfl rfl rfl rfl rfl ?_
        refine LexK.off rfl rfl rfl rfl rfl rfl ?_
        refine LexK.q (q_pkT rfl rfl rfl) rfl rfl rfl ?_
        refine LexK.q (q_mvC rfl rfl) rfl rfl rfl ?_
        refine LexK.off rfl rfl rfl rfl rfl rfl ?_
        refine LexK.off rfl rfl rfl rfl rfl rfl ?_
        refine LexK.off rfl rfl rfl rfl rfl rfl ?_
        refine LexK.offU rfl rfl rfl rfl rfl ?_
        refine LexK.offU rfl rfl rfl rfl rfl ?_
        refine LexK.offU rfl rfl rfl rfl rfl ?_
        refine LexK.offU rfl rfl rfl rfl rfl ?_
        refine LexK.offU rfl rfl rfl rfl rfl ?_
        refine LexK.offU rfl rfl rfl rfl rfl ?_
        refine LexK.offU rfl rfl rfl rfl rfl ?_
        refine LexK.offU rfl rfl rfl rfl rfl ?_
        refine LexK.offU rfl rfl rfl rfl rfl ?_
        refine LexK.offU rfl rfl rfl rfl rfl ?_
        refine LexK.off rfl rfl rfl rfl rfl rfl ?_
        refine LexK.q (q_pkT rfl rfl rfl) rfl rfl rfl ?_
        refine LexK.q (q_mvC rfl rfl) rfl rfl rfl ?_
        refine LexK.off rfl rfl rfl rfl rfl rfl ?_
        refine LexK.off rfl rfl rfl rfl rfl rfl ?_
        refine LexK.off rfl rfl rfl rfl rfl rfl ?_
        refine LexK.q (q_pkT rfl rfl rfl) rfl rfl rfl ?_
        refine LexK.q (q_mvC rfl rfl) rfl rfl rfl ?_
        refine LexK.off rfl rfl rfl rfl rfl rfl ?_
        refine LexK.off rfl rfl rfl rfl rfl rfl ?_
        refine LexK.off rfl rfl rfl rfl rfl rfl ?_
        refine LexK.off rfl rfl rfl rfl rfl rfl ?_
        refine LexK.q (q_pkT rfl rfl rfl) rfl rfl rfl ?_
        refine LexK.nil (by kernel_rfl) ?_
        refine AW.condT rfl ?_
        refine AW.seq ?_
        refine AW.reg ?_
        refine SeqK.q (q_asC rfl rfl) rfl rfl rfl ?_
        refine SeqK.nil ?_
        refine AW.ret ?_
        exact fin_x (x := .c _) (H) (.tmp rfl .nil) rfl (fun _ _ h => h) (⟨iCe (if_neg (fun hp => upN (Q := cfQ f c.nn l bs.length) hi (fun ⟨⟨k1, k2⟩, k3, k4, k5, k6⟩ => by simp only [List.length_map] at *; first | omega | (have := k3 (by omega); omega) | (exact nd_t h71 k5) | simp_all) hp.2.1)).symm, rfl⟩)
      ·
        refine LexK.on (q_fieldL _ rfl Fx.fl96_0 rfl rfl) rfl rfl rfl rfl rfl ?_
        refine LexK.rOn (b_load (r := .a _) rfl Fx.ty3 rfl rfl rfl rfl rfl rfl) rfl rfl rfl ?_
        refine LexK.on (q_mvC rfl rfl) rfl rfl rfl rfl rfl ?_
        refine LexK.on (q_len rfl Fx.un29 rfl) rfl rfl rfl rfl rfl ?_
        refine LexK.on (q_mvC rfl rfl) rfl rfl rfl rfl rfl ?_
        refine LexK.on (q_len rfl Fx.un67 rfl) rfl rfl rfl rfl rfl ?_
        refine LexK.on (q_add _ rfl rfl rfl (w64 (by rw [List.length_map, List.length_map]; omega) (by rw [List.length_map, List.length_map]; omega))) rfl rfl rfl rfl rfl ?_
        refine LexK.on (q_geq rfl rfl rfl) rfl rfl rfl rfl rfl ?_
        refine LexK.q (q_pkF rfl rfl rfl) rfl rfl rfl ?_
        refine LexK.qD (q_mvC rfl rfl) rfl rfl rfl (fun g45 => ?_) (fun g45 => ?_)
        ·
          refine LexK.off rfl rfl rfl rfl rfl rfl ?_
          refine LexK.off rfl rfl rfl rfl rfl rfl ?_
          refine LexK.off rfl rfl rfl rfl rfl rfl ?_
          refine LexK.offU rfl rfl rfl rfl rfl ?_
          refine LexK.offU rfl rfl rfl rfl rfl ?_
          refine LexK.offU rfl rfl rfl rfl rfl ?_
          refine LexK.offU rfl rfl rfl rfl rfl ?_
          refine LexK.offU rfl rfl rfl rfl rfl ?_
          refine LexK.offU rfl rfl rfl rfl rfl ?_
          refine LexK.offU rfl rfl rfl rfl rfl ?_
          refine LexK.offU rfl rfl rfl rfl rfl ?_
          refine LexK.offU rfl rfl rfl rfl rfl ?_
          refine LexK.offU rfl rfl rfl rfl rfl ?_
          refine LexK.off rfl rfl rfl rfl rfl rfl ?_
          refine LexK.q (q_pkT rfl rfl rfl) rfl rfl rfl ?_
          refine LexK.q (q_mvC rfl rfl) rfl rfl rfl ?_
          refine LexK.off rfl rfl rfl rfl rfl rfl ?_
          refine LexK.off rfl rfl rfl rfl rfl rfl ?_
          refine LexK.off rfl rfl rfl rfl rfl rfl ?_
          refine LexK.q (q_pkT rfl rfl rfl) rfl rfl rfl ?_
          refine LexK.q (q_mvC rfl rfl) rfl rfl rfl ?_
          refine LexK.off rfl rfl rfl rfl rfl rfl ?_
          refine LexK.off rfl rfl rfl rfl rfl rfl ?_
          refine LexK.off rfl rfl rfl rfl rfl rfl ?_
          refine LexK.off rfl rfl rfl rfl rfl rfl ?_
          refine LexK.q (q_pkT rfl rfl rfl) rfl rfl rfl ?_
          refine LexK.nil (by kernel_rfl) ?_
          refine AW.condT rfl ?_
          refine AW.seq ?_
          refine AW.reg ?_
          refine SeqK.q (q_asC rfl rfl) rfl rfl rfl ?_
          refine SeqK.nil ?_
          refine AW.ret ?_
          exact fin_x (x := .c _) (H) (.tmp rfl .nil) rfl (fun _ _ h => h) (⟨iCe (if_neg (fun hp => upN (Q := cfQ f c.nn l bs.length) hi (fun ⟨⟨k1, k2⟩, k3, k4, k5, k6⟩ => by simp only [List.length_map] at *; first | omega | (have := k3 (by omega); omega) | (exact nd_t h71 k5) | simp_all) hp.2.1)).symm, rfl⟩)
        ·
          refine LexK.on (q_mvC rfl rfl) rfl rfl rfl rfl rfl ?_
          refine LexK.on (q_gtr rfl rfl rfl) rfl rfl rfl rfl rfl ?_
          refine LexK.onD (q_mvC rfl rfl) rfl rfl rfl rfl rfl (fun g48 => ?_) (fun g48 => ?_)
          ·
            refine LexK.on (q_fieldL _ rfl Fx.fl61_1 rfl rfl) rfl rfl rfl rfl rfl ?_
            refine LexK.rOn (b_load (r := .a _) rfl Fx.ty59 rfl rfl rfl rfl rfl rfl) rfl rfl rfl ?_
            refine LexK.on (q_mvC rfl rfl) rfl rfl rfl rfl rfl ?_
            refine LexK.on (q_sub _ rfl rfl rfl ((by rw [w64 (by omega) (by omega)]; omega : IntKind.i64.wrap _ = ((i - 1 : Nat) : Int)))) rfl rfl rfl rfl rfl ?_
            refine LexK.on (q_index _ rfl Fx.sl59 rfl rfl (by omega) (idx_map (f := cfT) (show i - 1 < f.cs.length by omega))) rfl rfl rfl rfl rfl ?_
            refine LexK.on (q_fieldP _ rfl Fx.fl96_0 rfl rfl) rfl rfl rfl rfl rfl ?_
            refine LexK.on (q_load (.a _) rfl Fx.ty3 rfl rfl rfl) rfl rfl rfl rfl rfl ?_
            refine LexK.on (q_fieldL _ rfl Fx.fl96_0 rfl rfl) rfl rfl rfl rfl rfl ?_
            refine LexK.rOn (b_load (r := .a _) rfl Fx.ty3 rfl rfl rfl rfl rfl rfl) rfl rfl rfl ?_
            refine LexK.on (q_geq rfl rfl rfl) rfl rfl rfl rfl rfl ?_
            refine LexK.on (q_pkT rfl rfl rfl) rfl rfl rfl rfl rfl ?_
            refine LexK.q (q_pkF rfl rfl rfl) rfl rfl rfl ?_
            refine LexK.qD (q_mvC rfl rfl) rfl rfl rfl (fun g61 => ?_) (fun g61 => ?_)
            ·
              refine LexK.off rfl rfl rfl rfl rfl rfl ?_
              refine LexK.off rfl rfl rfl rfl rfl rfl ?_
              refine LexK.off rfl rfl rfl rfl rfl rfl ?_
              refine LexK.q (q_pkT rfl rfl rfl) rfl rfl rfl ?_
              refine LexK.q (q_mvC rfl rfl) rfl rfl rfl ?_
              refine LexK.off rfl rfl rfl rfl rfl rfl ?_
              refine LexK.off rfl rfl rfl rfl rfl rfl ?_
              refine LexK.off rfl rfl rfl rfl rfl rfl ?_
              refine LexK.off rfl rfl rfl rfl rfl rfl ?_
              refine LexK.q (q_pkT rfl rfl rfl) rfl rfl rfl ?_
              refine LexK.nil (by kernel_rfl) ?_
              refine AW.condT rfl ?_
              refine AW.seq ?_
              refine AW.reg ?_
              refine SeqK.q (q_asC rfl rfl) rfl rfl rfl ?_
              refine SeqK.nil ?_
              refine AW.ret ?_
              exact fin_x (x := .c _) (H) (.tmp rfl .nil) rfl (fun _ _ h => h) (⟨iCe (if_neg (fun hp => upN (Q := cfQ f c.nn l bs.length) hi (fun ⟨⟨k1, k2⟩, k3, k4, k5, k6⟩ => by simp only [List.length_map] at *; first | omega | (have := k3 (by omega); omega) | (exact nd_t h71 k5) | simp_all) hp.2.1)).symm, rfl⟩)
            ·
              refine LexK.on (q_fieldL _ rfl Fx.fl96_1 rfl rfl) rfl rfl rfl rfl rfl ?_
              refine LexK.rOn (b_load (r := .a _) rfl Fx.ty2 rfl rfl rfl rfl rfl rfl) rfl rfl rfl ?_
              refine LexK.on (q_eql rfl rfl rfl) rfl rfl rfl rfl rfl ?_
              refine LexK.q (q_pkF rfl rfl rfl) rfl rfl rfl ?_
              refine LexK.qD (q_mvC rfl rfl) rfl rfl rfl (fun g66 => ?_) (fun g66 => ?_)
              ·
                refine LexK.off rfl rfl rfl rfl rfl rfl ?_
                refine LexK.off rfl rfl rfl rfl rfl rfl ?_
                refine LexK.off rfl rfl rfl rfl rfl rfl ?_
                refine LexK.off rfl rfl rfl rfl rfl rfl ?_
                refine LexK.q (q_pkT rfl rfl rfl) rfl rfl rfl ?_
                refine LexK.nil (by kernel_rfl) ?_
                refine AW.condT rfl ?_
                refine AW.seq ?_
                refine AW.reg ?_
                refine SeqK.q (q_asC rfl rfl) rfl rfl rfl ?_
                refine SeqK.nil ?_
                refine AW.ret ?_
                exact fin_x (x := .c _) (H) (.tmp rfl .nil) rfl (fun _ _ h => h) (⟨iCe (if_neg (fun hp => upN (Q := cfQ f c.nn l bs.length) hi (fun ⟨⟨k1, k2⟩, k3, k4, k5, k6⟩ => by simp only [List.length_map] at *; first | omega | (have := k3 (by omega); omega) | (exact nd_t h71 k5) | simp_all) hp.2.1)).symm, rfl⟩)
              ·
                refine LexK.on (q_fieldL _ rfl Fx.fl96_1 rfl rfl) rfl rfl rfl rfl rfl ?_
                refine LexK.rOn (b_load (r := .a _) rfl Fx.ty2 rfl rfl rfl rfl rfl rfl) rfl rfl rfl ?_
                refine LexK.on (q_call _ rfl Fx.fn15 rfl (within_any _ _ _) rfl) rfl rfl rfl rfl rfl ?_
                refine LexK.on (q_not rfl rfl) rfl rfl rfl rfl rfl ?_
                refine LexK.q (q_pkF rfl rfl rfl) rfl rfl rfl ?_
                refine LexK.nil (by kernel_rfl) ?_
                refine AW.cond _ rfl (fun h71 => ?_) (fun h71 => ?_)
                ·
                  refine AW.seq ?_
                  refine AW.reg ?_
                  refine SeqK.q (q_asC rfl rfl) rfl rfl rfl ?_
                  refine SeqK.nil ?_
                  refine AW.ret ?_
                  exact fin_x (x := .c _) (H) (.tmp rfl .nil) rfl (fun _ _ h => h) (⟨iCe (if_neg (fun hp => upN (Q := cfQ f c.nn l bs.length) hi (fun ⟨⟨k1, k2⟩, k3, k4, k5, k6⟩ => by simp only [List.length_map] at *; first | omega | (have := k3 (by omega); omega) | (exact nd_t h71 k5) | simp_all) hp.2.1)).symm, rfl⟩)
                ·
                  refine AW.skip ?_
                  refine AW.seq ?_
                  have hq : (0 ≤ f.cs[i].v ∧ f.cs[i].v < l.length + bs.length) ∧ (∀ (h0 : 0 < i), f.cs[i - 1].v < f.cs[i].v) ∧ f.cs[i].n ≠ 0 ∧ (-1048576 ≤ f.cs[i].n ∧ f.cs[i].n ≤ 1048576) := by
                    simp only [List.length_map] at *
                    refine ⟨by omega, fun h0 => by omega, by omega, ?_⟩
                    first | exact nd_f h71 | simp_all
                  have hna : 1 ≤ f.cs[i].n.natAbs ∧ f.cs[i].n.natAbs ≤ 1048576 := by omega
                  refine AW.reg ?_
                  refine SeqK.q (q_asC rfl rfl) rfl rfl rfl ?_
                  refine SeqK.nil ?_
                  refine AW.seq ?_
                  refine AW.seq ?_
                  refine AW.reg ?_
                  refine SeqK.q (q_fieldL _ rfl Fx.fl96_0 rfl rfl) rfl rfl rfl ?_
                  refine SeqK.r (b_load (r := .a _) rfl Fx.ty3 rfl rfl rfl rfl rfl rfl) rfl ?_
                  refine SeqK.q (q_mvC rfl rfl) rfl rfl rfl ?_
                  refine SeqK.q (q_len rfl Fx.un29 rfl) rfl rfl rfl ?_
                  refine SeqK.q (q_geq rfl rfl rfl) rfl rfl rfl ?_
                  refine SeqK.nil ?_
                  refine AW.condD rfl (fun h76 => ?_) (fun h76 => ?_)
                  ·
                    have hv : f.cs[i].v.toNat - l.length < bs.length := by rw [List.length_map] at h76; omega
                    have hbn := bnd_hi (n := l.length) (bs := bs) (v := f.cs[i].v) (by rw [List.length_map] at h76; omega) hv
                    have hlv : f.cs[i].v < l.length → vty l f.cs[i].v = 1 ∧ f.cs[i].v ∈ c.nn := fun hh => by rw [List.length_map] at h76; omega
                    refine AW.reg ?_
                    refine SeqK.q (q_mvC rfl rfl) rfl rfl rfl ?_
                    refine SeqK.q (q_fieldL _ rfl Fx.fl96_0 rfl rfl) rfl rfl rfl ?_
                    refine SeqK.r (b_load (r := .a _) rfl Fx.ty3 rfl rfl rfl rfl rfl rfl) rfl ?_
                    refine SeqK.q (q_mvC rfl rfl) rfl rfl rfl ?_
                    refine SeqK.q (q_len rfl Fx.un29 rfl) rfl rfl rfl ?_
                    refine SeqK.q (q_sub _ rfl rfl rfl ((by rw [w64 (by omega) (by omega)]; rw [List.length_map] at *; omega : IntKind.i64.wrap _ = ((f.cs[i].v.toNat - l.length : Nat) : Int)))) rfl rfl rfl ?_
                    refine SeqK.q (q_index _ rfl Fx.sl67 rfl rfl (by omega) (idx_map (f := fun b : Nat => i64T (b : Int)) hv)) rfl rfl rfl ?_
                    refine SeqK.q (q_load (.a _) rfl Fx.ty2 rfl rfl rfl) rfl rfl rfl ?_
                    refine SeqK.q (q_asC rfl rfl) rfl rfl rfl ?_
                    refine SeqK.nil ?_
                    refine AW.seq ?_
                    refine AW.seq ?_
                    refine AW.wk (Wk.keep 116 [(2, .c (vsC z l)), (3, .c (bsC zb bs)), (4, .lp 4 0), (5, .lp 5 0), (8, .c (iC 0)), (9, iX .i64 ((f.c.natAbs + csum l.length bs (f.cs.take i) : Nat) : Int)), (10, iX .i64 ((i : Nat) : Int)), (11, .lp 11 0), (12, iX .i64 ((bnd l.length bs f.cs[i].v : Nat) : Int))] [(4, .box [.t (.v (.int .i64 f.c)), .t (.sl .un 2 (f.cs.map cfT))]), (5, .box [.t (.sl .un 1 (c.nl.map i64T)), .t (.sl .un 1 (c.nn.map i64T)), .t (.sl .un 4 (c.ax.map axT)), .t (.sl .un 3 (c.is.map ctT)), .t (.sl .un 4 (c.ts.map tsT)), .t (.sl .un 2 (c.sm.map prT)), .t (.sl .un 2 (c.df.map prT))]), (11, .box [.t (.v (.int .i64 f.cs[i].v)), .t (.v (.int .i64 f.cs[i].n))])] (H) rfl ⟨rfl, rfl, rfl, rfl, rfl, rfl, rfl, rfl, by rw [hbn]; rfl, trivial⟩ ⟨rfl, rfl, rfl, trivial⟩ (fun _ _ h => h) rfl) ?_
                    refine AW.reg ?_
                    refine SeqK.q (q_mvC rfl rfl) rfl rfl rfl ?_
                    refine SeqK.q (q_fieldL _ rfl Fx.fl96_1 rfl rfl) rfl rfl rfl ?_
                    refine SeqK.r (b_load (r := .a _) rfl Fx.ty2 rfl rfl rfl rfl rfl rfl) rfl ?_
                    refine SeqK.q (q_call _ rfl Fx.fn37 rfl (rabs_any _ (by omega)) rfl) rfl rfl rfl ?_
                    refine SeqK.q (q_quo _ rfl rfl rfl (by omega) (quoM hna.1 hna.2)) rfl rfl rfl ?_
                    refine SeqK.q (q_gtr rfl rfl rfl) rfl rfl rfl ?_
                    refine SeqK.nil ?_
                    refine AW.condD rfl (fun h105 => ?_) (fun h105 => ?_)
                    ·
                      refine AW.seq ?_
                      refine AW.reg ?_
                      refine SeqK.q (q_asC rfl rfl) rfl rfl rfl ?_
                      refine SeqK.nil ?_
                      refine AW.ret ?_
                      exact fin_x (x := .c _) (H) (.tmp rfl .nil) rfl (fun _ _ h => h) (⟨iCe (if_neg (fun hp => absurd hp.2.2 (by have := fsum_gt (n := l.length) (bs := bs) (f := f) (i := i + 1) (by rw [csum_take hi]; have := (quo_gt hna.1).1 h105; omega); omega))).symm, rfl⟩)
                    ·
                      refine AW.skip ?_
                      refine AW.seq ?_
                      have hmul : f.cs[i].n.natAbs * bnd l.length bs f.cs[i].v ≤ 1152921504606846977 := Nat.le_of_not_lt fun hh => h105 ((quo_gt hna.1).2 hh)
                      refine AW.reg ?_
                      refine SeqK.q (q_mvC rfl rfl) rfl rfl rfl ?_
                      refine SeqK.q (q_fieldL _ rfl Fx.fl96_1 rfl rfl) rfl rfl rfl ?_
                      refine SeqK.r (b_load (r := .a _) rfl Fx.ty2 rfl rfl rfl rfl rfl rfl) rfl ?_
                      refine SeqK.q (q_call _ rfl Fx.fn37 rfl (rabs_any _ (by omega)) rfl) rfl rfl rfl ?_
                      refine SeqK.q (q_mvC rfl rfl) rfl rfl rfl ?_
                      refine SeqK.q (q_mul _ rfl rfl rfl (w64mul hmul)) rfl rfl rfl ?_
                      refine SeqK.q (q_add _ rfl rfl rfl ((by rw [w64 (by omega) (by omega), csum_take hi]; push_cast; omega : IntKind.i64.wrap _ = ((f.c.natAbs + csum l.length bs (f.cs.take (i + 1)) : Nat) : Int)))) rfl rfl rfl ?_
                      refine SeqK.q (q_asC rfl rfl) rfl rfl rfl ?_
                      refine SeqK.nil ?_
                      refine AW.seq ?_
                      refine AW.reg ?_
                      refine SeqK.q (q_mvC rfl rfl) rfl rfl rfl ?_
                      refine SeqK.q (q_gtr rfl rfl rfl) rfl rfl rfl ?_
                      refine SeqK.nil ?_
                      refine AW.condD rfl (fun h114 => ?_) (fun h114 => ?_)
                      ·
                        refine AW.seq ?_
                        refine AW.reg ?_
                        refine SeqK.q (q_asC rfl rfl) rfl rfl rfl ?_
                        refine SeqK.nil ?_
                        refine AW.ret ?_
                        exact fin_x (x := .c _) (H) (.tmp rfl .nil) rfl (fun _ _ h => h) (⟨iCe (if_neg (fun hp => absurd hp.2.2 (by have := fsum_gt (n := l.length) (bs := bs) (f := f) (i := i + 1) (by omega); omega))).symm, rfl⟩)
                      ·
                        refine AW.skip ?_
                        refine AW.reg ?_
                        refine SeqK.q (q_mvC rfl rfl) rfl rfl rfl ?_
                        refine SeqK.q (q_add _ rfl rfl rfl (w64 (by omega) (by omega))) rfl rfl rfl ?_
                        refine SeqK.q (q_asC rfl rfl) rfl rfl rfl ?_
                        refine SeqK.nil ?_
                        exact ⟨i + 1, _, Wk.keep 116 [(2, .c (vsC z l)), (3, .c (bsC zb bs)), (4, .lp 4 0), (5, .lp 5 0), (8, .c (iC 0)), (9, iX .i64 ((f.c.natAbs + csum l.length bs (f.cs.take (i + 1)) : Nat) : Int)), (10, iX .i64 (((i + 1) : Nat) : Int))] [(4, .box [.t (.v (.int .i64 f.c)), .t (.sl .un 2 (f.cs.map cfT))]), (5, .box [.t (.sl .un 1 (c.nl.map i64T)), .t (.sl .un 1 (c.nn.map i64T)), .t (.sl .un 4 (c.ax.map axT)), .t (.sl .un 3 (c.is.map ctT)), .t (.sl .un 4 (c.ts.map tsT)), .t (.sl .un 2 (c.sm.map prT)), .t (.sl .un 2 (c.df.map prT))])] (H) rfl ⟨rfl, rfl, rfl, rfl, rfl, rfl, rfl, trivial⟩ ⟨rfl, rfl, trivial⟩ (fun _ _ h => h) rfl, by omega, ⟨hi, upS hi hU ⟨hq.1, hq.2.1, hq.2.2.1, hq.2.2.2, hlv⟩, by omega⟩, rfl⟩
                  ·
                    refine AW.seq ?_
                    have hv : f.cs[i].v.toNat < l.length := by rw [List.length_map] at h76; omega
                    have hty := vty_at hv
                    have hbn := bnd_lo (n := l.length) (bs := bs) (v := f.cs[i].v) (by rw [List.length_map] at h76; omega)
                    refine AW.reg ?_
                    refine SeqK.q (q_mvC rfl rfl) rfl rfl rfl ?_
                    refine SeqK.q (q_fieldL _ rfl Fx.fl96_0 rfl rfl) rfl rfl rfl ?_
                    refine SeqK.r (b_load (r := .a _) rfl Fx.ty3 rfl rfl rfl rfl rfl rfl) rfl ?_
                    refine SeqK.q (q_index _ rfl Fx.sl29 rfl rfl (by omega) (idx_map (f := vrT) hv)) rfl rfl rfl ?_
                    refine SeqK.q (q_fieldP _ rfl Fx.fl36_0 rfl rfl) rfl rfl rfl ?_
                    refine SeqK.q (q_load (.a _) rfl Fx.ty3 rfl rfl rfl) rfl rfl rfl ?_
                    refine SeqK.q (q_neq rfl rfl rfl) rfl rfl rfl ?_
                    refine SeqK.qD (q_mvC rfl rfl) rfl rfl rfl (fun g92 => ?_) (fun g92 => ?_)
                    ·
                      refine SeqK.off rfl rfl rfl rfl rfl rfl ?_
                      refine SeqK.off rfl rfl rfl rfl rfl rfl ?_
                      refine SeqK.off rfl rfl rfl rfl rfl rfl ?_
                      refine SeqK.off rfl rfl rfl rfl rfl rfl ?_
                      refine SeqK.off rfl rfl rfl rfl rfl rfl ?_
                      refine SeqK.off rfl rfl rfl rfl rfl rfl ?_
                      refine SeqK.q (q_pkT rfl rfl rfl) rfl rfl rfl ?_
                      refine SeqK.nil ?_
                      refine AW.condT rfl ?_
                      refine AW.seq ?_
                      refine AW.reg ?_
                      refine SeqK.q (q_asC rfl rfl) rfl rfl rfl ?_
                      refine SeqK.nil ?_
                      refine AW.ret ?_
                      exact fin_x (x := .c _) (H) (.tmp rfl .nil) rfl (fun _ _ h => h) (⟨iCe (if_neg (fun hp => upN (Q := cfQ f c.nn l bs.length) hi (fun ⟨⟨k1, k2⟩, k3, k4, k5, k6⟩ => by simp only [List.length_map] at *; have := k6 (by omega); first | (rw [hty] at this; omega) | (exact nd_t h99 this.2)) hp.2.1)).symm, rfl⟩)
                    ·
                      refine SeqK.on (q_fieldL _ rfl Fx.fl28_1 rfl rfl) rfl rfl rfl rfl rfl ?_
                      refine SeqK.rOn (b_load (r := .a _) rfl Fx.ty22 rfl rfl rfl rfl rfl rfl) rfl rfl rfl ?_
                      refine SeqK.on (q_fieldL _ rfl Fx.fl96_0 rfl rfl) rfl rfl rfl rfl rfl ?_
                      refine SeqK.rOn (b_load (r := .a _) rfl Fx.ty3 rfl rfl rfl rfl rfl rfl) rfl rfl rfl ?_
                      refine SeqK.on (q_call _ rfl Fx.fn36 rfl (has_any _ _ _ hn) rfl) rfl rfl rfl rfl rfl ?_
                      refine SeqK.on (q_not rfl rfl) rfl rfl rfl rfl rfl ?_
                      refine SeqK.q (q_pkF rfl rfl rfl) rfl rfl rfl ?_
                      refine SeqK.nil ?_
                      refine AW.cond _ rfl (fun h99 => ?_) (fun h99 => ?_)
                      ·
                        refine AW.seq ?_
                        refine AW.reg ?_
                        refine SeqK.q (q_asC rfl rfl) rfl rfl rfl ?_
                        refine SeqK.nil ?_
                        refine AW.ret ?_
                        exact fin_x (x := .c _) (H) (.tmp rfl .nil) rfl (fun _ _ h => h) (⟨iCe (if_neg (fun hp => upN (Q := cfQ f c.nn l bs.length) hi (fun ⟨⟨k1, k2⟩, k3, k4, k5, k6⟩ => by simp only [List.length_map] at *; have := k6 (by omega); first | (rw [hty] at this; omega) | (exact nd_t h99 this.2)) hp.2.1)).symm, rfl⟩)
                      ·
                        have hlv : f.cs[i].v < l.length → vty l f.cs[i].v = 1 ∧ f.cs[i].v ∈ c.nn := fun _ => ⟨by rw [hty]; first | omega | exact Classical.not_not.1 g92, nd_f h99⟩
                        refine AW.skip ?_
                        refine AW.seq ?_
                        refine AW.seq ?_
                        refine AW.wk (Wk.keep 116 [(2, .c (vsC z l)), (3, .c (bsC zb bs)), (4, .lp 4 0), (5, .lp 5 0), (8, .c (iC 0)), (9, iX .i64 ((f.c.natAbs + csum l.length bs (f.cs.take i) : Nat) : Int)), (10, iX .i64 ((i : Nat) : Int)), (11, .lp 11 0), (12, iX .i64 ((bnd l.length bs f.cs[i].v : Nat) : Int))] [(4, .box [.t (.v (.int .i64 f.c)), .t (.sl .un 2 (f.cs.map cfT))]), (5, .box [.t (.sl .un 1 (c.nl.map i64T)), .t (.sl .un 1 (c.nn.map i64T)), .t (.sl .un 4 (c.ax.map axT)), .t (.sl .un 3 (c.is.map ctT)), .t (.sl .un 4 (c.ts.map tsT)), .t (.sl .un 2 (c.sm.map prT)), .t (.sl .un 2 (c.df.map prT))]), (11, .box [.t (.v (.int .i64 f.cs[i].v)), .t (.v (.int .i64 f.cs[i].n))])] (H) rfl ⟨rfl, rfl, rfl, rfl, rfl, rfl, rfl, rfl, by rw [hbn]; rfl, trivial⟩ ⟨rfl, rfl, rfl, trivial⟩ (fun _ _ h => h) rfl) ?_
                        refine AW.reg ?_
                        refine SeqK.q (q_mvC rfl rfl) rfl rfl rfl ?_
                        refine SeqK.q (q_fieldL _ rfl Fx.fl96_1 rfl rfl) rfl rfl rfl ?_
                        refine SeqK.r (b_load (r := .a _) rfl Fx.ty2 rfl rfl rfl rfl rfl rfl) rfl ?_
                        refine SeqK.q (q_call _ rfl Fx.fn37 rfl (rabs_any _ (by omega)) rfl) rfl rfl rfl ?_
                        refine SeqK.q (q_quo _ rfl rfl rfl (by omega) (quoM hna.1 hna.2)) rfl rfl rfl ?_
                        refine SeqK.q (q_gtr rfl rfl rfl) rfl rfl rfl ?_
                        refine SeqK.nil ?_
                        refine AW.condD rfl (fun h105 => ?_) (fun h105 => ?_)
                        ·
                          refine AW.seq ?_
                          refine AW.reg ?_
                          refine SeqK.q (q_asC rfl rfl) rfl rfl rfl ?_
                          refine SeqK.nil ?_
                          refine AW.ret ?_
                          exact fin_x (x := .c _) (H) (.tmp rfl .nil) rfl (fun _ _ h => h) (⟨iCe (if_neg (fun hp => absurd hp.2.2 (by have := fsum_gt (n := l.length) (bs := bs) (f := f) (i := i + 1) (by rw [csum_take hi]; have := (quo_gt hna.1).1 h105; omega); omega))).symm, rfl⟩)
                        ·
                          refine AW.skip ?_
                          refine AW.seq ?_
                          have hmul : f.cs[i].n.natAbs * bnd l.length bs f.cs[i].v ≤ 1152921504606846977 := Nat.le_of_not_lt fun hh => h105 ((quo_gt hna.1).2 hh)
                          refine AW.reg ?_
                          refine SeqK.q (q_mvC rfl rfl) rfl rfl rfl ?_
                          refine SeqK.q (q_fieldL _ rfl Fx.fl96_1 rfl rfl) rfl rfl rfl ?_
                          refine SeqK.r (b_load (r := .a _) rfl Fx.ty2 rfl rfl rfl rfl rfl rfl) rfl ?_
                          refine SeqK.q (q_call _ rfl Fx.fn37 rfl (rabs_any _ (by omega)) rfl) rfl rfl rfl ?_
                          refine SeqK.q (q_mvC rfl rfl) rfl rfl rfl ?_
                          refine SeqK.q (q_mul _ rfl rfl rfl (w64mul hmul)) rfl rfl rfl ?_
                          refine SeqK.q (q_add _ rfl rfl rfl ((by rw [w64 (by omega) (by omega), csum_take hi]; push_cast; omega : IntKind.i64.wrap _ = ((f.c.natAbs + csum l.length bs (f.cs.take (i + 1)) : Nat) : Int)))) rfl rfl rfl ?_
                          refine SeqK.q (q_asC rfl rfl) rfl rfl rfl ?_
                          refine SeqK.nil ?_
                          refine AW.seq ?_
                          refine AW.reg ?_
                          refine SeqK.q (q_mvC rfl rfl) rfl rfl rfl ?_
                          refine SeqK.q (q_gtr rfl rfl rfl) rfl rfl rfl ?_
                          refine SeqK.nil ?_
                          refine AW.condD rfl (fun h114 => ?_) (fun h114 => ?_)
                          ·
                            refine AW.seq ?_
                            refine AW.reg ?_
                            refine SeqK.q (q_asC rfl rfl) rfl rfl rfl ?_
                            refine SeqK.nil ?_
                            refine AW.ret ?_
                            exact fin_x (x := .c _) (H) (.tmp rfl .nil) rfl (fun _ _ h => h) (⟨iCe (if_neg (fun hp => absurd hp.2.2 (by have := fsum_gt (n := l.length) (bs := bs) (f := f) (i := i + 1) (by omega); omega))).symm, rfl⟩)
                          ·
                            refine AW.skip ?_
                            refine AW.reg ?_
                            refine SeqK.q (q_mvC rfl rfl) rfl rfl rfl ?_
                            refine SeqK.q (q_add _ rfl rfl rfl (w64 (by omega) (by omega))) rfl rfl rfl ?_
                            refine SeqK.q (q_asC rfl rfl) rfl rfl rfl ?_
                            refine SeqK.nil ?_
                            exact ⟨i + 1, _, Wk.keep 116 [(2, .c (vsC z l)), (3, .c (bsC zb bs)), (4, .lp 4 0), (5, .lp 5 0), (8, .c (iC 0)), (9, iX .i64 ((f.c.natAbs + csum l.length bs (f.cs.take (i + 1)) : Nat) : Int)), (10, iX .i64 (((i + 1) : Nat) : Int))] [(4, .box [.t (.v (.int .i64 f.c)), .t (.sl .un 2 (f.cs.map cfT))]), (5, .box [.t (.sl .un 1 (c.nl.map i64T)), .t (.sl .un 1 (c.nn.map i64T)), .t (.sl .un 4 (c.ax.map axT)), .t (.sl .un 3 (c.is.map ctT)), .t (.sl .un 4 (c.ts.map tsT)), .t (.sl .un 2 (c.sm.map prT)), .t (.sl .un 2 (c.df.map prT))])] (H) rfl ⟨rfl, rfl, rfl, rfl, rfl, rfl, rfl, trivial⟩ ⟨rfl, rfl, trivial⟩ (fun _ _ h => h) rfl, by omega, ⟨hi, upS hi hU ⟨hq.1, hq.2.1, hq.2.2.1, hq.2.2.2, hlv⟩, by omega⟩, rfl⟩
          ·
            refine LexK.off rfl rfl rfl rfl rfl rfl ?_
            refine LexK.off rfl rfl rfl rfl rfl rfl ?_
            refine LexK.off rfl rfl rfl rfl rfl rfl ?_
            refine LexK.off rfl rfl rfl rfl rfl rfl ?_
            refine LexK.off rfl rfl rfl rfl rfl rfl ?_
            refine LexK.off rfl rfl rfl rfl rfl rfl ?_
            refine LexK.off rfl rfl rfl rfl rfl rfl ?_
            refine LexK.off rfl rfl rfl rfl rfl rfl ?_
            refine LexK.off rfl rfl rfl rfl rfl rfl ?_
            refine LexK.off rfl rfl rfl rfl rfl rfl ?_
            refine LexK.on (q_pkF rfl rfl rfl) rfl rfl rfl rfl rfl ?_
            refine LexK.q (q_pkF rfl rfl rfl) rfl rfl rfl ?_
            refine LexK.q (q_mvC rfl rfl) rfl rfl rfl ?_
            refine LexK.on (q_fieldL _ rfl Fx.fl96_1 rfl rfl) rfl rfl rfl rfl rfl ?_
            refine LexK.rOn (b_load (r := .a _) rfl Fx.ty2 rfl rfl rfl rfl rfl rfl) rfl rfl rfl ?_
            refine LexK.on (q_eql rfl rfl rfl) rfl rfl rfl rfl rfl ?_
            refine LexK.q (q_pkF rfl rfl rfl) rfl rfl rfl ?_
            refine LexK.qD (q_mvC rfl rfl) rfl rfl rfl (fun g66 => ?_) (fun g66 => ?_)
            ·
              refine LexK.off rfl rfl rfl rfl rfl rfl ?_
              refine LexK.off rfl rfl rfl rfl rfl rfl ?_
              refine LexK.off rfl rfl rfl rfl rfl rfl ?_
              refine LexK.off rfl rfl rfl rfl rfl rfl ?_
              refine LexK.q (q_pkT rfl rfl rfl) rfl rfl rfl ?_
              refine LexK.nil (by kernel_rfl) ?_
              refine AW.condT rfl ?_
              refine AW.seq ?_
              refine AW.reg ?_
              refine SeqK.q (q_asC rfl rfl) rfl rfl rfl ?_
              refine SeqK.nil ?_
              refine AW.ret ?_
              exact fin_x (x := .c _) (H) (.tmp rfl .nil) rfl (fun _ _ h => h) (⟨iCe (if_neg (fun hp => upN (Q := cfQ f c.nn l bs.length) hi (fun ⟨⟨k1, k2⟩, k3, k4, k5, k6⟩ => by simp only [List.length_map] at *; first | omega | (have := k3 (by omega); omega) | (exact nd_t h71 k5) | simp_all) hp.2.1)).symm, rfl⟩)
            ·
              refine LexK.on (q_fieldL _ rfl Fx.fl96_1 rfl rfl) rfl rfl rfl rfl rfl ?_
              refine LexK.rOn (b_load (r := .a _) rfl Fx.ty2 rfl rfl rfl rfl rfl rfl) rfl rfl rfl ?_
              refine LexK.on (q_call _ rfl Fx.fn15 rfl (within_any _ _ _) rfl) rfl rfl rfl rfl rfl ?_
              refine LexK.on (q_not rfl rfl) rfl rfl rfl rfl rfl ?_
              refine LexK.q (q_pkF rfl rfl rfl) rfl rfl rfl ?_
              refine LexK.nil (by kernel_rfl) ?_
              refine AW.cond _ rfl (fun h71 => ?_) (fun h71 => ?_)
              ·
                refine AW.seq ?_
                refine AW.reg ?_
                refine SeqK.q (q_asC rfl rfl) rfl rfl rfl ?_
                refine SeqK.nil ?_
                refine AW.ret ?_
                exact fin_x (x := .c _) (H) (.tmp rfl .nil) rfl (fun _ _ h => h) (⟨iCe (if_neg (fun hp => upN (Q := cfQ f c.nn l bs.length) hi (fun ⟨⟨k1, k2⟩, k3, k4, k5, k6⟩ => by simp only [List.length_map] at *; first | omega | (have := k3 (by omega); omega) | (exact nd_t h71 k5) | simp_all) hp.2.1)).symm, rfl⟩)
              ·
                refine AW.skip ?_
                refine AW.seq ?_
                have hq : (0 ≤ f.cs[i].v ∧ f.cs[i].v < l.length + bs.length) ∧ (∀ (h0 : 0 < i), f.cs[i - 1].v < f.cs[i].v) ∧ f.cs[i].n ≠ 0 ∧ (-1048576 ≤ f.cs[i].n ∧ f.cs[i].n ≤ 1048576) := by
                  simp only [List.length_map] at *
                  refine ⟨by omega, fun h0 => by omega, by omega, ?_⟩
                  first | exact nd_f h71 | simp_all
                have hna : 1 ≤ f.cs[i].n.natAbs ∧ f.cs[i].n.natAbs ≤ 1048576 := by omega
                refine AW.reg ?_
                refine SeqK.q (q_asC rfl rfl) rfl rfl rfl ?_
                refine SeqK.nil ?_
                refine AW.seq ?_
                refine AW.seq ?_
                refine AW.reg ?_
                refine SeqK.q (q_fieldL _ rfl Fx.fl96_0 rfl rfl) rfl rfl rfl ?_
                refine SeqK.r (b_load (r := .a _) rfl Fx.ty3 rfl rfl rfl rfl rfl rfl) rfl ?_
                refine SeqK.q (q_mvC rfl rfl) rfl rfl rfl ?_
                refine SeqK.q (q_len rfl Fx.un29 rfl) rfl rfl rfl ?_
                refine SeqK.q (q_geq rfl rfl rfl) rfl rfl rfl ?_
                refine SeqK.nil ?_
                refine AW.condD rfl (fun h76 => ?_) (fun h76 => ?_)
                ·
                  have hv : f.cs[i].v.toNat - l.length < bs.length := by rw [List.length_map] at h76; omega
                  have hbn := bnd_hi (n := l.length) (bs := bs) (v := f.cs[i].v) (by rw [List.length_map] at h76; omega) hv
                  have hlv : f.cs[i].v < l.length → vty l f.cs[i].v = 1 ∧ f.cs[i].v ∈ c.nn := fun hh => by rw [List.length_map] at h76; omega
                  refine AW.reg ?_
                  refine SeqK.q (q_mvC rfl rfl) rfl rfl rfl ?_
                  refine SeqK.q (q_fieldL _ rfl Fx.fl96_0 rfl rfl) rfl rfl rfl ?_
                  refine SeqK.r (b_load (r := .a _) rfl Fx.ty3 rfl rfl rfl rfl rfl rfl) rfl ?_
                  refine SeqK.q (q_mvC rfl rfl) rfl rfl rfl ?_
                  refine SeqK.q (q_len rfl Fx.un29 rfl) rfl rfl rfl ?_
                  refine SeqK.q (q_sub _ rfl rfl rfl ((by rw [w64 (by omega) (by omega)]; rw [List.length_map] at *; omega : IntKind.i64.wrap _ = ((f.cs[i].v.toNat - l.length : Nat) : Int)))) rfl rfl rfl ?_
                  refine SeqK.q (q_index _ rfl Fx.sl67 rfl rfl (by omega) (idx_map (f := fun b : Nat => i64T (b : Int)) hv)) rfl rfl rfl ?_
                  refine SeqK.q (q_load (.a _) rfl Fx.ty2 rfl rfl rfl) rfl rfl rfl ?_
                  refine SeqK.q (q_asC rfl rfl) rfl rfl rfl ?_
                  refine SeqK.nil ?_
                  refine AW.seq ?_
                  refine AW.seq ?_
                  refine AW.wk (Wk.keep 116 [(2, .c (vsC z l)), (3, .c (bsC zb bs)), (4, .lp 4 0), (5, .lp 5 0), (8, .c (iC 0)), (9, iX .i64 ((f.c.natAbs + csum l.length bs (f.cs.take i) : Nat) : Int)), (10, iX .i64 ((i : Nat) : Int)), (11, .lp 11 0), (12, iX .i64 ((bnd l.length bs f.cs[i].v : Nat) : Int))] [(4, .box [.t (.v (.int .i64 f.c)), .t (.sl .un 2 (f.cs.map cfT))]), (5, .box [.t (.sl .un 1 (c.nl.map i64T)), .t (.sl .un 1 (c.nn.map i64T)), .t (.sl .un 4 (c.ax.map axT)), .t (.sl .un 3 (c.is.map ctT)), .t (.sl .un 4 (c.ts.map tsT)), .t (.sl .un 2 (c.sm.map prT)), .t (.sl .un 2 (c.df.map prT))]), (11, .box [.t (.v (.int .i64 f.cs[i].v)), .t (.v (.int .i64 f.cs[i].n))])] (H) rfl ⟨rfl, rfl, rfl, rfl, rfl, rfl, rfl, rfl, by rw [hbn]; rfl, trivial⟩ ⟨rfl, rfl, rfl, trivial⟩ (fun _ _ h => h) rfl) ?_
                  refine AW.reg ?_
                  refine SeqK.q (q_mvC rfl rfl) rfl rfl rfl ?_
                  refine SeqK.q (q_fieldL _ rfl Fx.fl96_1 rfl rfl) rfl rfl rfl ?_
                  refine SeqK.r (b_load (r := .a _) rfl Fx.ty2 rfl rfl rfl rfl rfl rfl) rfl ?_
                  refine SeqK.q (q_call _ rfl Fx.fn37 rfl (rabs_any _ (by omega)) rfl) rfl rfl rfl ?_
                  refine SeqK.q (q_quo _ rfl rfl rfl (by omega) (quoM hna.1 hna.2)) rfl rfl rfl ?_
                  refine SeqK.q (q_gtr rfl rfl rfl) rfl rfl rfl ?_
                  refine SeqK.nil ?_
                  refine AW.condD rfl (fun h105 => ?_) (fun h105 => ?_)
                  ·
                    refine AW.seq ?_
                    refine AW.reg ?_
                    refine SeqK.q (q_asC rfl rfl) rfl rfl rfl ?_
                    refine SeqK.nil ?_
                    refine AW.ret ?_
                    exact fin_x (x := .c _) (H) (.tmp rfl .nil) rfl (fun _ _ h => h) (⟨iCe (if_neg (fun hp => absurd hp.2.2 (by have := fsum_gt (n := l.length) (bs := bs) (f := f) (i := i + 1) (by rw [csum_take hi]; have := (quo_gt hna.1).1 h105; omega); omega))).symm, rfl⟩)
                  ·
                    refine AW.skip ?_
                    refine AW.seq ?_
                    have hmul : f.cs[i].n.natAbs * bnd l.length bs f.cs[i].v ≤ 1152921504606846977 := Nat.le_of_not_lt fun hh => h105 ((quo_gt hna.1).2 hh)
                    refine AW.reg ?_
                    refine SeqK.q (q_mvC rfl rfl) rfl rfl rfl ?_
                    refine SeqK.q (q_fieldL _ rfl Fx.fl96_1 rfl rfl) rfl rfl rfl ?_
                    refine SeqK.r (b_load (r := .a _) rfl Fx.ty2 rfl rfl rfl rfl rfl rfl) rfl ?_
                    refine SeqK.q (q_call _ rfl Fx.fn37 rfl (rabs_any _ (by omega)) rfl) rfl rfl rfl ?_
                    refine SeqK.q (q_mvC rfl rfl) rfl rfl rfl ?_
                    refine SeqK.q (q_mul _ rfl rfl rfl (w64mul hmul)) rfl rfl rfl ?_
                    refine SeqK.q (q_add _ rfl rfl rfl ((by rw [w64 (by omega) (by omega), csum_take hi]; push_cast; omega : IntKind.i64.wrap _ = ((f.c.natAbs + csum l.length bs (f.cs.take (i + 1)) : Nat) : Int)))) rfl rfl rfl ?_
                    refine SeqK.q (q_asC rfl rfl) rfl rfl rfl ?_
                    refine SeqK.nil ?_
                    refine AW.seq ?_
                    refine AW.reg ?_
                    refine SeqK.q (q_mvC rfl rfl) rfl rfl rfl ?_
                    refine SeqK.q (q_gtr rfl rfl rfl) rfl rfl rfl ?_
                    refine SeqK.nil ?_
                    refine AW.condD rfl (fun h114 => ?_) (fun h114 => ?_)
                    ·
                      refine AW.seq ?_
                      refine AW.reg ?_
                      refine SeqK.q (q_asC rfl rfl) rfl rfl rfl ?_
                      refine SeqK.nil ?_
                      refine AW.ret ?_
                      exact fin_x (x := .c _) (H) (.tmp rfl .nil) rfl (fun _ _ h => h) (⟨iCe (if_neg (fun hp => absurd hp.2.2 (by have := fsum_gt (n := l.length) (bs := bs) (f := f) (i := i + 1) (by omega); omega))).symm, rfl⟩)
                    ·
                      refine AW.skip ?_
                      refine AW.reg ?_
                      refine SeqK.q (q_mvC rfl rfl) rfl rfl rfl ?_
                      refine SeqK.q (q_add _ rfl rfl rfl (w64 (by omega) (by omega))) rfl rfl rfl ?_
                      refine SeqK.q (q_asC rfl rfl) rfl rfl rfl ?_
                      refine SeqK.nil ?_
                      exact ⟨i + 1, _, Wk.keep 116 [(2, .c (vsC z l)), (3, .c (bsC zb bs)), (4, .lp 4 0), (5, .lp 5 0), (8, .c (iC 0)), (9, iX .i64 ((f.c.natAbs + csum l.length bs (f.cs.take (i + 1)) : Nat) : Int)), (10, iX .i64 (((i + 1) : Nat) : Int))] [(4, .box [.t (.v (.int .i64 f.c)), .t (.sl .un 2 (f.cs.map cfT))]), (5, .box [.t (.sl .un 1 (c.nl.map i64T)), .t (.sl .un 1 (c.nn.map i64T)), .t (.sl .un 4 (c.ax.map axT)), .t (.sl .un 3 (c.is.map ctT)), .t (.sl .un 4 (c.ts.map tsT)), .t (.sl .un 2 (c.sm.map prT)), .t (.sl .un 2 (c.df.map prT))])] (H) rfl ⟨rfl, rfl, rfl, rfl, rfl, rfl, rfl, trivial⟩ ⟨rfl, rfl, trivial⟩ (fun _ _ h => h) rfl, by omega, ⟨hi, upS hi hU ⟨hq.1, hq.2.1, hq.2.2.1, hq.2.2.2, hlv⟩, by omega⟩, rfl⟩
                ·
                  refine AW.seq ?_
                  have hv : f.cs[i].v.toNat < l.length := by rw [List.length_map] at h76; omega
                  have hty := vty_at hv
                  have hbn := bnd_lo (n := l.length) (bs := bs) (v := f.cs[i].v) (by rw [List.length_map] at h76; omega)
                  refine AW.reg ?_
                  refine SeqK.q (q_mvC rfl rfl) rfl rfl rfl ?_
                  refine SeqK.q (q_fieldL _ rfl Fx.fl96_0 rfl rfl) rfl rfl rfl ?_
                  refine SeqK.r (b_load (r := .a _) rfl Fx.ty3 rfl rfl rfl rfl rfl rfl) rfl ?_
                  refine SeqK.q (q_index _ rfl Fx.sl29 rfl rfl (by omega) (idx_map (f := vrT) hv)) rfl rfl rfl ?_
                  refine SeqK.q (q_fieldP _ rfl Fx.fl36_0 rfl rfl) rfl rfl rfl ?_
                  refine SeqK.q (q_load (.a _) rfl Fx.ty3 rfl rfl rfl) rfl rfl rfl ?_
                  refine SeqK.q (q_neq rfl rfl rfl) rfl rfl rfl ?_
                  refine SeqK.qD (q_mvC rfl rfl) rfl rfl rfl (fun g92 => ?_) (fun g92 => ?_)
                  ·
                    refine SeqK.off rfl rfl rfl rfl rfl rfl ?_
                    refine SeqK.off rfl rfl rfl rfl rfl rfl ?_
                    refine SeqK.off rfl rfl rfl rfl rfl rfl ?_
                    refine SeqK.off rfl rfl rfl rfl rfl rfl ?_
                    refine SeqK.off rfl rfl rfl rfl rfl rfl ?_
                    refine SeqK.off rfl rfl rfl rfl rfl rfl ?_
                    refine SeqK.q (q_pkT rfl rfl rfl) rfl rfl rfl ?_
                    refine SeqK.nil ?_
                    refine AW.condT rfl ?_
                    refine AW.seq ?_
                    refine AW.reg ?_
                    refine SeqK.q (q_asC rfl rfl) rfl rfl rfl ?_
                    refine SeqK.nil ?_
                    refine AW.ret ?_
                    exact fin_x (x := .c _) (H) (.tmp rfl .nil) rfl (fun _ _ h => h) (⟨iCe (if_neg (fun hp => upN (Q := cfQ f c.nn l bs.length) hi (fun ⟨⟨k1, k2⟩, k3, k4, k5, k6⟩ => by simp only [List.length_map] at *; have := k6 (by omega); first | (rw [hty] at this; omega) | (exact nd_t h99 this.2)) hp.2.1)).symm, rfl⟩)
                  ·
                    refine SeqK.on (q_fieldL _ rfl Fx.fl28_1 rfl rfl) rfl rfl rfl rfl rfl ?_
                    refine SeqK.rOn (b_load (r := .a _) rfl Fx.ty22 rfl rfl rfl rfl rfl rfl) rfl rfl rfl ?_
                    refine SeqK.on (q_fieldL _ rfl Fx.fl96_0 rfl rfl) rfl rfl rfl rfl rfl ?_
                    refine SeqK.rOn (b_load (r := .a _) rfl Fx.ty3 rfl rfl rfl rfl rfl rfl) rfl rfl rfl ?_
                    refine SeqK.on (q_call _ rfl Fx.fn36 rfl (has_any _ _ _ hn) rfl) rfl rfl rfl rfl rfl ?_
                    refine SeqK.on (q_not rfl rfl) rfl rfl rfl rfl rfl ?_
                    refine SeqK.q (q_pkF rfl rfl rfl) rfl rfl rfl ?_
                    refine SeqK.nil ?_
                    refine AW.cond _ rfl (fun h99 => ?_) (fun h99 => ?_)
                    ·
                      refine AW.seq ?_
                      refine AW.reg ?_
                      refine SeqK.q (q_asC rfl rfl) rfl rfl rfl ?_
                      refine SeqK.nil ?_
                      refine AW.ret ?_
                      exact fin_x (x := .c _) (H) (.tmp rfl .nil) rfl (fun _ _ h => h) (⟨iCe (if_neg (fun hp => upN (Q := cfQ f c.nn l bs.length) hi (fun ⟨⟨k1, k2⟩, k3, k4, k5, k6⟩ => by simp only [List.length_map] at *; have := k6 (by omega); first | (rw [hty] at this; omega) | (exact nd_t h99 this.2)) hp.2.1)).symm, rfl⟩)
                    ·
                      have hlv : f.cs[i].v < l.length → vty l f.cs[i].v = 1 ∧ f.cs[i].v ∈ c.nn := fun _ => ⟨by rw [hty]; first | omega | exact Classical.not_not.1 g92, nd_f h99⟩
                      refine AW.skip ?_
                      refine AW.seq ?_
                      refine AW.seq ?_
                      refine AW.wk (Wk.keep 116 [(2, .c (vsC z l)), (3, .c (bsC zb bs)), (4, .lp 4 0), (5, .lp 5 0), (8, .c (iC 0)), (9, iX .i64 ((f.c.natAbs + csum l.length bs (f.cs.take i) : Nat) : Int)), (10, iX .i64 ((i : Nat) : Int)), (11, .lp 11 0), (12, iX .i64 ((bnd l.length bs f.cs[i].v : Nat) : Int))] [(4, .box [.t (.v (.int .i64 f.c)), .t (.sl .un 2 (f.cs.map cfT))]), (5, .box [.t (.sl .un 1 (c.nl.map i64T)), .t (.sl .un 1 (c.nn.map i64T)), .t (.sl .un 4 (c.ax.map axT)), .t (.sl .un 3 (c.is.map ctT)), .t (.sl .un 4 (c.ts.map tsT)), .t (.sl .un 2 (c.sm.map prT)), .t (.sl .un 2 (c.df.map prT))]), (11, .box [.t (.v (.int .i64 f.cs[i].v)), .t (.v (.int .i64 f.cs[i].n))])] (H) rfl ⟨rfl, rfl, rfl, rfl, rfl, rfl, rfl, rfl, by rw [hbn]; rfl, trivial⟩ ⟨rfl, rfl, rfl, trivial⟩ (fun _ _ h => h) rfl) ?_
                      refine AW.reg ?_
                      refine SeqK.q (q_mvC rfl rfl) rfl rfl rfl ?_
                      refine SeqK.q (q_fieldL _ rfl Fx.fl96_1 rfl rfl) rfl rfl rfl ?_
                      refine SeqK.r (b_load (r := .a _) rfl Fx.ty2 rfl rfl rfl rfl rfl rfl) rfl ?_
                      refine SeqK.q (q_call _ rfl Fx.fn37 rfl (rabs_any _ (by omega)) rfl) rfl rfl rfl ?_
                      refine SeqK.q (q_quo _ rfl rfl rfl (by omega) (quoM hna.1 hna.2)) rfl rfl rfl ?_
                      refine SeqK.q (q_gtr rfl rfl rfl) rfl rfl rfl ?_
                      refine SeqK.nil ?_
                      refine AW.condD rfl (fun h105 => ?_) (fun h105 => ?_)
                      ·
                        refine AW.seq ?_
                        refine AW.reg ?_
                        refine SeqK.q (q_asC rfl rfl) rfl rfl rfl ?_
                        refine SeqK.nil ?_
                        refine AW.ret ?_
                        exact fin_x (x := .c _) (H) (.tmp rfl .nil) rfl (fun _ _ h => h) (⟨iCe (if_neg (fun hp => absurd hp.2.2 (by have := fsum_gt (n := l.length) (bs := bs) (f := f) (i := i + 1) (by rw [csum_take hi]; have := (quo_gt hna.1).1 h105; omega); omega))).symm, rfl⟩)
                      ·
                        refine AW.skip ?_
                        refine AW.seq ?_
                        have hmul : f.cs[i].n.natAbs * bnd l.length bs f.cs[i].v ≤ 1152921504606846977 := Nat.le_of_not_lt fun hh => h105 ((quo_gt hna.1).2 hh)
                        refine AW.reg ?_
                        refine SeqK.q (q_mvC rfl rfl) rfl rfl rfl ?_
                        refine SeqK.q (q_fieldL _ rfl Fx.fl96_1 rfl rfl) rfl rfl rfl ?_
                        refine SeqK.r (b_load (r := .a _) rfl Fx.ty2 rfl rfl rfl rfl rfl rfl) rfl ?_
                        refine SeqK.q (q_call _ rfl Fx.fn37 rfl (rabs_any _ (by omega)) rfl) rfl rfl rfl ?_
                        refine SeqK.q (q_mvC rfl rfl) rfl rfl rfl ?_
                        refine SeqK.q (q_mul _ rfl rfl rfl (w64mul hmul)) rfl rfl rfl ?_
                        refine SeqK.q (q_add _ rfl rfl rfl ((by rw [w64 (by omega) (by omega), csum_take hi]; push_cast; omega : IntKind.i64.wrap _ = ((f.c.natAbs + csum l.length bs (f.cs.take (i + 1)) : Nat) : Int)))) rfl rfl rfl ?_
                        refine SeqK.q (q_asC rfl rfl) rfl rfl rfl ?_
                        refine SeqK.nil ?_
                        refine AW.seq ?_
                        refine AW.reg ?_
                        refine SeqK.q (q_mvC rfl rfl) rfl rfl rfl ?_
                        refine SeqK.q (q_gtr rfl rfl rfl) rfl rfl rfl ?_
                        refine SeqK.nil ?_
                        refine AW.condD rfl (fun h114 => ?_) (fun h114 => ?_)
                        ·
                          refine AW.seq ?_
                          refine AW.reg ?_
                          refine SeqK.q (q_asC rfl rfl) rfl rfl rfl ?_
                          refine SeqK.nil ?_
                          refine AW.ret ?_
                          exact fin_x (x := .c _) (H) (.tmp rfl .nil) rfl (fun _ _ h => h) (⟨iCe (if_neg (fun hp => absurd hp.2.2 (by have := fsum_gt (n := l.length) (bs := bs) (f := f) (i := i + 1) (by omega); omega))).symm, rfl⟩)
                        ·
                          refine AW.skip ?_
                          refine AW.reg ?_
                          refine SeqK.q (q_mvC rfl rfl) rfl rfl rfl ?_
                          refine SeqK.q (q_add _ rfl rfl rfl (w64 (by omega) (by omega))) rfl rfl rfl ?_
                          refine SeqK.q (q_asC rfl rfl) rfl rfl rfl ?_
                          refine SeqK.nil ?_
                          exact ⟨i + 1, _, Wk.keep 116 [(2, .c (vsC z l)), (3, .c (bsC zb bs)), (4, .lp 4 0), (5, .lp 5 0), (8, .c (iC 0)), (9, iX .i64 ((f.c.natAbs + csum l.length bs (f.cs.take (i + 1)) : Nat) : Int)), (10, iX .i64 (((i + 1) : Nat) : Int))] [(4, .box [.t (.v (.int .i64 f.c)), .t (.sl .un 2 (f.cs.map cfT))]), (5, .box [.t (.sl .un 1 (c.nl.map i64T)), .t (.sl .un 1 (c.nn.map i64T)), .t (.sl .un 4 (c.ax.map axT)), .t (.sl .un 3 (c.is.map ctT)), .t (.sl .un 4 (c.ts.map tsT)), .t (.sl .un 2 (c.sm.map prT)), .t (.sl .un 2 (c.df.map prT))])] (H) rfl ⟨rfl, rfl, rfl, rfl, rfl, rfl, rfl, trivial⟩ ⟨rfl, rfl, trivial⟩ (fun _ _ h => h) rfl, by omega, ⟨hi, upS hi hU ⟨hq.1, hq.2.1, hq.2.2.1, hq.2.2.2, hlv⟩, by omega⟩, rfl⟩
    ·
      refine AW.exit ?_
      refine eth_e ?_
      refine eth_e ?_
      refine exit_here ?_
      refine AW.seq ?_
      refine AW.reg ?_
      refine SeqK.q (q_mvC rfl rfl) rfl rfl rfl ?_
      refine SeqK.q (q_asC rfl rfl) rfl rfl rfl ?_
      refine SeqK.nil ?_
      refine AW.ret ?_
      exact fin_x (x := .c _) (H) (.tmp rfl .nil) rfl (fun _ _ h => h) (⟨iCe (by have hil : f.cs.take i = f.cs := List.take_of_length_le (by rw [List.length_map] at h24; omega); rw [hil] at hS ⊢; rw [formV, if_pos ⟨k16, upE hU (by rw [List.length_map] at h24; omega), hS⟩]; rfl), rfl⟩)

end Go.Proofs.YtnmfjojhgfipcaaGreatDoor.W
namespace Go.Proofs.YtnmfjojhgfipcaaGreatDoor.W
open Go.RowKit E
set_option linter.unusedVariables false
set_option linter.unusedSimpArgs false
set_option linter.unusedSectionVars false
abbrev axQ (c : Cl) (l : List Vr) (bs : List Nat) (a : Ax) : Prop :=
  (a.b = 0 ∧ a.f.cs.length = 0 ∧ a.f.c = 0 ∧ txtP a.t c.nn l) ∨ (a.b ≠ 0 ∧ formP a.f c.nn l bs ∧ (1 ≤ a.b ∧ a.b ≤ 1000) ∧ a.t = 0)
def nb (n : Nat) (bs : List Nat) (a : Ax) : Nat := if a.b = 0 then 16 else fsum n bs a.f / a.b.toNat + 1
def bsF (n : Nat) (axs : List Ax) : List Nat := axs.foldl (fun bs a => bs ++ [nb n bs a]) []
theorem bsF_take {n : Nat} {l : List Ax} {i : Nat} (h : i < l.length) : bsF n (l.take (i + 1)) = bsF n (l.take i) ++ [nb n (bsF n (l.take i)) l[i]] := by
  rw [List.take_succ_eq_append_getElem h, bsF, List.foldl_append]; rfl
theorem bsF_len (n : Nat) (l : List Ax) : (bsF n l).length = l.length := by
  have key : ∀ (l : List Ax) (bs : List Nat), (l.foldl (fun bs a => bs ++ [nb n bs a]) bs).length = bs.length + l.length := by
    intro l
    induction l with
    | nil => intro bs; simp
    | cons a r ih => intro bs; rw [List.foldl_cons, ih]; simp; omega
  have := key l []
  simpa [bsF] using this
abbrev vldP (c : Cl) (l : List Vr) : Prop :=
  ascP c.nl (l.length : Int) ∧ ascP c.nn (l.length : Int) ∧ (∀ j (h : j < c.ax.length), axQ c l (bsF l.length (c.ax.take j)) c.ax[j]) ∧
  (∀ j (h : j < c.is.length), formP c.is[j].f c.nn l (bsF l.length c.ax)) ∧ (∀ j (h : j < c.ts.length), tstP c.ts[j] ∧ txtP c.ts[j].v c.nn l) ∧ prP c.sm c.nn l ∧ prP c.df c.nn l
theorem asc_len (l : List Int) (z : Nz) (vs : List Vr) (hL : l.length ≤ 17592186044000) : Pure Tryz.prog 12 [iL z l, iC (((vs.map vrT).length : Nat) : Int)] (.c (bC (decide (ascP l (vs.length : Int))))) := by
  rw [List.length_map]; exact asc_any l z _ hL
instance vldDec (c : Cl) (l : List Vr) : Decidable (vldP c l) :=
  @instDecidableAnd _ _ inferInstance (@instDecidableAnd _ _ inferInstance (@instDecidableAnd _ _ (inferInstanceAs (Decidable (∀ j (h : j < c.ax.length), axQ c l (bsF l.length (c.ax.take j)) c.ax[j]))) (@instDecidableAnd _ _ (inferInstanceAs (Decidable (∀ j (h : j < c.is.length), formP c.is[j].f c.nn l (bsF l.length c.ax)))) (@instDecidableAnd _ _ (inferInstanceAs (Decidable (∀ j (h : j < c.ts.length), tstP c.ts[j] ∧ txtP c.ts[j].v c.nn l))) (inferInstanceAs (Decidable (prP c.sm c.nn l ∧ prP c.df c.nn l)))))))
theorem formV_neg {f : Lf} {nn : List Int} {l : List Vr} {bs : List Nat} : formV f nn l bs < 0 ↔ ¬ formP f nn l bs := by
  unfold formV; split <;> rename_i h
  · exact ⟨fun h' => by omega, fun h' => absurd h h'⟩
  · exact ⟨fun _ => h, fun _ => by decide⟩
theorem formV_pos {f : Lf} {nn : List Int} {l : List Vr} {bs : List Nat} (h : formP f nn l bs) : formV f nn l bs = (fsum l.length bs f : Int) := if_pos h
theorem quoB {a : Nat} {b : Int} (ha : a ≤ 1152921504606846977) (h1 : 1 ≤ b) : IntKind.i64.wrap ((a : Int).tdiv b) = ((a / b.toNat : Nat) : Int) := by
  obtain ⟨m, rfl⟩ := Int.eq_ofNat_of_zero_le (show 0 ≤ b by omega)
  have h1 : (a : Int).tdiv (m : Int) = ((a / m : Nat) : Int) := rfl
  have h2 : ((a / m : Nat) : Int) ≤ ((1152921504606846977 : Nat) : Int) := by exact_mod_cast Nat.le_trans (Nat.div_le_self a m) ha
  have h0 : (0 : Int) ≤ ((a / m : Nat) : Int) := Int.natCast_nonneg _
  rw [h1, w64 (by generalize ((a / m : Nat) : Int) = q at *; omega) (by generalize ((a / m : Nat) : Int) = q at *; omega)]; rfl
theorem mlen {α β : Type} (f : α → β) (l : List α) : (l.map f).length = l.length := List.length_map _

set_option maxHeartbeats 8000000 in
set_option maxRecDepth 20000 in
theorem rvalid_any (c : Cl) (l : List Vr) (z : Nz) (hc : rgC c) (hl : l.length ≤ 17592186044000) : Pure Tryz.prog 7 [clC c, vsC z l] (.c (bC (decide (vldP c l)))) := by
  intro H
  refine Spec.enter Tryz.func7 rfl ?_
  refine AW.wk (Wk.keep 145 [(0, .c (clC c)), (1, .c (vsC z l))] [] (H) rfl ⟨rfl, rfl, trivial⟩ trivial (fun _ _ h => h) rfl) ?_
  refine AW.seq ?_
  refine AW.reg ?_
  refine SeqK.r (b_box (r := [_, _, _, _, _, _, _]) rfl rfl rfl rfl rfl rfl) rfl ?_
  refine SeqK.q (q_asC rfl rfl) rfl rfl rfl ?_
  refine SeqK.nil ?_
  refine AW.seq ?_
  refine AW.seq ?_
  have q1 := hc.ax
  have q2 := hc.is
  have q3 := hc.ts
  refine AW.reg ?_
  refine SeqK.q (q_fieldL _ rfl Fx.fl28_0 rfl rfl) rfl rfl rfl ?_
  refine SeqK.r (b_load (r := .a _) rfl Fx.ty22 rfl rfl rfl rfl rfl rfl) rfl ?_
  refine SeqK.q (q_mvC rfl rfl) rfl rfl rfl ?_
  refine SeqK.q (q_len rfl Fx.un29 rfl) rfl rfl rfl ?_
  refine SeqK.q (q_call _ rfl Fx.fn12 rfl (asc_len c.nl _ l hc.nl) rfl) rfl rfl rfl ?_
  refine SeqK.q (q_not rfl rfl) rfl rfl rfl ?_
  refine SeqK.qB (q_mvC rfl rfl) rfl rfl rfl (fun g17 => ?_) (fun g17 => ?_)
  ·
    refine SeqK.off rfl rfl rfl rfl rfl rfl ?_
    refine SeqK.off rfl rfl rfl rfl rfl rfl ?_
    refine SeqK.off rfl rfl rfl rfl rfl rfl ?_
    refine SeqK.off rfl rfl rfl rfl rfl rfl ?_
    refine SeqK.off rfl rfl rfl rfl rfl rfl ?_
    refine SeqK.off rfl rfl rfl rfl rfl rfl ?_
    refine SeqK.q (q_pkT rfl rfl rfl) rfl rfl rfl ?_
    refine SeqK.nil ?_
    refine AW.condT rfl ?_
    refine AW.seq ?_
    refine AW.reg ?_
    refine SeqK.q (q_asC rfl rfl) rfl rfl rfl ?_
    refine SeqK.nil ?_
    refine AW.ret ?_
    exact fin_x (x := .c _) (H) (.tmp rfl .nil) rfl (fun _ _ h => h) (⟨bCe (dF (fun hv => by first | exact nd_t g17 hv.1 | exact nd_t h24 hv.2.1 | simp_all)), rfl⟩)
  ·
    refine SeqK.on (q_fieldL _ rfl Fx.fl28_1 rfl rfl) rfl rfl rfl rfl rfl ?_
    refine SeqK.rOn (b_load (r := .a _) rfl Fx.ty22 rfl rfl rfl rfl rfl rfl) rfl rfl rfl ?_
    refine SeqK.on (q_mvC rfl rfl) rfl rfl rfl rfl rfl ?_
    refine SeqK.on (q_len rfl Fx.un29 rfl) rfl rfl rfl rfl rfl ?_
    refine SeqK.on (q_call _ rfl Fx.fn12 rfl (asc_len c.nn _ l hc.nn) rfl) rfl rfl rfl rfl rfl ?_
    refine SeqK.on (q_not rfl rfl) rfl rfl rfl rfl rfl ?_
    refine SeqK.q (q_pkF rfl rfl rfl) rfl rfl rfl ?_
    refine SeqK.nil ?_
    refine AW.cond _ rfl (fun h24 => ?_) (fun h24 => ?_)
    ·
      refine AW.seq ?_
      refine AW.reg ?_
      refine SeqK.q (q_asC rfl rfl) rfl rfl rfl ?_
      refine SeqK.nil ?_
      refine AW.ret ?_
      exact fin_x (x := .c _) (H) (.tmp rfl .nil) rfl (fun _ _ h => h) (⟨bCe (dF (fun hv => by first | exact nd_t g17 hv.1 | exact nd_t h24 hv.2.1 | simp_all)), rfl⟩)
    ·
      refine AW.skip ?_
      refine AW.seq ?_
      have hA : ascP c.nl (l.length : Int) := by simpa using g17
      have hB : ascP c.nn (l.length : Int) := by simpa using h24
      refine AW.reg ?_
      refine SeqK.q (q_asC rfl rfl) rfl rfl rfl ?_
      refine SeqK.nil ?_
      refine AW.seq ?_
      refine AW.seq ?_
      refine AW.reg ?_
      refine SeqK.q (q_asC rfl rfl) rfl rfl rfl ?_
      refine SeqK.nil ?_
      refine AW.block ?_
      refine AW.tip 5 2 1 rfl (fun k0 hk0 => ?_)
      refine AW.loop (fun (i : Nat) s => ∃ (kt : Nat) (zs : List (List E.T)), (i ≤ c.ax.length ∧ H kt = none ∧ (∀ j (h : j < c.ax.length), j < i → axQ c l (bsF l.length (c.ax.take j)) c.ax[j]) ∧ zs = (bsF l.length (c.ax.take i)).map fun b : Nat => i64T (b : Int)) ∧ s = ⟨145, sp [(1, .c (vsC z l)), (2, .lp 2 0), (4, .c (bC false)), (5, .c (.a (.ts kt .ne 1 zs))), (6, iX .i64 ((i : Nat) : Int))], lv [(2, .box [.t (.sl .un 1 (c.nl.map i64T)), .t (.sl .un 1 (c.nn.map i64T)), .t (.sl .un 4 (c.ax.map axT)), .t (.sl .un 3 (c.is.map ctT)), .t (.sl .un 4 (c.ts.map tsT)), .t (.sl .un 2 (c.sm.map prT)), .t (.sl .un 2 (c.df.map prT))])], upd H kt (some (.tip 2 1 zs.length))⟩) (fun i => c.ax.length - i) 0 ⟨_, Wk.keep 145 [(1, .c (vsC z l)), (2, .lp 2 0), (4, .c (bC false)), (5, .c (.a (.ts (k0) .ne 1 ([])))), (6, iX .i64 ((((0 : Nat)) : Nat) : Int))] [(2, .box [.t (.sl .un 1 (c.nl.map i64T)), .t (.sl .un 1 (c.nn.map i64T)), .t (.sl .un 4 (c.ax.map axT)), .t (.sl .un 3 (c.is.map ctT)), .t (.sl .un 4 (c.ts.map tsT)), .t (.sl .un 2 (c.sm.map prT)), .t (.sl .un 2 (c.df.map prT))])] (upd H (k0) (some (.tip 2 1 ([]).length))) rfl ⟨rfl, rfl, rfl, rfl, rfl, trivial⟩ ⟨rfl, trivial⟩ (fun _ _ h => h) rfl, k0, [], ⟨Nat.zero_le _, hk0, up0, rfl⟩, rfl⟩ (fun i s hs => ?_)
      obtain ⟨kt, zs, ⟨hi0, hkt, hU, hzs⟩, rfl⟩ := hs
      refine AW.seq ?_
      refine AW.seq ?_
      refine AW.reg ?_
      refine SeqK.q (q_mvC rfl rfl) rfl rfl rfl ?_
      refine SeqK.q (q_fieldL _ rfl Fx.fl28_2 rfl rfl) rfl rfl rfl ?_
      refine SeqK.r (b_load (r := .a _) rfl Fx.ty23 rfl rfl rfl rfl rfl rfl) rfl ?_
      refine SeqK.q (q_len rfl Fx.un23 rfl) rfl rfl rfl ?_
      refine SeqK.q (q_lss rfl rfl rfl) rfl rfl rfl ?_
      refine SeqK.nil ?_
      refine AW.condD rfl (fun h29 => ?_) (fun h29 => ?_)
      ·
        have hi : i < c.ax.length := by rw [List.length_map] at h29; omega
        refine AW.skip ?_
        refine AW.seq ?_
        refine AW.block ?_
        refine AW.seq ?_
        refine AW.reg ?_
        refine SeqK.q (q_fieldL _ rfl Fx.fl28_2 rfl rfl) rfl rfl rfl ?_
        refine SeqK.r (b_load (r := .a _) rfl Fx.ty23 rfl rfl rfl rfl rfl rfl) rfl ?_
        refine SeqK.q (q_mvC rfl rfl) rfl rfl rfl ?_
        refine SeqK.q (q_index _ rfl Fx.sl23 rfl rfl (by omega) (idx_map (f := axT) hi)) rfl rfl rfl ?_
        refine SeqK.q (q_load (.g [_, _, _, _]) rfl Fx.ty63 rfl rfl rfl) rfl rfl rfl ?_
        refine SeqK.r (b_alloc (r := [_, _, _, _]) rfl rfl Fx.ze63 rfl rfl rfl rfl) rfl ?_
        refine SeqK.r (b_store (r := [_, _, _, _]) rfl rfl Fx.ty63 rfl rfl rfl rfl rfl rfl) rfl ?_
        refine SeqK.nil ?_
        refine AW.seq ?_
        refine AW.seq ?_
        refine AW.reg ?_
        refine SeqK.q (q_fieldL _ rfl Fx.fl63_1 rfl rfl) rfl rfl rfl ?_
        refine SeqK.r (b_load (r := .a _) rfl Fx.ty2 rfl rfl rfl rfl rfl rfl) rfl ?_
        refine SeqK.q (q_eql rfl rfl rfl) rfl rfl rfl ?_
        refine SeqK.nil ?_
        refine AW.condD rfl (fun h39 => ?_) (fun h39 => ?_)
        ·
          refine AW.seq ?_
          refine AW.seq ?_
          refine AW.reg ?_
          refine SeqK.q (q_fieldL _ rfl Fx.fl63_0 rfl rfl) rfl rfl rfl ?_
          refine SeqK.q (q_fieldL _ rfl Fx.fl61_1 rfl rfl) rfl rfl rfl ?_
          refine SeqK.r (b_load (r := .a _) rfl Fx.ty59 rfl rfl rfl rfl rfl rfl) rfl ?_
          refine SeqK.q (q_len rfl Fx.un59 rfl) rfl rfl rfl ?_
          refine SeqK.q (q_gtr rfl rfl rfl) rfl rfl rfl ?_
          refine SeqK.qD (q_mvC rfl rfl) rfl rfl rfl (fun g45 => ?_) (fun g45 => ?_)
          ·
            refine SeqK.off rfl rfl rfl rfl rfl rfl ?_
            refine SeqK.off rfl rfl rfl rfl rfl rfl ?_
            refine SeqK.off rfl rfl rfl rfl rfl rfl ?_
            refine SeqK.off rfl rfl rfl rfl rfl rfl ?_
            refine SeqK.q (q_pkT rfl rfl rfl) rfl rfl rfl ?_
            refine SeqK.q (q_mvC rfl rfl) rfl rfl rfl ?_
            refine SeqK.off rfl rfl rfl rfl rfl rfl ?_
            refine SeqK.off rfl rfl rfl rfl rfl rfl ?_
            refine SeqK.off rfl rfl rfl rfl rfl rfl ?_
            refine SeqK.off rfl rfl rfl rfl rfl rfl ?_
            refine SeqK.off rfl rfl rfl rfl rfl rfl ?_
            refine SeqK.off rfl rfl rfl rfl rfl rfl ?_
            refine SeqK.q (q_pkT rfl rfl rfl) rfl rfl rfl ?_
            refine SeqK.nil ?_
            refine AW.condT rfl ?_
            refine AW.seq ?_
            refine AW.reg ?_
            refine SeqK.q (q_asC rfl rfl) rfl rfl rfl ?_
            refine SeqK.nil ?_
            refine AW.ret ?_
            exact fin_x (x := .c _) (H) (.tmp rfl .nil) rfl (fun j o h => by show upd H _ _ j = _; rw [upd_ne _ _ (fun e => by subst e; simp_all)]; exact h) (⟨bCe (dF (fun hv => by have := hv.2.2.1 i hi; rcases this with ⟨k1, k2, k3, k4⟩ | ⟨k1, _⟩ <;> first | exact absurd h39 k1 | exact nd_t h58 k4 | (simp only [List.length_map] at *; omega))), rfl⟩)
          ·
            refine SeqK.on (q_fieldL _ rfl Fx.fl63_0 rfl rfl) rfl rfl rfl rfl rfl ?_
            refine SeqK.on (q_fieldL _ rfl Fx.fl61_0 rfl rfl) rfl rfl rfl rfl rfl ?_
            refine SeqK.rOn (b_load (r := .a _) rfl Fx.ty2 rfl rfl rfl rfl rfl rfl) rfl rfl rfl ?_
            refine SeqK.on (q_neq rfl rfl rfl) rfl rfl rfl rfl rfl ?_
            refine SeqK.q (q_pkF rfl rfl rfl) rfl rfl rfl ?_
            refine SeqK.qD (q_mvC rfl rfl) rfl rfl rfl (fun g51 => ?_) (fun g51 => ?_)
            ·
              refine SeqK.off rfl rfl rfl rfl rfl rfl ?_
              refine SeqK.off rfl rfl rfl rfl rfl rfl ?_
              refine SeqK.off rfl rfl rfl rfl rfl rfl ?_
              refine SeqK.off rfl rfl rfl rfl rfl rfl ?_
              refine SeqK.off rfl rfl rfl rfl rfl rfl ?_
              refine SeqK.off rfl rfl rfl rfl rfl rfl ?_
              refine SeqK.q (q_pkT rfl rfl rfl) rfl rfl rfl ?_
              refine SeqK.nil ?_
              refine AW.condT rfl ?_
              refine AW.seq ?_
              refine AW.reg ?_
              refine SeqK.q (q_asC rfl rfl) rfl rfl rfl ?_
              refine SeqK.nil ?_
              refine AW.ret ?_
              exact fin_x (x := .c _) (H) (.tmp rfl .nil) rfl (fun j o h => by show upd H _ _ j = _; rw [upd_ne _ _ (fun e => by subst e; simp_all)]; exact h) (⟨bCe (dF (fun hv => by have := hv.2.2.1 i hi; rcases this with ⟨k1, k2, k3, k4⟩ | ⟨k1, _⟩ <;> first | exact absurd h39 k1 | exact nd_t h58 k4 | (simp only [List.length_map] at *; omega))), rfl⟩)
            ·
              refine SeqK.on (q_fieldL _ rfl Fx.fl63_2 rfl rfl) rfl rfl rfl rfl rfl ?_
              refine SeqK.rOn (b_load (r := .a _) rfl Fx.ty3 rfl rfl rfl rfl rfl rfl) rfl rfl rfl ?_
              refine SeqK.rOn (b_load (r := .g [_, _, _, _, _, _, _]) rfl Fx.ty28 rfl rfl rfl rfl rfl rfl) rfl rfl rfl ?_
              refine SeqK.on (q_mvC rfl rfl) rfl rfl rfl rfl rfl ?_
              refine SeqK.on (q_call _ rfl Fx.fn13 rfl (text_any _ _ _ _ hc.nn) rfl) rfl rfl rfl rfl rfl ?_
              refine SeqK.on (q_not rfl rfl) rfl rfl rfl rfl rfl ?_
              refine SeqK.q (q_pkF rfl rfl rfl) rfl rfl rfl ?_
              refine SeqK.nil ?_
              refine AW.cond _ rfl (fun h58 => ?_) (fun h58 => ?_)
              ·
                refine AW.seq ?_
                refine AW.reg ?_
                refine SeqK.q (q_asC rfl rfl) rfl rfl rfl ?_
                refine SeqK.nil ?_
                refine AW.ret ?_
                exact fin_x (x := .c _) (H) (.tmp rfl .nil) rfl (fun j o h => by show upd H _ _ j = _; rw [upd_ne _ _ (fun e => by subst e; simp_all)]; exact h) (⟨bCe (dF (fun hv => by have := hv.2.2.1 i hi; rcases this with ⟨k1, k2, k3, k4⟩ | ⟨k1, _⟩ <;> first | exact absurd h39 k1 | exact nd_t h58 k4 | (simp only [List.length_map] at *; omega))), rfl⟩)
              ·
                refine AW.skip ?_
                refine AW.seq ?_
                have hax : axQ c l (bsF l.length (c.ax.take i)) c.ax[i] := .inl ⟨h39, by simp only [List.length_map] at *; omega, by omega, nd_f h58⟩
                have hnb : nb l.length (bsF l.length (c.ax.take i)) c.ax[i] = 16 := if_pos h39
                refine AW.reg ?_
                refine SeqK.q (q_mvC rfl rfl) rfl rfl rfl ?_
                refine SeqK.q (q_buildSlice _ rfl Fx.el67 rfl (by decide) rfl) rfl rfl rfl ?_
                refine SeqK.app1 rfl (hkt) rfl Fx.el67 rfl rfl (by have h1 := hc.ax; have h2 : zs.length = i := (by rw [hzs, List.length_map, bsF_len, List.length_take]; omega); simp; omega) rfl rfl (fun k61 hk61 => ?_)
                refine SeqK.q (q_asC rfl rfl) rfl rfl rfl ?_
                refine SeqK.nil ?_
                refine AW.exit ?_
                refine eth_e ?_
                refine exit_here ?_
                refine AW.reg ?_
                refine SeqK.q (q_mvC rfl rfl) rfl rfl rfl ?_
                refine SeqK.q (q_add _ rfl rfl rfl (w64 (by omega) (by omega))) rfl rfl rfl ?_
                refine SeqK.q (q_asC rfl rfl) rfl rfl rfl ?_
                refine SeqK.nil ?_
                exact ⟨i + 1, _, Wk.keep 145 [(1, .c (vsC z l)), (2, .lp 2 0), (4, .c (bC false)), (5, .c (.a (.ts (k61) .ne 1 (zs ++ [i64T 16])))), (6, iX .i64 (((i + 1) : Nat) : Int))] [(2, .box [.t (.sl .un 1 (c.nl.map i64T)), .t (.sl .un 1 (c.nn.map i64T)), .t (.sl .un 4 (c.ax.map axT)), .t (.sl .un 3 (c.is.map ctT)), .t (.sl .un 4 (c.ts.map tsT)), .t (.sl .un 2 (c.sm.map prT)), .t (.sl .un 2 (c.df.map prT))])] (upd H (k61) (some (.tip 2 1 (zs ++ [i64T 16]).length))) rfl ⟨rfl, rfl, rfl, rfl, rfl, trivial⟩ ⟨rfl, trivial⟩ (fun _ _ h => h) rfl, by omega, k61, zs ++ [i64T 16], ⟨hi, hk61, upS hi hU hax, by rw [hzs, bsF_take hi, List.map_append, hnb]; rfl⟩, rfl⟩
        ·
          refine AW.skip ?_
          refine AW.seq ?_
          refine AW.reg ?_
          refine SeqK.q (q_fieldL _ rfl Fx.fl63_0 rfl rfl) rfl rfl rfl ?_
          refine SeqK.r (b_load (r := .g [_, _]) rfl Fx.ty61 rfl rfl rfl rfl rfl rfl) rfl ?_
          refine SeqK.r (b_load (r := .g [_, _, _, _, _, _, _]) rfl Fx.ty28 rfl rfl rfl rfl rfl rfl) rfl ?_
          refine SeqK.q (q_mvC rfl rfl) rfl rfl rfl ?_
          refine SeqK.q (q_mvC rfl rfl) rfl rfl rfl ?_
          refine SeqK.xw 66 rfl (XW.ts.trans (XW.es hzs)) ?_
          refine SeqK.q (q_call _ rfl Fx.fn14 rfl (form_any _ _ _ _ .un _ hc.nn (by first | exact hc.axf _ (List.getElem_mem hi) | exact hc.isf _ (List.getElem_mem hi)) hl (by rw [bsF_len]; first | exact hc.ax | (rw [List.length_take]; have := hc.ax; omega))) rfl) rfl rfl rfl ?_
          refine SeqK.q (q_asC rfl rfl) rfl rfl rfl ?_
          refine SeqK.nil ?_
          refine AW.seq ?_
          refine AW.seq ?_
          refine AW.reg ?_
          refine SeqK.q (q_fieldL _ rfl Fx.fl63_1 rfl rfl) rfl rfl rfl ?_
          refine SeqK.r (b_load (r := .a _) rfl Fx.ty2 rfl rfl rfl rfl rfl rfl) rfl ?_
          refine SeqK.q (q_call _ rfl Fx.fn15 rfl (within_any _ _ _) rfl) rfl rfl rfl ?_
          refine SeqK.q (q_not rfl rfl) rfl rfl rfl ?_
          refine SeqK.qB (q_mvC rfl rfl) rfl rfl rfl (fun g72 => ?_) (fun g72 => ?_)
          ·
            refine SeqK.off rfl rfl rfl rfl rfl rfl ?_
            refine SeqK.off rfl rfl rfl rfl rfl rfl ?_
            refine SeqK.off rfl rfl rfl rfl rfl rfl ?_
            refine SeqK.q (q_pkT rfl rfl rfl) rfl rfl rfl ?_
            refine SeqK.q (q_mvC rfl rfl) rfl rfl rfl ?_
            refine SeqK.off rfl rfl rfl rfl rfl rfl ?_
            refine SeqK.off rfl rfl rfl rfl rfl rfl ?_
            refine SeqK.q (q_pkT rfl rfl rfl) rfl rfl rfl ?_
            refine SeqK.nil ?_
            refine AW.condT rfl ?_
            refine AW.seq ?_
            refine AW.reg ?_
            refine SeqK.q (q_asC rfl rfl) rfl rfl rfl ?_
            refine SeqK.nil ?_
            refine AW.ret ?_
            exact fin_x (x := .c _) (H) (.tmp rfl .nil) rfl (fun j o h => by show upd H _ _ j = _; rw [upd_ne _ _ (fun e => by subst e; simp_all)]; exact h) (⟨bCe (dF (fun hv => by have := hv.2.2.1 i hi; rcases this with ⟨k1, _⟩ | ⟨k1, k2, k3, k4⟩ <;> first | exact h39 k1 | exact nd_t g72 k3 | omega | exact formV_neg.1 h80 k2)), rfl⟩)
          ·
            refine SeqK.on (q_fieldL _ rfl Fx.fl63_2 rfl rfl) rfl rfl rfl rfl rfl ?_
            refine SeqK.rOn (b_load (r := .a _) rfl Fx.ty3 rfl rfl rfl rfl rfl rfl) rfl rfl rfl ?_
            refine SeqK.on (q_neq rfl rfl rfl) rfl rfl rfl rfl rfl ?_
            refine SeqK.q (q_pkF rfl rfl rfl) rfl rfl rfl ?_
            refine SeqK.qD (q_mvC rfl rfl) rfl rfl rfl (fun g77 => ?_) (fun g77 => ?_)
            ·
              refine SeqK.off rfl rfl rfl rfl rfl rfl ?_
              refine SeqK.off rfl rfl rfl rfl rfl rfl ?_
              refine SeqK.q (q_pkT rfl rfl rfl) rfl rfl rfl ?_
              refine SeqK.nil ?_
              refine AW.condT rfl ?_
              refine AW.seq ?_
              refine AW.reg ?_
              refine SeqK.q (q_asC rfl rfl) rfl rfl rfl ?_
              refine SeqK.nil ?_
              refine AW.ret ?_
              exact fin_x (x := .c _) (H) (.tmp rfl .nil) rfl (fun j o h => by show upd H _ _ j = _; rw [upd_ne _ _ (fun e => by subst e; simp_all)]; exact h) (⟨bCe (dF (fun hv => by have := hv.2.2.1 i hi; rcases this with ⟨k1, _⟩ | ⟨k1, k2, k3, k4⟩ <;> first | exact h39 k1 | exact nd_t g72 k3 | omega | exact formV_neg.1 h80 k2)), rfl⟩)
            ·
              refine SeqK.on (q_mvC rfl rfl) rfl rfl rfl rfl rfl ?_
              refine SeqK.on (q_lss rfl rfl rfl) rfl rfl rfl rfl rfl ?_
              refine SeqK.q (q_pkF rfl rfl rfl) rfl rfl rfl ?_
              refine SeqK.nil ?_
              refine AW.condD rfl (fun h80 => ?_) (fun h80 => ?_)
              ·
                refine AW.seq ?_
                refine AW.reg ?_
                refine SeqK.q (q_asC rfl rfl) rfl rfl rfl ?_
                refine SeqK.nil ?_
                refine AW.ret ?_
                exact fin_x (x := .c _) (H) (.tmp rfl .nil) rfl (fun j o h => by show upd H _ _ j = _; rw [upd_ne _ _ (fun e => by subst e; simp_all)]; exact h) (⟨bCe (dF (fun hv => by have := hv.2.2.1 i hi; rcases this with ⟨k1, _⟩ | ⟨k1, k2, k3, k4⟩ <;> first | exact h39 k1 | exact nd_t g72 k3 | omega | exact formV_neg.1 h80 k2)), rfl⟩)
              ·
                refine AW.skip ?_
                have hfp : formP c.ax[i].f c.nn l (bsF l.length (c.ax.take i)) := Classical.not_not.1 fun hn => by have := formV_neg.2 hn; omega
                have hax : axQ c l (bsF l.length (c.ax.take i)) c.ax[i] := .inr ⟨h39, hfp, nd_f g72, by omega⟩
                have hb1 := (nd_f g72).1
                have hnb : nb l.length (bsF l.length (c.ax.take i)) c.ax[i] = fsum l.length (bsF l.length (c.ax.take i)) c.ax[i].f / c.ax[i].b.toNat + 1 := if_neg h39
                have hdl : fsum l.length (bsF l.length (c.ax.take i)) c.ax[i].f / c.ax[i].b.toNat ≤ 1152921504606846977 := Nat.le_trans (Nat.div_le_self _ _) hfp.2.2
                refine AW.reg ?_
                refine SeqK.q (q_mvC rfl rfl) rfl rfl rfl ?_
                refine SeqK.q (q_mvC rfl rfl) rfl rfl rfl ?_
                refine SeqK.q (q_fieldL _ rfl Fx.fl63_1 rfl rfl) rfl rfl rfl ?_
                refine SeqK.r (b_load (r := .a _) rfl Fx.ty2 rfl rfl rfl rfl rfl rfl) rfl ?_
                refine SeqK.q (q_quo _ rfl rfl rfl (by omega) ((formV_pos hfp).symm ▸ quoB hfp.2.2 (by omega))) rfl rfl rfl ?_
                refine SeqK.q (q_add _ rfl rfl rfl (w64 (by omega) (by omega))) rfl rfl rfl ?_
                refine SeqK.q (q_buildSlice _ rfl Fx.el67 rfl (by decide) rfl) rfl rfl rfl ?_
                refine SeqK.app1 rfl (hkt) rfl Fx.el67 rfl rfl (by have h1 := hc.ax; have h2 : zs.length = i := (by rw [hzs, List.length_map, bsF_len, List.length_take]; omega); simp; omega) rfl rfl (fun k88 hk88 => ?_)
                refine SeqK.q (q_asC rfl rfl) rfl rfl rfl ?_
                refine SeqK.nil ?_
                refine AW.reg ?_
                refine SeqK.q (q_mvC rfl rfl) rfl rfl rfl ?_
                refine SeqK.q (q_add _ rfl rfl rfl (w64 (by omega) (by omega))) rfl rfl rfl ?_
                refine SeqK.q (q_asC rfl rfl) rfl rfl rfl ?_
                refine SeqK.nil ?_
                exact ⟨i + 1, _, Wk.keep 145 [(1, .c (vsC z l)), (2, .lp 2 0), (4, .c (bC false)), (5, .c (.a (.ts (k88) .ne 1 (zs ++ [i64T ((fsum l.length (bsF l.length (c.ax.take i)) c.ax[i].f / c.ax[i].b.toNat : Nat) + 1 : Int)])))), (6, iX .i64 (((i + 1) : Nat) : Int))] [(2, .box [.t (.sl .un 1 (c.nl.map i64T)), .t (.sl .un 1 (c.nn.map i64T)), .t (.sl .un 4 (c.ax.map axT)), .t (.sl .un 3 (c.is.map ctT)), .t (.sl .un 4 (c.ts.map tsT)), .t (.sl .un 2 (c.sm.map prT)), .t (.sl .un 2 (c.df.map prT))])] (upd H (k88) (some (.tip 2 1 (zs ++ [i64T ((fsum l.length (bsF l.length (c.ax.take i)) c.ax[i].f / c.ax[i].b.toNat : Nat) + 1 : Int)]).length))) rfl ⟨rfl, rfl, rfl, rfl, rfl, trivial⟩ ⟨rfl, trivial⟩ (fun _ _ h => h) rfl, by omega, k88, zs ++ [i64T ((fsum l.length (bsF l.length (c.ax.take i)) c.ax[i].f / c.ax[i].b.toNat : Nat) + 1 : Int)], ⟨hi, hk88, upS hi hU hax, by rw [hzs, bsF_take hi, List.map_append, hnb]; rfl⟩, rfl⟩
      ·
        refine AW.exit ?_
        refine eth_e ?_
        refine eth_e ?_
        refine exit_here ?_
        refine AW.seq ?_
        refine AW.seq ?_
        have hti : c.ax.take i = c.ax := List.take_of_length_le (by rw [List.length_map] at h29; omega)
        rw [hti] at hzs
        have hU' := upE hU (by rw [List.length_map] at h29; omega)
        refine AW.xw 5 rfl (XW.ts.trans (XW.es hzs)) ?_
        refine AW.wk (Wk.keep 145 [(1, .c (vsC z l)), (2, .lp 2 0), (4, .c (bC false)), (5, .c (bsC .un (bsF l.length c.ax)))] [(2, .box [.t (.sl .un 1 (c.nl.map i64T)), .t (.sl .un 1 (c.nn.map i64T)), .t (.sl .un 4 (c.ax.map axT)), .t (.sl .un 3 (c.is.map ctT)), .t (.sl .un 4 (c.ts.map tsT)), .t (.sl .un 2 (c.sm.map prT)), .t (.sl .un 2 (c.df.map prT))])] (H) rfl ⟨rfl, rfl, rfl, rfl, trivial⟩ ⟨rfl, trivial⟩ (fun j o h => by show upd H _ _ j = _; rw [upd_ne _ _ (fun e => by subst e; simp_all)]; exact h) rfl) ?_
        refine AW.reg ?_
        refine SeqK.q (q_asC rfl rfl) rfl rfl rfl ?_
        refine SeqK.nil ?_
        refine AW.block ?_
        refine AW.loop (fun (i : Nat) s => (i ≤ c.is.length ∧ (∀ j (h : j < c.is.length), j < i → formP c.is[j].f c.nn l (bsF l.length c.ax))) ∧ s = ⟨145, sp [(1, .c (vsC z l)), (2, .lp 2 0), (4, .c (bC false)), (5, .c (bsC .un (bsF l.length c.ax))), (9, iX .i64 ((i : Nat) : Int))], lv [(2, .box [.t (.sl .un 1 (c.nl.map i64T)), .t (.sl .un 1 (c.nn.map i64T)), .t (.sl .un 4 (c.ax.map axT)), .t (.sl .un 3 (c.is.map ctT)), .t (.sl .un 4 (c.ts.map tsT)), .t (.sl .un 2 (c.sm.map prT)), .t (.sl .un 2 (c.df.map prT))])], H⟩) (fun i => c.is.length - i) 0 ⟨_, Wk.keep 145 [(1, .c (vsC z l)), (2, .lp 2 0), (4, .c (bC false)), (5, .c (bsC .un (bsF l.length c.ax))), (9, iX .i64 ((((0 : Nat)) : Nat) : Int))] [(2, .box [.t (.sl .un 1 (c.nl.map i64T)), .t (.sl .un 1 (c.nn.map i64T)), .t (.sl .un 4 (c.ax.map axT)), .t (.sl .un 3 (c.is.map ctT)), .t (.sl .un 4 (c.ts.map tsT)), .t (.sl .un 2 (c.sm.map prT)), .t (.sl .un 2 (c.df.map prT))])] (H) rfl ⟨rfl, rfl, rfl, rfl, rfl, trivial⟩ ⟨rfl, trivial⟩ (fun _ _ h => h) rfl, ⟨Nat.zero_le _, up0⟩, rfl⟩ (fun i s hs => ?_)
        obtain ⟨⟨hi0, hV⟩, rfl⟩ := hs
        refine AW.seq ?_
        refine AW.seq ?_
        refine AW.reg ?_
        refine SeqK.q (q_mvC rfl rfl) rfl rfl rfl ?_
        refine SeqK.q (q_fieldL _ rfl Fx.fl28_3 rfl rfl) rfl rfl rfl ?_
        refine SeqK.r (b_load (r := .a _) rfl Fx.ty24 rfl rfl rfl rfl rfl rfl) rfl ?_
        refine SeqK.q (q_len rfl Fx.un24 rfl) rfl rfl rfl ?_
        refine SeqK.q (q_lss rfl rfl rfl) rfl rfl rfl ?_
        refine SeqK.nil ?_
        refine AW.condD rfl (fun h93 => ?_) (fun h93 => ?_)
        ·
          have hi : i < c.is.length := by rw [List.length_map] at h93; omega
          refine AW.skip ?_
          refine AW.seq ?_
          refine AW.block ?_
          refine AW.seq ?_
          refine AW.draw Fx.mo ?_
          refine LexK.q (q_fieldL _ rfl Fx.fl28_3 rfl rfl) rfl rfl rfl ?_
          refine LexK.r (b_load (r := .a _) rfl Fx.ty24 rfl rfl rfl rfl rfl rfl) rfl ?_
          refine LexK.q (q_mvC rfl rfl) rfl rfl rfl ?_
          refine LexK.q (q_index _ rfl Fx.sl24 rfl rfl (by omega) (idx_map (f := ctT) hi)) rfl rfl rfl ?_
          refine LexK.q (q_fieldP _ rfl Fx.fl65_0 rfl rfl) rfl rfl rfl ?_
          refine LexK.q (q_load (.g [_, _]) rfl Fx.ty61 rfl rfl rfl) rfl rfl rfl ?_
          refine LexK.r (b_load (r := .g [_, _, _, _, _, _, _]) rfl Fx.ty28 rfl rfl rfl rfl rfl rfl) rfl ?_
          refine LexK.q (q_mvC rfl rfl) rfl rfl rfl ?_
          refine LexK.q (q_mvC rfl rfl) rfl rfl rfl ?_
          refine LexK.q (q_call _ rfl Fx.fn14 rfl (form_any _ _ _ _ .un _ hc.nn (by first | exact hc.axf _ (List.getElem_mem hi) | exact hc.isf _ (List.getElem_mem hi)) hl (by rw [bsF_len]; first | exact hc.ax | (rw [List.length_take]; have := hc.ax; omega))) rfl) rfl rfl rfl ?_
          refine LexK.q (q_lss rfl rfl rfl) rfl rfl rfl ?_
          refine LexK.nil (by kernel_rfl) ?_
          refine AW.condD rfl (fun h106 => ?_) (fun h106 => ?_)
          ·
            refine AW.seq ?_
            refine AW.reg ?_
            refine SeqK.q (q_asC rfl rfl) rfl rfl rfl ?_
            refine SeqK.nil ?_
            refine AW.ret ?_
            exact fin_x (x := .c _) (H) (.tmp rfl .nil) rfl (fun _ _ h => h) (⟨bCe (dF (fun hv => formV_neg.1 h106 (hv.2.2.2.1 i hi))), rfl⟩)
          ·
            refine AW.skip ?_
            refine AW.reg ?_
            refine SeqK.q (q_mvC rfl rfl) rfl rfl rfl ?_
            refine SeqK.q (q_add _ rfl rfl rfl (w64 (by omega) (by omega))) rfl rfl rfl ?_
            refine SeqK.q (q_asC rfl rfl) rfl rfl rfl ?_
            refine SeqK.nil ?_
            exact ⟨i + 1, _, Wk.keep 145 [(1, .c (vsC z l)), (2, .lp 2 0), (4, .c (bC false)), (5, .c (bsC .un (bsF l.length c.ax))), (9, iX .i64 (((i + 1) : Nat) : Int))] [(2, .box [.t (.sl .un 1 (c.nl.map i64T)), .t (.sl .un 1 (c.nn.map i64T)), .t (.sl .un 4 (c.ax.map axT)), .t (.sl .un 3 (c.is.map ctT)), .t (.sl .un 4 (c.ts.map tsT)), .t (.sl .un 2 (c.sm.map prT)), .t (.sl .un 2 (c.df.map prT))])] (H) rfl ⟨rfl, rfl, rfl, rfl, rfl, trivial⟩ ⟨rfl, trivial⟩ (fun _ _ h => h) rfl, by omega, ⟨hi, upS hi hV (Classical.not_not.1 fun hn => by have := formV_neg.2 hn; omega)⟩, rfl⟩
        ·
          refine AW.exit ?_
          refine eth_e ?_
          refine eth_e ?_
          refine exit_here ?_
          refine AW.seq ?_
          refine AW.seq ?_
          have hV := upE hV (by rw [List.length_map] at h93; omega)
          refine AW.reg ?_
          refine SeqK.q (q_asC rfl rfl) rfl rfl rfl ?_
          refine SeqK.nil ?_
          refine AW.block ?_
          refine AW.loop (fun (i : Nat) s => (i ≤ c.ts.length ∧ (∀ j (h : j < c.ts.length), j < i → tstP c.ts[j] ∧ txtP c.ts[j].v c.nn l)) ∧ s = ⟨145, sp [(1, .c (vsC z l)), (2, .lp 2 0), (4, .c (bC false)), (10, iX .i64 ((i : Nat) : Int))], lv [(2, .box [.t (.sl .un 1 (c.nl.map i64T)), .t (.sl .un 1 (c.nn.map i64T)), .t (.sl .un 4 (c.ax.map axT)), .t (.sl .un 3 (c.is.map ctT)), .t (.sl .un 4 (c.ts.map tsT)), .t (.sl .un 2 (c.sm.map prT)), .t (.sl .un 2 (c.df.map prT))])], H⟩) (fun i => c.ts.length - i) 0 ⟨_, Wk.keep 145 [(1, .c (vsC z l)), (2, .lp 2 0), (4, .c (bC false)), (10, iX .i64 ((((0 : Nat)) : Nat) : Int))] [(2, .box [.t (.sl .un 1 (c.nl.map i64T)), .t (.sl .un 1 (c.nn.map i64T)), .t (.sl .un 4 (c.ax.map axT)), .t (.sl .un 3 (c.is.map ctT)), .t (.sl .un 4 (c.ts.map tsT)), .t (.sl .un 2 (c.sm.map prT)), .t (.sl .un 2 (c.df.map prT))])] (H) rfl ⟨rfl, rfl, rfl, rfl, trivial⟩ ⟨rfl, trivial⟩ (fun _ _ h => h) rfl, ⟨Nat.zero_le _, up0⟩, rfl⟩ (fun i s hs => ?_)
          obtain ⟨⟨hi0, hW⟩, rfl⟩ := hs
          refine AW.seq ?_
          refine AW.seq ?_
          refine AW.reg ?_
          refine SeqK.q (q_mvC rfl rfl) rfl rfl rfl ?_
          refine SeqK.q (q_fieldL _ rfl Fx.fl28_4 rfl rfl) rfl rfl rfl ?_
          refine SeqK.r (b_load (r := .a _) rfl Fx.ty25 rfl rfl rfl rfl rfl rfl) rfl ?_
          refine SeqK.q (q_len rfl Fx.un25 rfl) rfl rfl rfl ?_
          refine SeqK.q (q_lss rfl rfl rfl) rfl rfl rfl ?_
          refine SeqK.nil ?_
          refine AW.condD rfl (fun h111 => ?_) (fun h111 => ?_)
          ·
            have hi : i < c.ts.length := by rw [List.length_map] at h111; omega
            refine AW.skip ?_
            refine AW.seq ?_
            refine AW.block ?_
            refine AW.seq ?_
            refine AW.draw Fx.mo ?_
            refine LexK.q (q_fieldL _ rfl Fx.fl28_4 rfl rfl) rfl rfl rfl ?_
            refine LexK.r (b_load (r := .a _) rfl Fx.ty25 rfl rfl rfl rfl rfl rfl) rfl ?_
            refine LexK.q (q_mvC rfl rfl) rfl rfl rfl ?_
            refine LexK.q (q_index _ rfl Fx.sl25 rfl rfl (by omega) (idx_map (f := tsT) hi)) rfl rfl rfl ?_
            refine LexK.q (q_load (.g [_, _, _, _]) rfl Fx.ty44 rfl rfl rfl) rfl rfl rfl ?_
            refine LexK.q (q_call _ rfl Fx.fn16 rfl (tested_any _ (hc.tss _ (List.getElem_mem hi))) rfl) rfl rfl rfl ?_
            refine LexK.q (q_not rfl rfl) rfl rfl rfl ?_
            refine LexK.qB (q_mvC rfl rfl) rfl rfl rfl (fun g121 => ?_) (fun g121 => ?_)
            ·
              refine LexK.off rfl rfl rfl rfl rfl rfl ?_
              refine LexK.off rfl rfl rfl rfl rfl rfl ?_
              refine LexK.off rfl rfl rfl rfl rfl rfl ?_
              refine LexK.off rfl rfl rfl rfl rfl rfl ?_
              refine LexK.off rfl rfl rfl rfl rfl rfl ?_
              refine LexK.off rfl rfl rfl rfl rfl rfl ?_
              refine LexK.off rfl rfl rfl rfl rfl rfl ?_
              refine LexK.off rfl rfl rfl rfl rfl rfl ?_
              refine LexK.off rfl rfl rfl rfl rfl rfl ?_
              refine LexK.off rfl rfl rfl rfl rfl rfl ?_
              refine LexK.q (q_pkT rfl rfl rfl) rfl rfl rfl ?_
              refine LexK.nil (by kernel_rfl) ?_
              refine AW.condT rfl ?_
              refine AW.seq ?_
              refine AW.reg ?_
              refine SeqK.q (q_asC rfl rfl) rfl rfl rfl ?_
              refine SeqK.nil ?_
              refine AW.ret ?_
              exact fin_x (x := .c _) (H) (.tmp rfl .nil) rfl (fun _ _ h => h) (⟨bCe (dF (fun hv => by have := hv.2.2.2.2.1 i hi; first | exact nd_t g121 this.1 | exact nd_t h132 this.2 | simp_all)), rfl⟩)
            ·
              refine LexK.on (q_fieldL _ rfl Fx.fl28_4 rfl rfl) rfl rfl rfl rfl rfl ?_
              refine LexK.rOn (b_load (r := .a _) rfl Fx.ty25 rfl rfl rfl rfl rfl rfl) rfl rfl rfl ?_
              refine LexK.on (q_mvC rfl rfl) rfl rfl rfl rfl rfl ?_
              refine LexK.on (q_index _ rfl Fx.sl25 rfl rfl (by omega) (idx_map (f := tsT) hi)) rfl rfl rfl rfl rfl ?_
              refine LexK.on (q_fieldP _ rfl Fx.fl44_0 rfl rfl) rfl rfl rfl rfl rfl ?_
              refine LexK.on (q_load (.a _) rfl Fx.ty3 rfl rfl rfl) rfl rfl rfl rfl rfl ?_
              refine LexK.rOn (b_load (r := .g [_, _, _, _, _, _, _]) rfl Fx.ty28 rfl rfl rfl rfl rfl rfl) rfl rfl rfl ?_
              refine LexK.on (q_mvC rfl rfl) rfl rfl rfl rfl rfl ?_
              refine LexK.on (q_call _ rfl Fx.fn13 rfl (text_any _ _ _ _ hc.nn) rfl) rfl rfl rfl rfl rfl ?_
              refine LexK.on (q_not rfl rfl) rfl rfl rfl rfl rfl ?_
              refine LexK.q (q_pkF rfl rfl rfl) rfl rfl rfl ?_
              refine LexK.nil (by kernel_rfl) ?_
              refine AW.cond _ rfl (fun h132 => ?_) (fun h132 => ?_)
              ·
                refine AW.seq ?_
                refine AW.reg ?_
                refine SeqK.q (q_asC rfl rfl) rfl rfl rfl ?_
                refine SeqK.nil ?_
                refine AW.ret ?_
                exact fin_x (x := .c _) (H) (.tmp rfl .nil) rfl (fun _ _ h => h) (⟨bCe (dF (fun hv => by have := hv.2.2.2.2.1 i hi; first | exact nd_t g121 this.1 | exact nd_t h132 this.2 | simp_all)), rfl⟩)
              ·
                refine AW.skip ?_
                refine AW.reg ?_
                refine SeqK.q (q_mvC rfl rfl) rfl rfl rfl ?_
                refine SeqK.q (q_add _ rfl rfl rfl (w64 (by omega) (by omega))) rfl rfl rfl ?_
                refine SeqK.q (q_asC rfl rfl) rfl rfl rfl ?_
                refine SeqK.nil ?_
                exact ⟨i + 1, _, Wk.keep 145 [(1, .c (vsC z l)), (2, .lp 2 0), (4, .c (bC false)), (10, iX .i64 (((i + 1) : Nat) : Int))] [(2, .box [.t (.sl .un 1 (c.nl.map i64T)), .t (.sl .un 1 (c.nn.map i64T)), .t (.sl .un 4 (c.ax.map axT)), .t (.sl .un 3 (c.is.map ctT)), .t (.sl .un 4 (c.ts.map tsT)), .t (.sl .un 2 (c.sm.map prT)), .t (.sl .un 2 (c.df.map prT))])] (H) rfl ⟨rfl, rfl, rfl, rfl, trivial⟩ ⟨rfl, trivial⟩ (fun _ _ h => h) rfl, by omega, ⟨hi, upS hi hW ⟨by simpa using g121, by simpa using h132⟩⟩, rfl⟩
          ·
            refine AW.exit ?_
            refine eth_e ?_
            refine eth_e ?_
            refine exit_here ?_
            refine AW.seq ?_
            have hW := upE hW (by rw [List.length_map] at h111; omega)
            refine AW.reg ?_
            refine SeqK.q (q_fieldL _ rfl Fx.fl28_5 rfl rfl) rfl rfl rfl ?_
            refine SeqK.r (b_load (r := .a _) rfl Fx.ty26 rfl rfl rfl rfl rfl rfl) rfl ?_
            refine SeqK.r (b_load (r := .g [_, _, _, _, _, _, _]) rfl Fx.ty28 rfl rfl rfl rfl rfl rfl) rfl ?_
            refine SeqK.q (q_mvC rfl rfl) rfl rfl rfl ?_
            refine SeqK.q (q_call _ rfl Fx.fn17 rfl (pairs_any _ _ _ _ _ hc.nn (by first | exact hc.sm | exact hc.df)) rfl) rfl rfl rfl ?_
            refine SeqK.qB (q_mvC rfl rfl) rfl rfl rfl (fun g138 => ?_) (fun g138 => ?_)
            ·
              refine SeqK.on (q_fieldL _ rfl Fx.fl28_6 rfl rfl) rfl rfl rfl rfl rfl ?_
              refine SeqK.rOn (b_load (r := .a _) rfl Fx.ty26 rfl rfl rfl rfl rfl rfl) rfl rfl rfl ?_
              refine SeqK.rOn (b_load (r := .g [_, _, _, _, _, _, _]) rfl Fx.ty28 rfl rfl rfl rfl rfl rfl) rfl rfl rfl ?_
              refine SeqK.on (q_mvC rfl rfl) rfl rfl rfl rfl rfl ?_
              refine SeqK.on (q_call _ rfl Fx.fn17 rfl (pairs_any _ _ _ _ _ hc.nn (by first | exact hc.sm | exact hc.df)) rfl) rfl rfl rfl rfl rfl ?_
              refine SeqK.q (q_pkT rfl rfl rfl) rfl rfl rfl ?_
              refine SeqK.q (q_asC rfl rfl) rfl rfl rfl ?_
              refine SeqK.nil ?_
              refine AW.ret ?_
              exact fin_x (x := .c _) (H) (.tmp rfl .nil) rfl (fun _ _ h => h) (⟨bCe (by first | exact dF (fun hv => by have := hv.2.2.2.2.2.1; simp_all) | exact dI ⟨fun hd => ⟨hA, hB, hU', hV, hW, by simpa using g138, hd⟩, fun hv => hv.2.2.2.2.2.2⟩), rfl⟩)
            ·
              refine SeqK.off rfl rfl rfl rfl rfl rfl ?_
              refine SeqK.off rfl rfl rfl rfl rfl rfl ?_
              refine SeqK.off rfl rfl rfl rfl rfl rfl ?_
              refine SeqK.off rfl rfl rfl rfl rfl rfl ?_
              refine SeqK.off rfl rfl rfl rfl rfl rfl ?_
              refine SeqK.q (q_pkF rfl rfl rfl) rfl rfl rfl ?_
              refine SeqK.q (q_asC rfl rfl) rfl rfl rfl ?_
              refine SeqK.nil ?_
              refine AW.ret ?_
              exact fin_x (x := .c _) (H) (.tmp rfl .nil) rfl (fun _ _ h => h) (⟨bCe (by first | exact dF (fun hv => by have := hv.2.2.2.2.2.1; simp_all) | exact dI ⟨fun hd => ⟨hA, hB, hU', hV, hW, by simpa using g138, hd⟩, fun hv => hv.2.2.2.2.2.2⟩), rfl⟩)

end Go.Proofs.YtnmfjojhgfipcaaGreatDoor.W
namespace Go.Proofs.YtnmfjojhgfipcaaGreatDoor.W
open Go.RowKit E
set_option linter.unusedVariables false
set_option linter.unusedSimpArgs false
set_option linter.unusedSectionVars false
/-! few; rows of the domains -/
def sumL {α : Type} (f : α → Nat) : List α → Nat
  | [] => 0
  | a :: r => f a + sumL f r
theorem sumL_app {α : Type} {f : α → Nat} (a b : List α) : sumL f (a ++ b) = sumL f a + sumL f b := by
  induction a with
  | nil => simp [sumL]
  | cons x r ih => simp only [List.cons_append, sumL, ih]; omega
theorem sumL_take {α : Type} {f : α → Nat} {l : List α} {i : Nat} (h : i < l.length) : sumL f (l.take (i + 1)) = sumL f (l.take i) + f l[i] := by
  rw [List.take_succ_eq_append_getElem h, sumL_app]; simp [sumL]
theorem sumL_le {α : Type} {f : α → Nat} {M : Nat} {l : List α} (h : ∀ a ∈ l, f a ≤ M) (i : Nat) (hi : i ≤ l.length) : sumL f (l.take i) ≤ i * M := by
  induction i with
  | zero => simp [sumL]
  | succ i ih =>
    rw [sumL_take (by omega), Nat.add_mul]
    have := ih (by omega)
    have := h _ (List.getElem_mem (show i < l.length by omega))
    omega
theorem sumL_mem {α : Type} {f : α → Nat} {a : α} : ∀ {l : List α}, a ∈ l → f a ≤ sumL f l
  | b :: r, h => by
    rcases List.mem_cons.1 h with rfl | h
    · simp only [sumL]; omega
    · have := sumL_mem (f := f) h; simp only [sumL]; omega
def lenN (c : Cl) : Nat := c.nl.length + c.nn.length + c.ax.length + c.is.length + c.ts.length + c.sm.length + c.df.length
def axN (l : List Ax) : Nat := sumL (fun a : Ax => a.f.cs.length) l
def isN (l : List Ct) : Nat := sumL (fun a : Ct => a.f.cs.length) l
theorem axN_take {l : List Ax} {i : Nat} (h : i < l.length) : axN (l.take (i + 1)) = axN (l.take i) + l[i].f.cs.length := sumL_take h
theorem isN_take {l : List Ct} {i : Nat} (h : i < l.length) : isN (l.take (i + 1)) = isN (l.take i) + l[i].f.cs.length := sumL_take h
abbrev fewP (c : Cl) : Prop := lenN c ≤ 80 ∧ (∀ j (h : j < c.ts.length), c.ts[j].s.size ≤ 40) ∧ lenN c + axN c.ax + isN c.is ≤ 400

set_option maxHeartbeats 4000000 in
set_option maxRecDepth 20000 in
theorem few_any (c : Cl) (hc : rgC c) : Pure Tryz.prog 6 [clC c] (.c (bC (decide (fewP c)))) := by
  intro H
  refine Spec.enter Tryz.func6 rfl ?_
  refine AW.wk (Wk.keep 87 [(0, .c (clC c))] [] (H) rfl ⟨rfl, trivial⟩ trivial (fun _ _ h => h) rfl) ?_
  refine AW.seq ?_
  refine AW.reg ?_
  refine SeqK.r (b_box (r := [_, _, _, _, _, _, _]) rfl rfl rfl rfl rfl rfl) rfl ?_
  refine SeqK.q (q_asC rfl rfl) rfl rfl rfl ?_
  refine SeqK.nil ?_
  refine AW.seq ?_
  have m1 := mlen i64T c.nl
  have m2 := mlen i64T c.nn
  have m3 := mlen axT c.ax
  have m4 := mlen ctT c.is
  have m5 := mlen tsT c.ts
  have m6 := mlen prT c.sm
  have m7 := mlen prT c.df
  have q1 := hc.nl
  have q2 := hc.nn
  have q3 := hc.ax
  have q4 := hc.is
  have q5 := hc.ts
  have q6 := hc.sm
  have q7 := hc.df
  have hN : lenN c = c.nl.length + c.nn.length + c.ax.length + c.is.length + c.ts.length + c.sm.length + c.df.length := rfl
  refine AW.reg ?_
  refine SeqK.q (q_fieldL _ rfl Fx.fl28_0 rfl rfl) rfl rfl rfl ?_
  refine SeqK.r (b_load (r := .a _) rfl Fx.ty22 rfl rfl rfl rfl rfl rfl) rfl ?_
  refine SeqK.q (q_len rfl Fx.un22 rfl) rfl rfl rfl ?_
  refine SeqK.q (q_fieldL _ rfl Fx.fl28_1 rfl rfl) rfl rfl rfl ?_
  refine SeqK.r (b_load (r := .a _) rfl Fx.ty22 rfl rfl rfl rfl rfl rfl) rfl ?_
  refine SeqK.q (q_len rfl Fx.un22 rfl) rfl rfl rfl ?_
  refine SeqK.q (q_add _ rfl rfl rfl (w64 (by omega) (by omega))) rfl rfl rfl ?_
  refine SeqK.q (q_fieldL _ rfl Fx.fl28_2 rfl rfl) rfl rfl rfl ?_
  refine SeqK.r (b_load (r := .a _) rfl Fx.ty23 rfl rfl rfl rfl rfl rfl) rfl ?_
  refine SeqK.q (q_len rfl Fx.un23 rfl) rfl rfl rfl ?_
  refine SeqK.q (q_add _ rfl rfl rfl (w64 (by omega) (by omega))) rfl rfl rfl ?_
  refine SeqK.q (q_fieldL _ rfl Fx.fl28_3 rfl rfl) rfl rfl rfl ?_
  refine SeqK.r (b_load (r := .a _) rfl Fx.ty24 rfl rfl rfl rfl rfl rfl) rfl ?_
  refine SeqK.q (q_len rfl Fx.un24 rfl) rfl rfl rfl ?_
  refine SeqK.q (q_add _ rfl rfl rfl (w64 (by omega) (by omega))) rfl rfl rfl ?_
  refine SeqK.q (q_fieldL _ rfl Fx.fl28_4 rfl rfl) rfl rfl rfl ?_
  refine SeqK.r (b_load (r := .a _) rfl Fx.ty25 rfl rfl rfl rfl rfl rfl) rfl ?_
  refine SeqK.q (q_len rfl Fx.un25 rfl) rfl rfl rfl ?_
  refine SeqK.q (q_add _ rfl rfl rfl (w64 (by omega) (by omega))) rfl rfl rfl ?_
  refine SeqK.q (q_fieldL _ rfl Fx.fl28_5 rfl rfl) rfl rfl rfl ?_
  refine SeqK.r (b_load (r := .a _) rfl Fx.ty26 rfl rfl rfl rfl rfl rfl) rfl ?_
  refine SeqK.q (q_len rfl Fx.un26 rfl) rfl rfl rfl ?_
  refine SeqK.q (q_add _ rfl rfl rfl (w64 (by omega) (by omega))) rfl rfl rfl ?_
  refine SeqK.q (q_fieldL _ rfl Fx.fl28_6 rfl rfl) rfl rfl rfl ?_
  refine SeqK.r (b_load (r := .a _) rfl Fx.ty26 rfl rfl rfl rfl rfl rfl) rfl ?_
  refine SeqK.q (q_len rfl Fx.un26 rfl) rfl rfl rfl ?_
  refine SeqK.q (q_add _ rfl rfl rfl (w64 (by omega) (by omega))) rfl rfl rfl ?_
  refine SeqK.q (q_asC rfl rfl) rfl rfl rfl ?_
  refine SeqK.nil ?_
  refine AW.seq ?_
  refine AW.seq ?_
  refine AW.wk (Wk.keep 87 [(1, .lp 1 0), (2, .c (bC false)), (3, iX .i64 ((lenN c : Nat) : Int))] [(1, .box [.t (.sl .un 1 (c.nl.map i64T)), .t (.sl .un 1 (c.nn.map i64T)), .t (.sl .un 4 (c.ax.map axT)), .t (.sl .un 3 (c.is.map ctT)), .t (.sl .un 4 (c.ts.map tsT)), .t (.sl .un 2 (c.sm.map prT)), .t (.sl .un 2 (c.df.map prT))])] (H) rfl ⟨rfl, rfl, by show iX .i64 _ = iX .i64 _; congr 1; omega, trivial⟩ ⟨rfl, trivial⟩ (fun _ _ h => h) rfl) ?_
  refine AW.reg ?_
  refine SeqK.q (q_mvC rfl rfl) rfl rfl rfl ?_
  refine SeqK.q (q_gtr rfl rfl rfl) rfl rfl rfl ?_
  refine SeqK.nil ?_
  refine AW.condD rfl (fun h35 => ?_) (fun h35 => ?_)
  ·
    refine AW.seq ?_
    refine AW.reg ?_
    refine SeqK.q (q_asC rfl rfl) rfl rfl rfl ?_
    refine SeqK.nil ?_
    refine AW.ret ?_
    exact fin_x (x := .c _) (H) (.tmp rfl .nil) rfl (fun _ _ h => h) (⟨bCe (dF (fun h => by have := h.1; omega)), rfl⟩)
  ·
    refine AW.skip ?_
    refine AW.seq ?_
    refine AW.seq ?_
    refine AW.reg ?_
    refine SeqK.q (q_asC rfl rfl) rfl rfl rfl ?_
    refine SeqK.nil ?_
    refine AW.block ?_
    refine AW.loop (fun (i : Nat) s => (i ≤ c.ax.length) ∧ s = ⟨87, sp [(1, .lp 1 0), (2, .c (bC false)), (3, iX .i64 ((lenN c + axN (c.ax.take i) : Nat) : Int)), (4, iX .i64 ((i : Nat) : Int))], lv [(1, .box [.t (.sl .un 1 (c.nl.map i64T)), .t (.sl .un 1 (c.nn.map i64T)), .t (.sl .un 4 (c.ax.map axT)), .t (.sl .un 3 (c.is.map ctT)), .t (.sl .un 4 (c.ts.map tsT)), .t (.sl .un 2 (c.sm.map prT)), .t (.sl .un 2 (c.df.map prT))])], H⟩) (fun i => c.ax.length - i) 0 ⟨_, Wk.keep 87 [(1, .lp 1 0), (2, .c (bC false)), (3, iX .i64 ((lenN c + axN (c.ax.take ((0 : Nat))) : Nat) : Int)), (4, iX .i64 ((((0 : Nat)) : Nat) : Int))] [(1, .box [.t (.sl .un 1 (c.nl.map i64T)), .t (.sl .un 1 (c.nn.map i64T)), .t (.sl .un 4 (c.ax.map axT)), .t (.sl .un 3 (c.is.map ctT)), .t (.sl .un 4 (c.ts.map tsT)), .t (.sl .un 2 (c.sm.map prT)), .t (.sl .un 2 (c.df.map prT))])] (H) rfl ⟨rfl, rfl, rfl, rfl, trivial⟩ ⟨rfl, trivial⟩ (fun _ _ h => h) rfl, Nat.zero_le _, rfl⟩ (fun i s hs => ?_)
    obtain ⟨hi0, rfl⟩ := hs
    refine AW.seq ?_
    refine AW.seq ?_
    refine AW.reg ?_
    refine SeqK.q (q_mvC rfl rfl) rfl rfl rfl ?_
    refine SeqK.q (q_fieldL _ rfl Fx.fl28_2 rfl rfl) rfl rfl rfl ?_
    refine SeqK.r (b_load (r := .a _) rfl Fx.ty23 rfl rfl rfl rfl rfl rfl) rfl ?_
    refine SeqK.q (q_len rfl Fx.un23 rfl) rfl rfl rfl ?_
    refine SeqK.q (q_lss rfl rfl rfl) rfl rfl rfl ?_
    refine SeqK.nil ?_
    refine AW.condD rfl (fun h40 => ?_) (fun h40 => ?_)
    ·
      have hi : i < c.ax.length := by omega
      have hk := axN_take hi
      have h0 := hc.axf _ (List.getElem_mem hi)
      have h1 := sumL_le (f := fun a : Ax => a.f.cs.length) hc.axf i (by omega)
      have h1 : axN (c.ax.take i) ≤ i * 17592186044000 := h1
      have m8 := mlen cfT c.ax[i].f.cs
      refine AW.skip ?_
      refine AW.seq ?_
      refine AW.block ?_
      refine AW.reg ?_
      refine SeqK.q (q_mvC rfl rfl) rfl rfl rfl ?_
      refine SeqK.q (q_fieldL _ rfl Fx.fl28_2 rfl rfl) rfl rfl rfl ?_
      refine SeqK.r (b_load (r := .a _) rfl Fx.ty23 rfl rfl rfl rfl rfl rfl) rfl ?_
      refine SeqK.q (q_mvC rfl rfl) rfl rfl rfl ?_
      refine SeqK.q (q_index _ rfl Fx.sl23 rfl rfl (by omega) (idx_map (f := axT) hi)) rfl rfl rfl ?_
      refine SeqK.q (q_fieldP _ rfl Fx.fl63_0 rfl rfl) rfl rfl rfl ?_
      refine SeqK.q (q_fieldP _ rfl Fx.fl61_1 rfl rfl) rfl rfl rfl ?_
      refine SeqK.q (q_load (.a _) rfl Fx.ty59 rfl rfl rfl) rfl rfl rfl ?_
      refine SeqK.q (q_len rfl Fx.un59 rfl) rfl rfl rfl ?_
      refine SeqK.q (q_add _ rfl rfl rfl ((by rw [w64 (by omega) (by omega)]; omega : IntKind.i64.wrap _ = ((lenN c + axN (c.ax.take (i + 1)) : Nat) : Int)))) rfl rfl rfl ?_
      refine SeqK.q (q_asC rfl rfl) rfl rfl rfl ?_
      refine SeqK.nil ?_
      refine AW.reg ?_
      refine SeqK.q (q_mvC rfl rfl) rfl rfl rfl ?_
      refine SeqK.q (q_add _ rfl rfl rfl (w64 (by omega) (by omega))) rfl rfl rfl ?_
      refine SeqK.q (q_asC rfl rfl) rfl rfl rfl ?_
      refine SeqK.nil ?_
      exact ⟨i + 1, _, Wk.keep 87 [(1, .lp 1 0), (2, .c (bC false)), (3, iX .i64 ((lenN c + axN (c.ax.take (i + 1)) : Nat) : Int)), (4, iX .i64 (((i + 1) : Nat) : Int))] [(1, .box [.t (.sl .un 1 (c.nl.map i64T)), .t (.sl .un 1 (c.nn.map i64T)), .t (.sl .un 4 (c.ax.map axT)), .t (.sl .un 3 (c.is.map ctT)), .t (.sl .un 4 (c.ts.map tsT)), .t (.sl .un 2 (c.sm.map prT)), .t (.sl .un 2 (c.df.map prT))])] (H) rfl ⟨rfl, rfl, rfl, rfl, trivial⟩ ⟨rfl, trivial⟩ (fun _ _ h => h) rfl, by omega, hi, rfl⟩
    ·
      refine AW.exit ?_
      refine eth_e ?_
      refine eth_e ?_
      refine exit_here ?_
      refine AW.seq ?_
      refine AW.seq ?_
      have e1 : c.ax.take i = c.ax := List.take_of_length_le (by omega)
      rw [e1]
      have h2 : axN c.ax ≤ 80 * 17592186044000 := by
        have h1 := sumL_le (f := fun a : Ax => a.f.cs.length) hc.axf i (by omega)
        rw [e1] at h1
        have h3 : i * 17592186044000 ≤ 80 * 17592186044000 := Nat.mul_le_mul_right _ (by omega)
        exact Nat.le_trans h1 h3
      refine AW.reg ?_
      refine SeqK.q (q_asC rfl rfl) rfl rfl rfl ?_
      refine SeqK.nil ?_
      refine AW.block ?_
      refine AW.loop (fun (i : Nat) s => (i ≤ c.is.length) ∧ s = ⟨87, sp [(1, .lp 1 0), (2, .c (bC false)), (3, iX .i64 ((lenN c + axN c.ax + isN (c.is.take i) : Nat) : Int)), (5, iX .i64 ((i : Nat) : Int))], lv [(1, .box [.t (.sl .un 1 (c.nl.map i64T)), .t (.sl .un 1 (c.nn.map i64T)), .t (.sl .un 4 (c.ax.map axT)), .t (.sl .un 3 (c.is.map ctT)), .t (.sl .un 4 (c.ts.map tsT)), .t (.sl .un 2 (c.sm.map prT)), .t (.sl .un 2 (c.df.map prT))])], H⟩) (fun i => c.is.length - i) 0 ⟨_, Wk.keep 87 [(1, .lp 1 0), (2, .c (bC false)), (3, iX .i64 ((lenN c + axN c.ax + isN (c.is.take ((0 : Nat))) : Nat) : Int)), (5, iX .i64 ((((0 : Nat)) : Nat) : Int))] [(1, .box [.t (.sl .un 1 (c.nl.map i64T)), .t (.sl .un 1 (c.nn.map i64T)), .t (.sl .un 4 (c.ax.map axT)), .t (.sl .un 3 (c.is.map ctT)), .t (.sl .un 4 (c.ts.map tsT)), .t (.sl .un 2 (c.sm.map prT)), .t (.sl .un 2 (c.df.map prT))])] (H) rfl ⟨rfl, rfl, rfl, rfl, trivial⟩ ⟨rfl, trivial⟩ (fun _ _ h => h) rfl, Nat.zero_le _, rfl⟩ (fun i s hs => ?_)
      obtain ⟨hi0, rfl⟩ := hs
      refine AW.seq ?_
      refine AW.seq ?_
      refine AW.reg ?_
      refine SeqK.q (q_mvC rfl rfl) rfl rfl rfl ?_
      refine SeqK.q (q_fieldL _ rfl Fx.fl28_3 rfl rfl) rfl rfl rfl ?_
      refine SeqK.r (b_load (r := .a _) rfl Fx.ty24 rfl rfl rfl rfl rfl rfl) rfl ?_
      refine SeqK.q (q_len rfl Fx.un24 rfl) rfl rfl rfl ?_
      refine SeqK.q (q_lss rfl rfl rfl) rfl rfl rfl ?_
      refine SeqK.nil ?_
      refine AW.condD rfl (fun h57 => ?_) (fun h57 => ?_)
      ·
        have hi : i < c.is.length := by omega
        have hk := isN_take hi
        have h0 := hc.isf _ (List.getElem_mem hi)
        have h1 := sumL_le (f := fun a : Ct => a.f.cs.length) hc.isf i (by omega)
        have h1 : isN (c.is.take i) ≤ i * 17592186044000 := h1
        have m8 := mlen cfT c.is[i].f.cs
        refine AW.skip ?_
        refine AW.seq ?_
        refine AW.block ?_
        refine AW.reg ?_
        refine SeqK.q (q_mvC rfl rfl) rfl rfl rfl ?_
        refine SeqK.q (q_fieldL _ rfl Fx.fl28_3 rfl rfl) rfl rfl rfl ?_
        refine SeqK.r (b_load (r := .a _) rfl Fx.ty24 rfl rfl rfl rfl rfl rfl) rfl ?_
        refine SeqK.q (q_mvC rfl rfl) rfl rfl rfl ?_
        refine SeqK.q (q_index _ rfl Fx.sl24 rfl rfl (by omega) (idx_map (f := ctT) hi)) rfl rfl rfl ?_
        refine SeqK.q (q_fieldP _ rfl Fx.fl65_0 rfl rfl) rfl rfl rfl ?_
        refine SeqK.q (q_fieldP _ rfl Fx.fl61_1 rfl rfl) rfl rfl rfl ?_
        refine SeqK.q (q_load (.a _) rfl Fx.ty59 rfl rfl rfl) rfl rfl rfl ?_
        refine SeqK.q (q_len rfl Fx.un59 rfl) rfl rfl rfl ?_
        refine SeqK.q (q_add _ rfl rfl rfl ((by rw [w64 (by omega) (by omega)]; omega : IntKind.i64.wrap _ = ((lenN c + axN c.ax + isN (c.is.take (i + 1)) : Nat) : Int)))) rfl rfl rfl ?_
        refine SeqK.q (q_asC rfl rfl) rfl rfl rfl ?_
        refine SeqK.nil ?_
        refine AW.reg ?_
        refine SeqK.q (q_mvC rfl rfl) rfl rfl rfl ?_
        refine SeqK.q (q_add _ rfl rfl rfl (w64 (by omega) (by omega))) rfl rfl rfl ?_
        refine SeqK.q (q_asC rfl rfl) rfl rfl rfl ?_
        refine SeqK.nil ?_
        exact ⟨i + 1, _, Wk.keep 87 [(1, .lp 1 0), (2, .c (bC false)), (3, iX .i64 ((lenN c + axN c.ax + isN (c.is.take (i + 1)) : Nat) : Int)), (5, iX .i64 (((i + 1) : Nat) : Int))] [(1, .box [.t (.sl .un 1 (c.nl.map i64T)), .t (.sl .un 1 (c.nn.map i64T)), .t (.sl .un 4 (c.ax.map axT)), .t (.sl .un 3 (c.is.map ctT)), .t (.sl .un 4 (c.ts.map tsT)), .t (.sl .un 2 (c.sm.map prT)), .t (.sl .un 2 (c.df.map prT))])] (H) rfl ⟨rfl, rfl, rfl, rfl, trivial⟩ ⟨rfl, trivial⟩ (fun _ _ h => h) rfl, by omega, hi, rfl⟩
      ·
        refine AW.exit ?_
        refine eth_e ?_
        refine eth_e ?_
        refine exit_here ?_
        refine AW.seq ?_
        refine AW.seq ?_
        have e1 : c.is.take i = c.is := List.take_of_length_le (by omega)
        rw [e1]
        refine AW.reg ?_
        refine SeqK.q (q_asC rfl rfl) rfl rfl rfl ?_
        refine SeqK.nil ?_
        refine AW.block ?_
        refine AW.loop (fun (i : Nat) s => (i ≤ c.ts.length ∧ ∀ j (h : j < c.ts.length), j < i → c.ts[j].s.size ≤ 40) ∧ s = ⟨87, sp [(1, .lp 1 0), (2, .c (bC false)), (3, iX .i64 ((lenN c + axN c.ax + isN c.is : Nat) : Int)), (6, iX .i64 ((i : Nat) : Int))], lv [(1, .box [.t (.sl .un 1 (c.nl.map i64T)), .t (.sl .un 1 (c.nn.map i64T)), .t (.sl .un 4 (c.ax.map axT)), .t (.sl .un 3 (c.is.map ctT)), .t (.sl .un 4 (c.ts.map tsT)), .t (.sl .un 2 (c.sm.map prT)), .t (.sl .un 2 (c.df.map prT))])], H⟩) (fun i => c.ts.length - i) 0 ⟨_, Wk.keep 87 [(1, .lp 1 0), (2, .c (bC false)), (3, iX .i64 ((lenN c + axN c.ax + isN c.is : Nat) : Int)), (6, iX .i64 ((((0 : Nat)) : Nat) : Int))] [(1, .box [.t (.sl .un 1 (c.nl.map i64T)), .t (.sl .un 1 (c.nn.map i64T)), .t (.sl .un 4 (c.ax.map axT)), .t (.sl .un 3 (c.is.map ctT)), .t (.sl .un 4 (c.ts.map tsT)), .t (.sl .un 2 (c.sm.map prT)), .t (.sl .un 2 (c.df.map prT))])] (H) rfl ⟨rfl, rfl, rfl, rfl, trivial⟩ ⟨rfl, trivial⟩ (fun _ _ h => h) rfl, ⟨Nat.zero_le _, up0⟩, rfl⟩ (fun i s hs => ?_)
        obtain ⟨⟨hi0, hU⟩, rfl⟩ := hs
        refine AW.seq ?_
        refine AW.seq ?_
        refine AW.reg ?_
        refine SeqK.q (q_mvC rfl rfl) rfl rfl rfl ?_
        refine SeqK.q (q_fieldL _ rfl Fx.fl28_4 rfl rfl) rfl rfl rfl ?_
        refine SeqK.r (b_load (r := .a _) rfl Fx.ty25 rfl rfl rfl rfl rfl rfl) rfl ?_
        refine SeqK.q (q_len rfl Fx.un25 rfl) rfl rfl rfl ?_
        refine SeqK.q (q_lss rfl rfl rfl) rfl rfl rfl ?_
        refine SeqK.nil ?_
        refine AW.condD rfl (fun h74 => ?_) (fun h74 => ?_)
        ·
          have hi : i < c.ts.length := by omega
          refine AW.skip ?_
          refine AW.seq ?_
          refine AW.block ?_
          refine AW.seq ?_
          refine AW.reg ?_
          refine SeqK.q (q_fieldL _ rfl Fx.fl28_4 rfl rfl) rfl rfl rfl ?_
          refine SeqK.r (b_load (r := .a _) rfl Fx.ty25 rfl rfl rfl rfl rfl rfl) rfl ?_
          refine SeqK.q (q_mvC rfl rfl) rfl rfl rfl ?_
          refine SeqK.q (q_index _ rfl Fx.sl25 rfl rfl (by omega) (idx_map (f := tsT) hi)) rfl rfl rfl ?_
          refine SeqK.q (q_fieldP _ rfl Fx.fl44_3 rfl rfl) rfl rfl rfl ?_
          refine SeqK.q (q_load (.a _) rfl Fx.ty9 rfl rfl rfl) rfl rfl rfl ?_
          refine SeqK.q (q_lenS rfl Fx.un9 rfl) rfl rfl rfl ?_
          refine SeqK.q (q_gtr rfl rfl rfl) rfl rfl rfl ?_
          refine SeqK.nil ?_
          refine AW.condD rfl (fun h84 => ?_) (fun h84 => ?_)
          ·
            refine AW.seq ?_
            refine AW.reg ?_
            refine SeqK.q (q_asC rfl rfl) rfl rfl rfl ?_
            refine SeqK.nil ?_
            refine AW.ret ?_
            exact fin_x (x := .c _) (H) (.tmp rfl .nil) rfl (fun _ _ h => h) (⟨bCe (dF (fun h => upN (Q := fun j h => c.ts[j].s.size ≤ 40) hi (by omega) h.2.1)), rfl⟩)
          ·
            refine AW.skip ?_
            refine AW.reg ?_
            refine SeqK.q (q_mvC rfl rfl) rfl rfl rfl ?_
            refine SeqK.q (q_add _ rfl rfl rfl (w64 (by omega) (by omega))) rfl rfl rfl ?_
            refine SeqK.q (q_asC rfl rfl) rfl rfl rfl ?_
            refine SeqK.nil ?_
            exact ⟨i + 1, _, Wk.keep 87 [(1, .lp 1 0), (2, .c (bC false)), (3, iX .i64 ((lenN c + axN c.ax + isN c.is : Nat) : Int)), (6, iX .i64 (((i + 1) : Nat) : Int))] [(1, .box [.t (.sl .un 1 (c.nl.map i64T)), .t (.sl .un 1 (c.nn.map i64T)), .t (.sl .un 4 (c.ax.map axT)), .t (.sl .un 3 (c.is.map ctT)), .t (.sl .un 4 (c.ts.map tsT)), .t (.sl .un 2 (c.sm.map prT)), .t (.sl .un 2 (c.df.map prT))])] (H) rfl ⟨rfl, rfl, rfl, rfl, trivial⟩ ⟨rfl, trivial⟩ (fun _ _ h => h) rfl, by omega, ⟨hi, upS hi hU (by omega)⟩, rfl⟩
        ·
          refine AW.exit ?_
          refine eth_e ?_
          refine eth_e ?_
          refine exit_here ?_
          refine AW.seq ?_
          refine AW.reg ?_
          refine SeqK.q (q_mvC rfl rfl) rfl rfl rfl ?_
          refine SeqK.q (q_leq rfl rfl rfl) rfl rfl rfl ?_
          refine SeqK.q (q_asC rfl rfl) rfl rfl rfl ?_
          refine SeqK.nil ?_
          refine AW.ret ?_
          exact fin_x (x := .c _) (H) (.tmp rfl .nil) rfl (fun _ _ h => h) (⟨bCe (dI ⟨fun h => ⟨by omega, upE hU (by omega), by omega⟩, fun h => by have := h.2.2; omega⟩), rfl⟩)

end Go.Proofs.YtnmfjojhgfipcaaGreatDoor.W
namespace Go.Proofs.YtnmfjojhgfipcaaGreatDoor.W
open Go.RowKit E
set_option linter.unusedVariables false
set_option linter.unusedSimpArgs false
set_option linter.unusedSectionVars false
abbrev w (n : Int) : Int := IntKind.i64.wrap n
theorem w_R (n : Int) : R64 (w n) := by
  show -9223372036854775808 ≤ IntKind.i64.wrap n ∧ IntKind.i64.wrap n ≤ 9223372036854775807
  rw [IntKind.wrap_i64]; omega
abbrev r0 : RV := ⟨0, 0, ⟨#[]⟩⟩
abbrev at' (r : List RV) (v : Int) : RV := r.getD v.toNat r0
theorem at_get {r : List RV} {v : Int} (h : v.toNat < r.length) : at' r v = r[v.toNat] := by
  show r.getD v.toNat r0 = _; rw [List.getD_eq_getElem?_getD, List.getElem?_eq_getElem h]; rfl
def itV (r : List RV) (au : List Int) (v : Int) : Int × Bool := if (r.length : Int) ≤ v then (au.getD (v.toNat - r.length) 0, true) else ((at' r v).n, decide ((at' r v).k = 1))
def cmpV (r : List RV) (au : List Int) : List Cf → Int → Int × Bool
  | [], s => (s, true)
  | k :: l, s => if (itV r au k.v).2 = true then cmpV r au l (w (s + w (k.n * (itV r au k.v).1))) else (0, false)
def lfV (r : List RV) (au : List Int) (f : Lf) : Int × Bool := cmpV r au f.cs f.c
theorem cmpV_drop {r : List RV} {au : List Int} {l : List Cf} {i : Nat} (hi : i < l.length) (s : Int) : cmpV r au (l.drop i) s = if (itV r au l[i].v).2 = true then cmpV r au (l.drop (i + 1)) (w (s + w (l[i].n * (itV r au l[i].v).1))) else (0, false) := by
  rw [List.drop_eq_getElem_cons hi, cmpV]
theorem cmpV_R {r : List RV} {au : List Int} : ∀ {l : List Cf} {s : Int}, R64 s → R64 (cmpV r au l s).1
  | [], s, h => by rw [cmpV]; exact h
  | p :: l, s, h => by
    rw [cmpV]
    split
    · exact cmpV_R (w_R _)
    · show -9223372036854775808 ≤ (0 : Int) ∧ (0 : Int) ≤ 9223372036854775807; decide
abbrev vrC (r : Int × Bool) : X := .tup [iC r.1, bC r.2]
theorem vre {n : Int} {b : Bool} {r : Int × Bool} (h : (n, b) = r) : X.tup [iC n, bC b] = vrC r := by rw [← h]
/-- the variables of a form stand in the row or among the auxiliary ones -/
abbrev okF (f : Lf) (m : Nat) : Prop := ∀ j (h : j < f.cs.length), 0 ≤ f.cs[j].v ∧ f.cs[j].v < m
theorem it_hi {r : List RV} {au : List Int} {v : Int} (h : (r.length : Int) ≤ v) (h2 : v.toNat - r.length < au.length) : itV r au v = (au[v.toNat - r.length], true) := by
  unfold itV; rw [if_pos h, List.getD_eq_getElem?_getD, List.getElem?_eq_getElem h2]; rfl
theorem it_lo {r : List RV} {au : List Int} {v : Int} (h : ¬ (r.length : Int) ≤ v) (h2 : v.toNat < r.length) : itV r au v = (r[v.toNat].n, decide (r[v.toNat].k = 1)) := by
  unfold itV; rw [if_neg h, at_get h2]
theorem itw_sub {v : Int} {n : Nat} (h : (n : Int) ≤ v) (h2 : v ≤ 9223372036854775807) : IntKind.i64.wrap (v - (n : Int)) = ((v.toNat - n : Nat) : Int) := by
  rw [w64 (by omega) (by omega)]; omega

set_option maxRecDepth 20000 in
theorem integer_any (v : Int) (r : List RV) (au : List Int) (z z2 : Nz) (hr : r.length ≤ 17592186044000) (ha : au.length ≤ 17592186044000) (h : 0 ≤ v ∧ v < r.length + au.length) : Pure Tryz.prog 53 [iC v, rowC z r, iL z2 au] (vrC (itV r au v)) := by
  intro H
  refine Spec.enter Tryz.func53 rfl ?_
  refine AW.wk (Wk.keep 30 [(0, .c (iC v)), (1, .c (rowC z r)), (2, .c (iL z2 au))] [] (H) rfl ⟨rfl, rfl, rfl, trivial⟩ trivial (fun _ _ h => h) rfl) ?_
  refine AW.seq ?_
  refine AW.reg ?_
  refine SeqK.q (q_asC rfl rfl) rfl rfl rfl ?_
  refine SeqK.q (q_asC rfl rfl) rfl rfl rfl ?_
  refine SeqK.nil ?_
  refine AW.seq ?_
  refine AW.seq ?_
  have m1 := mlen rvT r
  refine AW.reg ?_
  refine SeqK.q (q_mvC rfl rfl) rfl rfl rfl ?_
  refine SeqK.q (q_mvC rfl rfl) rfl rfl rfl ?_
  refine SeqK.q (q_len rfl Fx.un57 rfl) rfl rfl rfl ?_
  refine SeqK.q (q_geq rfl rfl rfl) rfl rfl rfl ?_
  refine SeqK.nil ?_
  refine AW.condD rfl (fun h11 => ?_) (fun h11 => ?_)
  ·
    have hv : v.toNat - r.length < au.length := by omega
    refine AW.seq ?_
    refine AW.reg ?_
    refine SeqK.q (q_mvC rfl rfl) rfl rfl rfl ?_
    refine SeqK.q (q_mvC rfl rfl) rfl rfl rfl ?_
    refine SeqK.q (q_mvC rfl rfl) rfl rfl rfl ?_
    refine SeqK.q (q_len rfl Fx.un57 rfl) rfl rfl rfl ?_
    refine SeqK.q (q_sub _ rfl rfl rfl ((by rw [m1]; exact itw_sub (by omega) (by omega) : IntKind.i64.wrap _ = ((v.toNat - r.length : Nat) : Int)))) rfl rfl rfl ?_
    refine SeqK.q (q_index _ rfl Fx.sl67 rfl rfl (by omega) (idx_map (f := i64T) hv)) rfl rfl rfl ?_
    refine SeqK.q (q_load (.a _) rfl Fx.ty2 rfl rfl rfl) rfl rfl rfl ?_
    refine SeqK.q (q_asC rfl rfl) rfl rfl rfl ?_
    refine SeqK.q (q_asC rfl rfl) rfl rfl rfl ?_
    refine SeqK.nil ?_
    refine AW.ret ?_
    exact fin_x (x := .tup [_, _]) (H) (.tmp rfl (.tmp rfl .nil)) rfl (fun _ _ h => h) (⟨vre (it_hi (by omega) hv).symm, rfl⟩)
  ·
    have hv : v.toNat < r.length := by omega
    refine AW.skip ?_
    refine AW.seq ?_
    refine AW.draw Fx.mo ?_
    refine LexK.q (q_mvC rfl rfl) rfl rfl rfl ?_
    refine LexK.q (q_mvC rfl rfl) rfl rfl rfl ?_
    refine LexK.q (q_index _ rfl Fx.sl57 rfl rfl (by omega) (idx_map (f := rvT) hv)) rfl rfl rfl ?_
    refine LexK.q (q_fieldP _ rfl Fx.fl55_1 rfl rfl) rfl rfl rfl ?_
    refine LexK.q (q_load (.a _) rfl Fx.ty2 rfl rfl rfl) rfl rfl rfl ?_
    refine LexK.q (q_mvC rfl rfl) rfl rfl rfl ?_
    refine LexK.q (q_mvC rfl rfl) rfl rfl rfl ?_
    refine LexK.q (q_index _ rfl Fx.sl57 rfl rfl (by omega) (idx_map (f := rvT) hv)) rfl rfl rfl ?_
    refine LexK.q (q_fieldP _ rfl Fx.fl55_0 rfl rfl) rfl rfl rfl ?_
    refine LexK.q (q_load (.a _) rfl Fx.ty3 rfl rfl rfl) rfl rfl rfl ?_
    refine LexK.q (q_eql rfl rfl rfl) rfl rfl rfl ?_
    refine LexK.q (q_asC rfl rfl) rfl rfl rfl ?_
    refine LexK.q (q_asC rfl rfl) rfl rfl rfl ?_
    refine LexK.nil (by kernel_rfl) ?_
    refine AW.ret ?_
    exact fin_x (x := .tup [_, _]) (H) (.tmp rfl (.tmp rfl .nil)) rfl (fun _ _ h => h) (⟨vre (it_lo (by omega) hv).symm, rfl⟩)

set_option maxRecDepth 20000 in
theorem compute_any (f : Lf) (r : List RV) (au : List Int) (z z2 : Nz) (hr : r.length ≤ 17592186044000) (ha : au.length ≤ 17592186044000) (hl : f.cs.length ≤ 17592186044000) (hf : okF f (r.length + au.length)) : Pure Tryz.prog 34 [lfC f, rowC z r, iL z2 au] (vrC (lfV r au f)) := by
  intro H
  refine Spec.enter Tryz.func34 rfl ?_
  refine AW.wk (Wk.keep 40 [(0, .c (lfC f)), (1, .c (rowC z r)), (2, .c (iL z2 au))] [] (H) rfl ⟨rfl, rfl, rfl, trivial⟩ trivial (fun _ _ h => h) rfl) ?_
  refine AW.seq ?_
  refine AW.reg ?_
  refine SeqK.r (b_box (r := [_, _]) rfl rfl rfl rfl rfl rfl) rfl ?_
  refine SeqK.q (q_asC rfl rfl) rfl rfl rfl ?_
  refine SeqK.q (q_asC rfl rfl) rfl rfl rfl ?_
  refine SeqK.nil ?_
  refine AW.seq ?_
  refine AW.reg ?_
  refine SeqK.q (q_fieldL _ rfl Fx.fl61_0 rfl rfl) rfl rfl rfl ?_
  refine SeqK.r (b_load (r := .a _) rfl Fx.ty2 rfl rfl rfl rfl rfl rfl) rfl ?_
  refine SeqK.q (q_asC rfl rfl) rfl rfl rfl ?_
  refine SeqK.nil ?_
  refine AW.seq ?_
  refine AW.seq ?_
  refine AW.reg ?_
  refine SeqK.q (q_fieldL _ rfl Fx.fl61_1 rfl rfl) rfl rfl rfl ?_
  refine SeqK.r (b_load (r := .a _) rfl Fx.ty59 rfl rfl rfl rfl rfl rfl) rfl ?_
  refine SeqK.q (q_len rfl Fx.un59 rfl) rfl rfl rfl ?_
  refine SeqK.q (q_mvC rfl rfl) rfl rfl rfl ?_
  refine SeqK.nil ?_
  refine AW.block ?_
  refine AW.loop (fun (i : Nat) s => ∃ (sm : Int), (i ≤ f.cs.length ∧ cmpV r au (f.cs.drop i) sm = lfV r au f) ∧ s = ⟨40, sp [(1, .c (rowC z r)), (2, .c (iL z2 au)), (6, .c (iC 0)), (7, .c (bC false)), (8, .c (iC sm)), (16, .c (.a (.t (.sl .un 2 (f.cs.map cfT))))), (17, iX .i64 (((f.cs.map cfT).length : Nat) : Int)), (18, iX .i64 ((i : Nat) : Int))], lv [], H⟩) (fun i => f.cs.length - i) 0 ⟨_, Wk.keep 40 [(1, .c (rowC z r)), (2, .c (iL z2 au)), (6, .c (iC 0)), (7, .c (bC false)), (8, .c (iC (f.c))), (16, .c (.a (.t (.sl .un 2 (f.cs.map cfT))))), (17, iX .i64 (((f.cs.map cfT).length : Nat) : Int)), (18, iX .i64 ((((0 : Nat)) : Nat) : Int))] [] (H) rfl ⟨rfl, rfl, rfl, rfl, rfl, rfl, rfl, rfl, trivial⟩ trivial (fun _ _ h => h) rfl, f.c, ⟨Nat.zero_le _, rfl⟩, rfl⟩ (fun i s hs => ?_)
  obtain ⟨sm, ⟨hi0, hI⟩, rfl⟩ := hs
  refine AW.seq ?_
  refine AW.reg ?_
  refine SeqK.q (q_lss rfl rfl rfl) rfl rfl rfl ?_
  refine SeqK.nil ?_
  refine AW.seq ?_
  refine AW.condD rfl (fun h19 => ?_) (fun h19 => ?_)
  ·
    have hi : i < f.cs.length := by rw [List.length_map] at h19; omega
    have hk := hf i hi
    refine AW.skip ?_
    refine AW.seq ?_
    refine AW.block ?_
    refine AW.seq ?_
    refine AW.reg ?_
    refine SeqK.q (q_index _ rfl Fx.sl59 rfl rfl (by omega) (idx_map (f := cfT) hi)) rfl rfl rfl ?_
    refine SeqK.q (q_load (.g [_, _]) rfl Fx.ty96 rfl rfl rfl) rfl rfl rfl ?_
    refine SeqK.r (b_alloc (r := [_, _]) rfl rfl Fx.ze96 rfl rfl rfl rfl) rfl ?_
    refine SeqK.r (b_store (r := [_, _]) rfl rfl Fx.ty96 rfl rfl rfl rfl rfl rfl) rfl ?_
    refine SeqK.nil ?_
    refine AW.seq ?_
    refine AW.reg ?_
    refine SeqK.q (q_fieldL _ rfl Fx.fl96_0 rfl rfl) rfl rfl rfl ?_
    refine SeqK.r (b_load (r := .a _) rfl Fx.ty3 rfl rfl rfl rfl rfl rfl) rfl ?_
    refine SeqK.q (q_mvC rfl rfl) rfl rfl rfl ?_
    refine SeqK.q (q_mvC rfl rfl) rfl rfl rfl ?_
    refine SeqK.q (q_call _ rfl Fx.fn53 rfl (integer_any _ r au z z2 hr ha (by omega)) rfl) rfl rfl rfl ?_
    refine SeqK.q (q_mvT rfl rfl) rfl rfl rfl ?_
    refine SeqK.q (q_extract _ rfl rfl rfl) rfl rfl rfl ?_
    refine SeqK.q (q_extract _ rfl rfl rfl) rfl rfl rfl ?_
    refine SeqK.q (q_asC rfl rfl) rfl rfl rfl ?_
    refine SeqK.q (q_asC rfl rfl) rfl rfl rfl ?_
    refine SeqK.nil ?_
    refine AW.seq ?_
    refine AW.seq ?_
    refine AW.reg ?_
    refine SeqK.q (q_mvC rfl rfl) rfl rfl rfl ?_
    refine SeqK.q (q_not rfl rfl) rfl rfl rfl ?_
    refine SeqK.nil ?_
    refine AW.cond _ rfl (fun h31 => ?_) (fun h31 => ?_)
    ·
      refine AW.seq ?_
      refine AW.reg ?_
      refine SeqK.q (q_asC rfl rfl) rfl rfl rfl ?_
      refine SeqK.q (q_asC rfl rfl) rfl rfl rfl ?_
      refine SeqK.nil ?_
      refine AW.ret ?_
      exact fin_x (x := .tup [_, _]) (H) (.tmp rfl (.tmp rfl .nil)) rfl (fun _ _ h => h) (⟨vre (by rw [← hI, cmpV_drop hi, if_neg (by simpa using h31)]), rfl⟩)
    ·
      refine AW.skip ?_
      refine AW.reg ?_
      refine SeqK.q (q_mvC rfl rfl) rfl rfl rfl ?_
      refine SeqK.q (q_fieldL _ rfl Fx.fl96_1 rfl rfl) rfl rfl rfl ?_
      refine SeqK.r (b_load (r := .a _) rfl Fx.ty2 rfl rfl rfl rfl rfl rfl) rfl ?_
      refine SeqK.q (q_mvC rfl rfl) rfl rfl rfl ?_
      refine SeqK.q (q_mul _ rfl rfl rfl (rfl)) rfl rfl rfl ?_
      refine SeqK.q (q_add _ rfl rfl rfl (rfl)) rfl rfl rfl ?_
      refine SeqK.q (q_asC rfl rfl) rfl rfl rfl ?_
      refine SeqK.nil ?_
      refine AW.reg ?_
      refine SeqK.q (q_add _ rfl rfl rfl (w64 (by omega) (by omega))) rfl rfl rfl ?_
      refine SeqK.q (q_mvC rfl rfl) rfl rfl rfl ?_
      refine SeqK.nil ?_
      exact ⟨i + 1, _, Wk.keep 40 [(1, .c (rowC z r)), (2, .c (iL z2 au)), (6, .c (iC 0)), (7, .c (bC false)), (8, .c (iC ((w (sm + w (f.cs[i].n * (itV r au f.cs[i].v).1)))))), (16, .c (.a (.t (.sl .un 2 (f.cs.map cfT))))), (17, iX .i64 (((f.cs.map cfT).length : Nat) : Int)), (18, iX .i64 (((i + 1) : Nat) : Int))] [] (H) rfl ⟨rfl, rfl, rfl, rfl, rfl, rfl, rfl, rfl, trivial⟩ trivial (fun _ _ h => h) rfl, by omega, (w (sm + w (f.cs[i].n * (itV r au f.cs[i].v).1))), ⟨hi, by rw [← hI, cmpV_drop hi, if_pos (by simpa using h31)]⟩, rfl⟩
  ·
    refine AW.exit ?_
    refine eth_e ?_
    refine eth_e ?_
    refine exit_here ?_
    refine AW.seq ?_
    refine AW.reg ?_
    refine SeqK.q (q_mvC rfl rfl) rfl rfl rfl ?_
    refine SeqK.q (q_asC rfl rfl) rfl rfl rfl ?_
    refine SeqK.q (q_asC rfl rfl) rfl rfl rfl ?_
    refine SeqK.nil ?_
    refine AW.ret ?_
    exact fin_x (x := .tup [_, _]) (H) (.tmp rfl (.tmp rfl .nil)) rfl (fun _ _ h => h) (⟨vre (by rw [← hI, List.drop_eq_nil_of_le (by rw [List.length_map] at h19; omega), cmpV]), rfl⟩)

end Go.Proofs.YtnmfjojhgfipcaaGreatDoor.W
namespace Go.Proofs.YtnmfjojhgfipcaaGreatDoor.W
open Go.RowKit E
set_option linter.unusedVariables false
set_option linter.unusedSimpArgs false
set_option linter.unusedSectionVars false
def auV (r : List RV) : List Ax → List Int → List Int × Bool
  | [], out => (out, true)
  | a :: l, out => if a.b = 0 then (if (at' r a.t).k = 2 then auV r l (out ++ [((at' r a.t).s.size : Int)]) else ([], false))
    else if (lfV r out a.f).2 = true then auV r l (out ++ [(lfV r out a.f).1 / a.b]) else ([], false)
theorem auV_drop {r : List RV} {l : List Ax} {i : Nat} (hi : i < l.length) (out : List Int) : auV r (l.drop i) out = if l[i].b = 0 then (if (at' r l[i].t).k = 2 then auV r (l.drop (i + 1)) (out ++ [((at' r l[i].t).s.size : Int)]) else ([], false))
    else if (lfV r out l[i].f).2 = true then auV r (l.drop (i + 1)) (out ++ [(lfV r out l[i].f).1 / l[i].b]) else ([], false) := by
  rw [List.drop_eq_getElem_cons hi, auV]
abbrev auC (p : List Int × Bool) : X := .tup [iL .un p.1, bC p.2]
theorem aue {l : List Int} {b : Bool} {r : List Int × Bool} (h : (l, b) = r) : X.tup [iL .un l, bC b] = auC r := by rw [← h]
abbrev okA (axs : List Ax) (n : Nat) : Prop := ∀ j (h : j < axs.length), (axs[j].b = 0 → 0 ≤ axs[j].t ∧ axs[j].t < n) ∧ (axs[j].b ≠ 0 → (1 ≤ axs[j].b ∧ axs[j].b ≤ 1000) ∧ okF axs[j].f (n + j))
theorem put_i {zs : List (List E.T)} {out : List Int} {v : Int} (h : zs = out.map i64T) : zs ++ [i64T v] = (out ++ [v]).map i64T := by rw [h]; simp
theorem len_i {zs : List (List E.T)} {out : List Int} (h : zs = out.map i64T) : zs.length = out.length := by rw [h, List.length_map]
theorem out_len {out : List Int} {v : Int} {i : Nat} (h : out.length = i) : (out ++ [v]).length = i + 1 := by simp [h]
theorem lfV_R {r : List RV} {au : List Int} {f : Lf} (h : R64 f.c) : R64 (lfV r au f).1 := cmpV_R h

set_option maxHeartbeats 4000000 in
set_option maxRecDepth 20000 in
theorem aux_any (c : Cl) (r : List RV) (z : Nz) (hc : rgC c) (hr : r.length ≤ 17592186044000) (hs : ∀ v ∈ r, v.s.size ≤ 1000000000000000) (hA : okA c.ax r.length) (hR : ∀ a ∈ c.ax, R64 a.f.c) : Pure Tryz.prog 33 [clC c, rowC z r] (auC (auV r c.ax [])) := by
  intro H
  refine Spec.enter Tryz.func33 rfl ?_
  refine AW.wk (Wk.keep 66 [(0, .c (clC c)), (1, .c (rowC z r))] [] (H) rfl ⟨rfl, rfl, trivial⟩ trivial (fun _ _ h => h) rfl) ?_
  refine AW.seq ?_
  refine AW.reg ?_
  refine SeqK.r (b_box (r := [_, _, _, _, _, _, _]) rfl rfl rfl rfl rfl rfl) rfl ?_
  refine SeqK.q (q_asC rfl rfl) rfl rfl rfl ?_
  refine SeqK.q (q_asC rfl rfl) rfl rfl rfl ?_
  refine SeqK.nil ?_
  refine AW.seq ?_
  have q1 := hc.ax
  refine AW.reg ?_
  refine SeqK.q (q_asC rfl rfl) rfl rfl rfl ?_
  refine SeqK.nil ?_
  refine AW.seq ?_
  refine AW.seq ?_
  refine AW.reg ?_
  refine SeqK.q (q_fieldL _ rfl Fx.fl28_2 rfl rfl) rfl rfl rfl ?_
  refine SeqK.r (b_load (r := .a _) rfl Fx.ty23 rfl rfl rfl rfl rfl rfl) rfl ?_
  refine SeqK.q (q_len rfl Fx.un23 rfl) rfl rfl rfl ?_
  refine SeqK.q (q_mvC rfl rfl) rfl rfl rfl ?_
  refine SeqK.nil ?_
  refine AW.block ?_
  refine AW.tip 6 2 1 rfl (fun k0 hk0 => ?_)
  refine AW.loop (fun (i : Nat) s => ∃ (kt : Nat) (zs : List (List E.T)) (out : List Int), (i ≤ c.ax.length ∧ H kt = none ∧ out.length = i ∧ zs = out.map i64T ∧ auV r (c.ax.drop i) out = auV r c.ax []) ∧ s = ⟨66, sp [(1, .c (rowC z r)), (4, .c (.a (.t (.v (.slice none 0 0))))), (5, .c (bC false)), (6, .c (.a (.ts kt .ne 1 zs))), (13, .c (.a (.t (.sl .un 4 (c.ax.map axT))))), (14, iX .i64 (((c.ax.map axT).length : Nat) : Int)), (15, iX .i64 ((i : Nat) : Int))], lv [], upd H kt (some (.tip 2 1 zs.length))⟩) (fun i => c.ax.length - i) 0 ⟨_, Wk.keep 66 [(1, .c (rowC z r)), (4, .c (.a (.t (.v (.slice none 0 0))))), (5, .c (bC false)), (6, .c (.a (.ts (k0) .ne 1 ([])))), (13, .c (.a (.t (.sl .un 4 (c.ax.map axT))))), (14, iX .i64 (((c.ax.map axT).length : Nat) : Int)), (15, iX .i64 ((((0 : Nat)) : Nat) : Int))] [] (upd H (k0) (some (.tip 2 1 ([]).length))) rfl ⟨rfl, rfl, rfl, rfl, rfl, rfl, rfl, trivial⟩ trivial (fun _ _ h => h) rfl, k0, [], [], ⟨Nat.zero_le _, hk0, rfl, rfl, rfl⟩, rfl⟩ (fun i s hs => ?_)
  obtain ⟨kt, zs, out, ⟨hi0, hkt, hol, hzs, hI⟩, rfl⟩ := hs
  refine AW.seq ?_
  refine AW.reg ?_
  refine SeqK.q (q_lss rfl rfl rfl) rfl rfl rfl ?_
  refine SeqK.nil ?_
  refine AW.seq ?_
  refine AW.condD rfl (fun h16 => ?_) (fun h16 => ?_)
  ·
    have hi : i < c.ax.length := by rw [List.length_map] at h16; omega
    refine AW.skip ?_
    refine AW.seq ?_
    refine AW.block ?_
    refine AW.seq ?_
    refine AW.reg ?_
    refine SeqK.q (q_index _ rfl Fx.sl23 rfl rfl (by omega) (idx_map (f := axT) hi)) rfl rfl rfl ?_
    refine SeqK.q (q_load (.g [_, _, _, _]) rfl Fx.ty63 rfl rfl rfl) rfl rfl rfl ?_
    refine SeqK.r (b_alloc (r := [_, _, _, _]) rfl rfl Fx.ze63 rfl rfl rfl rfl) rfl ?_
    refine SeqK.r (b_store (r := [_, _, _, _]) rfl rfl Fx.ty63 rfl rfl rfl rfl rfl rfl) rfl ?_
    refine SeqK.nil ?_
    refine AW.seq ?_
    refine AW.seq ?_
    refine AW.reg ?_
    refine SeqK.q (q_fieldL _ rfl Fx.fl63_1 rfl rfl) rfl rfl rfl ?_
    refine SeqK.r (b_load (r := .a _) rfl Fx.ty2 rfl rfl rfl rfl rfl rfl) rfl ?_
    refine SeqK.q (q_eql rfl rfl rfl) rfl rfl rfl ?_
    refine SeqK.nil ?_
    refine AW.condD rfl (fun h21 => ?_) (fun h21 => ?_)
    ·
      refine AW.seq ?_
      refine AW.seq ?_
      have hk0 := (hA i hi).1 h21
      have ht : c.ax[i].t.toNat < r.length := by omega
      have hat := at_get ht
      refine AW.reg ?_
      refine SeqK.q (q_mvC rfl rfl) rfl rfl rfl ?_
      refine SeqK.q (q_fieldL _ rfl Fx.fl63_2 rfl rfl) rfl rfl rfl ?_
      refine SeqK.r (b_load (r := .a _) rfl Fx.ty3 rfl rfl rfl rfl rfl rfl) rfl ?_
      refine SeqK.q (q_index _ rfl Fx.sl57 rfl rfl (by omega) (idx_map (f := rvT) ht)) rfl rfl rfl ?_
      refine SeqK.q (q_fieldP _ rfl Fx.fl55_0 rfl rfl) rfl rfl rfl ?_
      refine SeqK.q (q_load (.a _) rfl Fx.ty3 rfl rfl rfl) rfl rfl rfl ?_
      refine SeqK.q (q_neq rfl rfl rfl) rfl rfl rfl ?_
      refine SeqK.nil ?_
      refine AW.condD rfl (fun h28 => ?_) (fun h28 => ?_)
      ·
        have hk2 : ¬ (at' r c.ax[i].t).k = 2 := by rw [hat]; exact h28
        refine AW.seq ?_
        refine AW.reg ?_
        refine SeqK.q (q_asC rfl rfl) rfl rfl rfl ?_
        refine SeqK.q (q_asC rfl rfl) rfl rfl rfl ?_
        refine SeqK.nil ?_
        refine AW.xw 4 rfl (XW.nilU (sz := 1)) ?_
        refine AW.ret ?_
        exact fin_x (x := .tup [_, _]) (H) (.tmp rfl (.tmp rfl .nil)) rfl (fun j o h => by show upd H _ _ j = _; rw [upd_ne _ _ (fun e => by subst e; simp_all)]; exact h) (⟨aue (l := []) (b := false) (by rw [← hI, auV_drop hi, if_pos h21, if_neg hk2]), rfl⟩)
      ·
        have hk2 : (at' r c.ax[i].t).k = 2 := by rw [hat]; omega
        have hsz := hs _ (List.getElem_mem ht)
        refine AW.skip ?_
        refine AW.seq ?_
        refine AW.reg ?_
        refine SeqK.q (q_mvC rfl rfl) rfl rfl rfl ?_
        refine SeqK.q (q_mvC rfl rfl) rfl rfl rfl ?_
        refine SeqK.q (q_fieldL _ rfl Fx.fl63_2 rfl rfl) rfl rfl rfl ?_
        refine SeqK.r (b_load (r := .a _) rfl Fx.ty3 rfl rfl rfl rfl rfl rfl) rfl ?_
        refine SeqK.q (q_index _ rfl Fx.sl57 rfl rfl (by omega) (idx_map (f := rvT) ht)) rfl rfl rfl ?_
        refine SeqK.q (q_fieldP _ rfl Fx.fl55_2 rfl rfl) rfl rfl rfl ?_
        refine SeqK.q (q_load (.a _) rfl Fx.ty9 rfl rfl rfl) rfl rfl rfl ?_
        refine SeqK.q (q_lenS rfl Fx.un9 rfl) rfl rfl rfl ?_
        refine SeqK.q (q_buildSlice _ rfl Fx.el67 rfl (by decide) rfl) rfl rfl rfl ?_
        refine SeqK.app1 rfl (hkt) rfl Fx.el67 rfl rfl (by have h1 := len_i hzs; have h2 := hc.ax; simp; omega) rfl rfl (fun k38 hk38 => ?_)
        refine SeqK.q (q_asC rfl rfl) rfl rfl rfl ?_
        refine SeqK.nil ?_
        refine AW.exit ?_
        refine eth_e ?_
        refine exit_here ?_
        refine AW.reg ?_
        refine SeqK.q (q_add _ rfl rfl rfl (w64 (by omega) (by omega))) rfl rfl rfl ?_
        refine SeqK.q (q_mvC rfl rfl) rfl rfl rfl ?_
        refine SeqK.nil ?_
        exact ⟨i + 1, _, Wk.keep 66 [(1, .c (rowC z r)), (4, .c (.a (.t (.v (.slice none 0 0))))), (5, .c (bC false)), (6, .c (.a (.ts (k38) .ne 1 (zs ++ [i64T ((((r[c.ax[i].t.toNat]'ht).s.size : Nat) : Int))])))), (13, .c (.a (.t (.sl .un 4 (c.ax.map axT))))), (14, iX .i64 (((c.ax.map axT).length : Nat) : Int)), (15, iX .i64 (((i + 1) : Nat) : Int))] [] (upd H (k38) (some (.tip 2 1 (zs ++ [i64T ((((r[c.ax[i].t.toNat]'ht).s.size : Nat) : Int))]).length))) rfl ⟨rfl, rfl, rfl, rfl, rfl, rfl, rfl, trivial⟩ trivial (fun _ _ h => h) rfl, by omega, k38, zs ++ [i64T ((((r[c.ax[i].t.toNat]'ht).s.size : Nat) : Int))], out ++ [(((r[c.ax[i].t.toNat]'ht).s.size : Nat) : Int)], ⟨hi, hk38, out_len hol, put_i hzs, by rw [← hI, auV_drop hi, if_pos h21, if_pos hk2, hat]⟩, rfl⟩
    ·
      refine AW.skip ?_
      refine AW.seq ?_
      have hk1 := (hA i hi).2 h21
      have hfl := hc.axf _ (List.getElem_mem hi)
      have hRa := hR _ (List.getElem_mem hi)
      refine AW.reg ?_
      refine SeqK.q (q_fieldL _ rfl Fx.fl63_0 rfl rfl) rfl rfl rfl ?_
      refine SeqK.r (b_load (r := .g [_, _]) rfl Fx.ty61 rfl rfl rfl rfl rfl rfl) rfl ?_
      refine SeqK.q (q_mvC rfl rfl) rfl rfl rfl ?_
      refine SeqK.q (q_mvC rfl rfl) rfl rfl rfl ?_
      refine SeqK.xw 43 rfl (XW.ts.trans (XW.es hzs)) ?_
      refine SeqK.q (q_call _ rfl Fx.fn34 rfl (compute_any _ r out z .un hr (by omega) hfl (hol ▸ hk1.2)) rfl) rfl rfl rfl ?_
      refine SeqK.q (q_mvT rfl rfl) rfl rfl rfl ?_
      refine SeqK.q (q_extract _ rfl rfl rfl) rfl rfl rfl ?_
      refine SeqK.q (q_extract _ rfl rfl rfl) rfl rfl rfl ?_
      refine SeqK.q (q_asC rfl rfl) rfl rfl rfl ?_
      refine SeqK.q (q_asC rfl rfl) rfl rfl rfl ?_
      refine SeqK.nil ?_
      refine AW.seq ?_
      refine AW.seq ?_
      refine AW.reg ?_
      refine SeqK.q (q_mvC rfl rfl) rfl rfl rfl ?_
      refine SeqK.q (q_not rfl rfl) rfl rfl rfl ?_
      refine SeqK.nil ?_
      refine AW.cond _ rfl (fun h48 => ?_) (fun h48 => ?_)
      ·
        have hlf : ¬ (lfV r out c.ax[i].f).2 = true := by simpa using h48
        refine AW.seq ?_
        refine AW.reg ?_
        refine SeqK.q (q_asC rfl rfl) rfl rfl rfl ?_
        refine SeqK.q (q_asC rfl rfl) rfl rfl rfl ?_
        refine SeqK.nil ?_
        refine AW.xw 4 rfl (XW.nilU (sz := 1)) ?_
        refine AW.ret ?_
        exact fin_x (x := .tup [_, _]) (H) (.tmp rfl (.tmp rfl .nil)) rfl (fun j o h => by show upd H _ _ j = _; rw [upd_ne _ _ (fun e => by subst e; simp_all)]; exact h) (⟨aue (l := []) (b := false) (by rw [← hI, auV_drop hi, if_neg h21, if_neg hlf]), rfl⟩)
      ·
        have hlf : (lfV r out c.ax[i].f).2 = true := by simpa using h48
        refine AW.skip ?_
        refine AW.seq ?_
        have hb1 := hk1.1.1
        have hq := tdiv_floor (a := (lfV r out c.ax[i].f).1) hb1
        have hm := tdiv_mul (a := (lfV r out c.ax[i].f).1) hb1
        have hd := tdiv_R (a := (lfV r out c.ax[i].f).1) hb1 (lfV_R hRa)
        refine AW.reg ?_
        refine SeqK.q (q_mvC rfl rfl) rfl rfl rfl ?_
        refine SeqK.q (q_fieldL _ rfl Fx.fl63_1 rfl rfl) rfl rfl rfl ?_
        refine SeqK.r (b_load (r := .a _) rfl Fx.ty2 rfl rfl rfl rfl rfl rfl) rfl ?_
        refine SeqK.q (q_quo _ rfl rfl rfl (by omega) (w64 (by omega) (by omega))) rfl rfl rfl ?_
        refine SeqK.q (q_asC rfl rfl) rfl rfl rfl ?_
        refine SeqK.nil ?_
        refine AW.seq ?_
        refine AW.seq ?_
        refine AW.reg ?_
        refine SeqK.q (q_mvC rfl rfl) rfl rfl rfl ?_
        refine SeqK.q (q_fieldL _ rfl Fx.fl63_1 rfl rfl) rfl rfl rfl ?_
        refine SeqK.r (b_load (r := .a _) rfl Fx.ty2 rfl rfl rfl rfl rfl rfl) rfl ?_
        refine SeqK.q (q_rem rfl rfl rfl (by omega)) rfl rfl rfl ?_
        refine SeqK.q (q_lss rfl rfl rfl) rfl rfl rfl ?_
        refine SeqK.nil ?_
        refine AW.condD rfl (fun h57 => ?_) (fun h57 => ?_)
        ·
          refine AW.reg ?_
          refine SeqK.q (q_mvC rfl rfl) rfl rfl rfl ?_
          refine SeqK.q (q_sub _ rfl rfl rfl (w64 (by omega) (by omega))) rfl rfl rfl ?_
          refine SeqK.q (q_asC rfl rfl) rfl rfl rfl ?_
          refine SeqK.nil ?_
          refine AW.wk (Wk.keep 66 [(1, .c (rowC z r)), (4, .c (.a (.t (.v (.slice none 0 0))))), (5, .c (bC false)), (6, .c (.a (.ts kt .ne 1 zs))), (11, .c (iC ((lfV r out c.ax[i].f).1 / c.ax[i].b))), (13, .c (.a (.t (.sl .un 4 (c.ax.map axT))))), (14, iX .i64 (((c.ax.map axT).length : Nat) : Int)), (15, iX .i64 ((i : Nat) : Int))] [] (upd H kt (some (.tip 2 1 zs.length))) rfl ⟨rfl, rfl, rfl, rfl, by first | (rw [← hq.1 (by omega)]; rfl) | (rw [← hq.2 (by omega)]; rfl), rfl, rfl, rfl, trivial⟩ trivial (fun _ _ h => h) rfl) ?_
          refine AW.reg ?_
          refine SeqK.q (q_mvC rfl rfl) rfl rfl rfl ?_
          refine SeqK.q (q_mvC rfl rfl) rfl rfl rfl ?_
          refine SeqK.q (q_buildSlice _ rfl Fx.el67 rfl (by decide) rfl) rfl rfl rfl ?_
          refine SeqK.app1 rfl (hkt) rfl Fx.el67 rfl rfl (by have h1 := len_i hzs; have h2 := hc.ax; simp; omega) rfl rfl (fun k63 hk63 => ?_)
          refine SeqK.q (q_asC rfl rfl) rfl rfl rfl ?_
          refine SeqK.nil ?_
          refine AW.reg ?_
          refine SeqK.q (q_add _ rfl rfl rfl (w64 (by omega) (by omega))) rfl rfl rfl ?_
          refine SeqK.q (q_mvC rfl rfl) rfl rfl rfl ?_
          refine SeqK.nil ?_
          exact ⟨i + 1, _, Wk.keep 66 [(1, .c (rowC z r)), (4, .c (.a (.t (.v (.slice none 0 0))))), (5, .c (bC false)), (6, .c (.a (.ts (k63) .ne 1 (zs ++ [i64T ((lfV r out c.ax[i].f).1 / c.ax[i].b)])))), (13, .c (.a (.t (.sl .un 4 (c.ax.map axT))))), (14, iX .i64 (((c.ax.map axT).length : Nat) : Int)), (15, iX .i64 (((i + 1) : Nat) : Int))] [] (upd H (k63) (some (.tip 2 1 (zs ++ [i64T ((lfV r out c.ax[i].f).1 / c.ax[i].b)]).length))) rfl ⟨rfl, rfl, rfl, rfl, rfl, rfl, rfl, trivial⟩ trivial (fun _ _ h => h) rfl, by omega, k63, zs ++ [i64T ((lfV r out c.ax[i].f).1 / c.ax[i].b)], out ++ [(lfV r out c.ax[i].f).1 / c.ax[i].b], ⟨hi, hk63, out_len hol, put_i hzs, by rw [← hI, auV_drop hi, if_neg h21, if_pos hlf]⟩, rfl⟩
        ·
          refine AW.skip ?_
          refine AW.wk (Wk.keep 66 [(1, .c (rowC z r)), (4, .c (.a (.t (.v (.slice none 0 0))))), (5, .c (bC false)), (6, .c (.a (.ts kt .ne 1 zs))), (11, .c (iC ((lfV r out c.ax[i].f).1 / c.ax[i].b))), (13, .c (.a (.t (.sl .un 4 (c.ax.map axT))))), (14, iX .i64 (((c.ax.map axT).length : Nat) : Int)), (15, iX .i64 ((i : Nat) : Int))] [] (upd H kt (some (.tip 2 1 zs.length))) rfl ⟨rfl, rfl, rfl, rfl, by first | (rw [← hq.1 (by omega)]; rfl) | (rw [← hq.2 (by omega)]; rfl), rfl, rfl, rfl, trivial⟩ trivial (fun _ _ h => h) rfl) ?_
          refine AW.reg ?_
          refine SeqK.q (q_mvC rfl rfl) rfl rfl rfl ?_
          refine SeqK.q (q_mvC rfl rfl) rfl rfl rfl ?_
          refine SeqK.q (q_buildSlice _ rfl Fx.el67 rfl (by decide) rfl) rfl rfl rfl ?_
          refine SeqK.app1 rfl (hkt) rfl Fx.el67 rfl rfl (by have h1 := len_i hzs; have h2 := hc.ax; simp; omega) rfl rfl (fun k63 hk63 => ?_)
          refine SeqK.q (q_asC rfl rfl) rfl rfl rfl ?_
          refine SeqK.nil ?_
          refine AW.reg ?_
          refine SeqK.q (q_add _ rfl rfl rfl (w64 (by omega) (by omega))) rfl rfl rfl ?_
          refine SeqK.q (q_mvC rfl rfl) rfl rfl rfl ?_
          refine SeqK.nil ?_
          exact ⟨i + 1, _, Wk.keep 66 [(1, .c (rowC z r)), (4, .c (.a (.t (.v (.slice none 0 0))))), (5, .c (bC false)), (6, .c (.a (.ts (k63) .ne 1 (zs ++ [i64T ((lfV r out c.ax[i].f).1 / c.ax[i].b)])))), (13, .c (.a (.t (.sl .un 4 (c.ax.map axT))))), (14, iX .i64 (((c.ax.map axT).length : Nat) : Int)), (15, iX .i64 (((i + 1) : Nat) : Int))] [] (upd H (k63) (some (.tip 2 1 (zs ++ [i64T ((lfV r out c.ax[i].f).1 / c.ax[i].b)]).length))) rfl ⟨rfl, rfl, rfl, rfl, rfl, rfl, rfl, trivial⟩ trivial (fun _ _ h => h) rfl, by omega, k63, zs ++ [i64T ((lfV r out c.ax[i].f).1 / c.ax[i].b)], out ++ [(lfV r out c.ax[i].f).1 / c.ax[i].b], ⟨hi, hk63, out_len hol, put_i hzs, by rw [← hI, auV_drop hi, if_neg h21, if_pos hlf]⟩, rfl⟩
  ·
    refine AW.exit ?_
    refine eth_e ?_
    refine eth_e ?_
    refine exit_here ?_
    refine AW.seq ?_
    refine AW.reg ?_
    refine SeqK.q (q_mvC rfl rfl) rfl rfl rfl ?_
    refine SeqK.q (q_asC rfl rfl) rfl rfl rfl ?_
    refine SeqK.q (q_asC rfl rfl) rfl rfl rfl ?_
    refine SeqK.nil ?_
    refine AW.xw 4 rfl (XW.ts.trans (XW.es hzs)) ?_
    refine AW.ret ?_
    exact fin_x (x := .tup [_, _]) (H) (.tmp rfl (.tmp rfl .nil)) rfl (fun j o h => by show upd H _ _ j = _; rw [upd_ne _ _ (fun e => by subst e; simp_all)]; exact h) (⟨aue (by rw [← hI, List.drop_eq_nil_of_le (by rw [List.length_map] at h16; omega), auV]), rfl⟩)

end Go.Proofs.YtnmfjojhgfipcaaGreatDoor.W
namespace Go.Proofs.YtnmfjojhgfipcaaGreatDoor.W
open Go.RowKit E
set_option linter.unusedVariables false
set_option linter.unusedSimpArgs false
set_option linter.unusedSectionVars false

end Go.Proofs.YtnmfjojhgfipcaaGreatDoor.W
namespace Go.Proofs.YtnmfjojhgfipcaaGreatDoor.W
open Go.RowKit E
set_option linter.unusedVariables false
set_option linter.unusedSimpArgs false
set_option linter.unusedSectionVars false
/-! whether a clause holds -/
def likeL : List UInt8 → List UInt8 → Bool
  | [], [] => true
  | _ :: _, [] => false
  | s, c :: p => if c = 37 then (List.range (s.length + 1)).any (fun i => likeL (s.drop i) p)
    else match s with
      | [] => false
      | x :: s' => (decide (c = 95) || decide (c = x)) && likeL s' p
termination_by _ p => p.length
/-- whether a text passes a test, but for the sign -/
def psB (t : Ts) (u : ByteArray) : Bool := if t.k = 0 then decide (u = t.s) else if t.k = 1 then likeL u.data.toList t.s.data.toList else if t.k = 2 then strLt u t.s else strLt u t.s || decide (u = t.s)
/-- the variables of a clause stand in the row -/
structure okC (c : Cl) (r : List RV) : Prop where
  nl : ∀ j (h : j < c.nl.length), 0 ≤ c.nl[j] ∧ c.nl[j] < r.length
  nn : ∀ j (h : j < c.nn.length), 0 ≤ c.nn[j] ∧ c.nn[j] < r.length
  ax : okA c.ax r.length
  is : ∀ j (h : j < c.is.length), okF c.is[j].f (r.length + c.ax.length)
  ts : ∀ j (h : j < c.ts.length), 0 ≤ c.ts[j].v ∧ c.ts[j].v < r.length
  sm : ∀ j (h : j < c.sm.length), (0 ≤ c.sm[j].1 ∧ c.sm[j].1 < r.length) ∧ 0 ≤ c.sm[j].2 ∧ c.sm[j].2 < r.length
  df : ∀ j (h : j < c.df.length), (0 ≤ c.df[j].1 ∧ c.df[j].1 < r.length) ∧ 0 ≤ c.df[j].2 ∧ c.df[j].2 < r.length
  cR : ∀ a ∈ c.ax, R64 a.f.c
  iR : ∀ a ∈ c.is, R64 a.f.c
theorem auV_len {r : List RV} : ∀ {l : List Ax} {out : List Int}, (auV r l out).2 = true → (auV r l out).1.length = out.length + l.length
  | [], out, _ => by rw [auV]; rfl
  | a :: l, out, h => by
    rw [auV] at h ⊢
    split
    · rename_i h0
      rw [if_pos h0] at h
      split
      · rename_i h1
        rw [if_pos h1] at h
        rw [auV_len h]; simp; omega
      · rename_i h1
        rw [if_neg h1] at h; cases h
    · rename_i h0
      rw [if_neg h0] at h
      split
      · rename_i h1
        rw [if_pos h1] at h
        rw [auV_len h]; simp; omega
      · rename_i h1
        rw [if_neg h1] at h; cases h
abbrev inQ (r : List RV) (au : List Int) (k : Ct) : Prop := (lfV r au k.f).2 = true ∧ (lfV r au k.f).1 ≤ 0 ∧ (k.e = true → (lfV r au k.f).1 = 0)
abbrev tsQ (r : List RV) (t : Ts) : Prop := (at' r t.v).k = 2 ∧ psB t (at' r t.v).s ≠ t.n
abbrev smQ (r : List RV) (p : Int × Int) : Prop := (at' r p.1).k = 2 ∧ (at' r p.2).k = 2 ∧ (at' r p.1).s = (at' r p.2).s
abbrev dfQ (r : List RV) (p : Int × Int) : Prop := (at' r p.1).k = 2 ∧ (at' r p.2).k = 2 ∧ (at' r p.1).s ≠ (at' r p.2).s
abbrev holP (c : Cl) (r : List RV) : Prop :=
  (∀ j (h : j < c.nl.length), (at' r c.nl[j]).k = 0) ∧ (∀ j (h : j < c.nn.length), (at' r c.nn[j]).k ≠ 0) ∧ (auV r c.ax []).2 = true ∧ (∀ j (h : j < c.is.length), inQ r (auV r c.ax []).1 c.is[j]) ∧
  (∀ j (h : j < c.ts.length), tsQ r c.ts[j]) ∧ (∀ j (h : j < c.sm.length), smQ r c.sm[j]) ∧ (∀ j (h : j < c.df.length), dfQ r c.df[j])

set_option maxHeartbeats 16000000 in
set_option maxRecDepth 20000 in
theorem holds_any (c : Cl) (r : List RV) (z : Nz) (hc : rgC c) (hr : r.length ≤ 17592186044000) (hs : ∀ v ∈ r, v.s.size ≤ 1000000000000000) (hok : okC c r) (hps : ∀ t ∈ c.ts, ∀ u : ByteArray, u.size ≤ 1000000000000000 → Pure Tryz.prog 35 [tsC t, sC u] (.c (bC (psB t u)))) : Pure Tryz.prog 11 [clC c, rowC z r] (.c (bC (decide (holP c r)))) := by
  intro H
  refine Spec.enter Tryz.func11 rfl ?_
  refine AW.wk (Wk.keep 193 [(0, .c (clC c)), (1, .c (rowC z r))] [] (H) rfl ⟨rfl, rfl, trivial⟩ trivial (fun _ _ h => h) rfl) ?_
  refine AW.seq ?_
  refine AW.reg ?_
  refine SeqK.r (b_box (r := [_, _, _, _, _, _, _]) rfl rfl rfl rfl rfl rfl) rfl ?_
  refine SeqK.q (q_asC rfl rfl) rfl rfl rfl ?_
  refine SeqK.nil ?_
  refine AW.seq ?_
  refine AW.seq ?_
  have q1 := hc.nl
  have q2 := hc.nn
  have q3 := hc.ax
  have q4 := hc.is
  have q5 := hc.ts
  have q6 := hc.sm
  have q7 := hc.df
  refine AW.reg ?_
  refine SeqK.q (q_fieldL _ rfl Fx.fl28_0 rfl rfl) rfl rfl rfl ?_
  refine SeqK.r (b_load (r := .a _) rfl Fx.ty22 rfl rfl rfl rfl rfl rfl) rfl ?_
  refine SeqK.q (q_len rfl Fx.un22 rfl) rfl rfl rfl ?_
  refine SeqK.q (q_mvC rfl rfl) rfl rfl rfl ?_
  refine SeqK.nil ?_
  refine AW.block ?_
  refine AW.loop (fun (i : Nat) s => (i ≤ c.nl.length ∧ ∀ j (h : j < c.nl.length), j < i → (at' r c.nl[j]).k = 0) ∧ s = ⟨193, sp [(1, .c (rowC z r)), (2, .lp 2 0), (4, .c (bC false)), (22, .c (.a (.t (.sl .un 1 (c.nl.map i64T))))), (23, iX .i64 (((c.nl.map i64T).length : Nat) : Int)), (24, iX .i64 ((i : Nat) : Int))], lv [(2, .box [.t (.sl .un 1 (c.nl.map i64T)), .t (.sl .un 1 (c.nn.map i64T)), .t (.sl .un 4 (c.ax.map axT)), .t (.sl .un 3 (c.is.map ctT)), .t (.sl .un 4 (c.ts.map tsT)), .t (.sl .un 2 (c.sm.map prT)), .t (.sl .un 2 (c.df.map prT))])], H⟩) (fun i => c.nl.length - i) 0 ⟨_, Wk.keep 193 [(1, .c (rowC z r)), (2, .lp 2 0), (4, .c (bC false)), (22, .c (.a (.t (.sl .un 1 (c.nl.map i64T))))), (23, iX .i64 (((c.nl.map i64T).length : Nat) : Int)), (24, iX .i64 ((((0 : Nat)) : Nat) : Int))] [(2, .box [.t (.sl .un 1 (c.nl.map i64T)), .t (.sl .un 1 (c.nn.map i64T)), .t (.sl .un 4 (c.ax.map axT)), .t (.sl .un 3 (c.is.map ctT)), .t (.sl .un 4 (c.ts.map tsT)), .t (.sl .un 2 (c.sm.map prT)), .t (.sl .un 2 (c.df.map prT))])] (H) rfl ⟨rfl, rfl, rfl, rfl, rfl, rfl, trivial⟩ ⟨rfl, trivial⟩ (fun _ _ h => h) rfl, ⟨Nat.zero_le _, up0⟩, rfl⟩ (fun i s hs => ?_)
  obtain ⟨⟨hi0, hU⟩, rfl⟩ := hs
  refine AW.seq ?_
  refine AW.reg ?_
  refine SeqK.q (q_lss rfl rfl rfl) rfl rfl rfl ?_
  refine SeqK.nil ?_
  refine AW.seq ?_
  refine AW.condD rfl (fun h25 => ?_) (fun h25 => ?_)
  ·
    have hi : i < c.nl.length := by rw [List.length_map] at h25; omega
    have h0 := hok.nl i hi
    have ht : (c.nl[i]).toNat < r.length := by omega
    have ha := at_get ht
    refine AW.skip ?_
    refine AW.seq ?_
    refine AW.block ?_
    refine AW.seq ?_
    refine AW.reg ?_
    refine SeqK.q (q_index _ rfl Fx.sl22 rfl rfl (by omega) (idx_map (f := i64T) hi)) rfl rfl rfl ?_
    refine SeqK.q (q_load (.a _) rfl Fx.ty3 rfl rfl rfl) rfl rfl rfl ?_
    refine SeqK.q (q_asC rfl rfl) rfl rfl rfl ?_
    refine SeqK.nil ?_
    refine AW.seq ?_
    refine AW.reg ?_
    refine SeqK.q (q_mvC rfl rfl) rfl rfl rfl ?_
    refine SeqK.q (q_mvC rfl rfl) rfl rfl rfl ?_
    refine SeqK.q (q_index _ rfl Fx.sl57 rfl rfl (by omega) (idx_map (f := rvT) ht)) rfl rfl rfl ?_
    refine SeqK.q (q_fieldP _ rfl Fx.fl55_0 rfl rfl) rfl rfl rfl ?_
    refine SeqK.q (q_load (.a _) rfl Fx.ty3 rfl rfl rfl) rfl rfl rfl ?_
    refine SeqK.q (q_neq rfl rfl rfl) rfl rfl rfl ?_
    refine SeqK.nil ?_
    refine AW.condD rfl (fun h33 => ?_) (fun h33 => ?_)
    ·
      refine AW.seq ?_
      refine AW.reg ?_
      refine SeqK.q (q_asC rfl rfl) rfl rfl rfl ?_
      refine SeqK.nil ?_
      refine AW.ret ?_
      exact fin_x (x := .c _) (H) (.tmp rfl .nil) rfl (fun _ _ h => h) (⟨bCe (dF (fun h => by have := h.1 i hi; rw [ha] at this; omega)), rfl⟩)
    ·
      refine AW.skip ?_
      refine AW.reg ?_
      refine SeqK.q (q_add _ rfl rfl rfl (w64 (by omega) (by omega))) rfl rfl rfl ?_
      refine SeqK.q (q_mvC rfl rfl) rfl rfl rfl ?_
      refine SeqK.nil ?_
      exact ⟨i + 1, _, Wk.keep 193 [(1, .c (rowC z r)), (2, .lp 2 0), (4, .c (bC false)), (22, .c (.a (.t (.sl .un 1 (c.nl.map i64T))))), (23, iX .i64 (((c.nl.map i64T).length : Nat) : Int)), (24, iX .i64 (((i + 1) : Nat) : Int))] [(2, .box [.t (.sl .un 1 (c.nl.map i64T)), .t (.sl .un 1 (c.nn.map i64T)), .t (.sl .un 4 (c.ax.map axT)), .t (.sl .un 3 (c.is.map ctT)), .t (.sl .un 4 (c.ts.map tsT)), .t (.sl .un 2 (c.sm.map prT)), .t (.sl .un 2 (c.df.map prT))])] (H) rfl ⟨rfl, rfl, rfl, rfl, rfl, rfl, trivial⟩ ⟨rfl, trivial⟩ (fun _ _ h => h) rfl, by omega, ⟨hi, upS hi hU (by rw [ha]; omega)⟩, rfl⟩
  ·
    refine AW.exit ?_
    refine eth_e ?_
    refine eth_e ?_
    refine exit_here ?_
    refine AW.seq ?_
    refine AW.seq ?_
    have hA := upE hU (by rw [List.length_map] at h25; omega)
    refine AW.reg ?_
    refine SeqK.q (q_fieldL _ rfl Fx.fl28_1 rfl rfl) rfl rfl rfl ?_
    refine SeqK.r (b_load (r := .a _) rfl Fx.ty22 rfl rfl rfl rfl rfl rfl) rfl ?_
    refine SeqK.q (q_len rfl Fx.un22 rfl) rfl rfl rfl ?_
    refine SeqK.q (q_mvC rfl rfl) rfl rfl rfl ?_
    refine SeqK.nil ?_
    refine AW.block ?_
    refine AW.loop (fun (i : Nat) s => (i ≤ c.nn.length ∧ ∀ j (h : j < c.nn.length), j < i → (at' r c.nn[j]).k ≠ 0) ∧ s = ⟨193, sp [(1, .c (rowC z r)), (2, .lp 2 0), (4, .c (bC false)), (36, .c (.a (.t (.sl .un 1 (c.nn.map i64T))))), (37, iX .i64 (((c.nn.map i64T).length : Nat) : Int)), (38, iX .i64 ((i : Nat) : Int))], lv [(2, .box [.t (.sl .un 1 (c.nl.map i64T)), .t (.sl .un 1 (c.nn.map i64T)), .t (.sl .un 4 (c.ax.map axT)), .t (.sl .un 3 (c.is.map ctT)), .t (.sl .un 4 (c.ts.map tsT)), .t (.sl .un 2 (c.sm.map prT)), .t (.sl .un 2 (c.df.map prT))])], H⟩) (fun i => c.nn.length - i) 0 ⟨_, Wk.keep 193 [(1, .c (rowC z r)), (2, .lp 2 0), (4, .c (bC false)), (36, .c (.a (.t (.sl .un 1 (c.nn.map i64T))))), (37, iX .i64 (((c.nn.map i64T).length : Nat) : Int)), (38, iX .i64 ((((0 : Nat)) : Nat) : Int))] [(2, .box [.t (.sl .un 1 (c.nl.map i64T)), .t (.sl .un 1 (c.nn.map i64T)), .t (.sl .un 4 (c.ax.map axT)), .t (.sl .un 3 (c.is.map ctT)), .t (.sl .un 4 (c.ts.map tsT)), .t (.sl .un 2 (c.sm.map prT)), .t (.sl .un 2 (c.df.map prT))])] (H) rfl ⟨rfl, rfl, rfl, rfl, rfl, rfl, trivial⟩ ⟨rfl, trivial⟩ (fun _ _ h => h) rfl, ⟨Nat.zero_le _, up0⟩, rfl⟩ (fun i s hs => ?_)
    obtain ⟨⟨hi0, hU2⟩, rfl⟩ := hs
    refine AW.seq ?_
    refine AW.reg ?_
    refine SeqK.q (q_lss rfl rfl rfl) rfl rfl rfl ?_
    refine SeqK.nil ?_
    refine AW.seq ?_
    refine AW.condD rfl (fun h39 => ?_) (fun h39 => ?_)
    ·
      have hi : i < c.nn.length := by rw [List.length_map] at h39; omega
      have h0 := hok.nn i hi
      have ht : (c.nn[i]).toNat < r.length := by omega
      have ha := at_get ht
      refine AW.skip ?_
      refine AW.seq ?_
      refine AW.block ?_
      refine AW.seq ?_
      refine AW.reg ?_
      refine SeqK.q (q_index _ rfl Fx.sl22 rfl rfl (by omega) (idx_map (f := i64T) hi)) rfl rfl rfl ?_
      refine SeqK.q (q_load (.a _) rfl Fx.ty3 rfl rfl rfl) rfl rfl rfl ?_
      refine SeqK.q (q_asC rfl rfl) rfl rfl rfl ?_
      refine SeqK.nil ?_
      refine AW.seq ?_
      refine AW.reg ?_
      refine SeqK.q (q_mvC rfl rfl) rfl rfl rfl ?_
      refine SeqK.q (q_mvC rfl rfl) rfl rfl rfl ?_
      refine SeqK.q (q_index _ rfl Fx.sl57 rfl rfl (by omega) (idx_map (f := rvT) ht)) rfl rfl rfl ?_
      refine SeqK.q (q_fieldP _ rfl Fx.fl55_0 rfl rfl) rfl rfl rfl ?_
      refine SeqK.q (q_load (.a _) rfl Fx.ty3 rfl rfl rfl) rfl rfl rfl ?_
      refine SeqK.q (q_eql rfl rfl rfl) rfl rfl rfl ?_
      refine SeqK.nil ?_
      refine AW.condD rfl (fun h47 => ?_) (fun h47 => ?_)
      ·
        refine AW.seq ?_
        refine AW.reg ?_
        refine SeqK.q (q_asC rfl rfl) rfl rfl rfl ?_
        refine SeqK.nil ?_
        refine AW.ret ?_
        exact fin_x (x := .c _) (H) (.tmp rfl .nil) rfl (fun _ _ h => h) (⟨bCe (dF (fun h => by have := h.2.1 i hi; rw [ha] at this; omega)), rfl⟩)
      ·
        refine AW.skip ?_
        refine AW.reg ?_
        refine SeqK.q (q_add _ rfl rfl rfl (w64 (by omega) (by omega))) rfl rfl rfl ?_
        refine SeqK.q (q_mvC rfl rfl) rfl rfl rfl ?_
        refine SeqK.nil ?_
        exact ⟨i + 1, _, Wk.keep 193 [(1, .c (rowC z r)), (2, .lp 2 0), (4, .c (bC false)), (36, .c (.a (.t (.sl .un 1 (c.nn.map i64T))))), (37, iX .i64 (((c.nn.map i64T).length : Nat) : Int)), (38, iX .i64 (((i + 1) : Nat) : Int))] [(2, .box [.t (.sl .un 1 (c.nl.map i64T)), .t (.sl .un 1 (c.nn.map i64T)), .t (.sl .un 4 (c.ax.map axT)), .t (.sl .un 3 (c.is.map ctT)), .t (.sl .un 4 (c.ts.map tsT)), .t (.sl .un 2 (c.sm.map prT)), .t (.sl .un 2 (c.df.map prT))])] (H) rfl ⟨rfl, rfl, rfl, rfl, rfl, rfl, trivial⟩ ⟨rfl, trivial⟩ (fun _ _ h => h) rfl, by omega, ⟨hi, upS hi hU2 (by rw [ha]; omega)⟩, rfl⟩
    ·
      refine AW.exit ?_
      refine eth_e ?_
      refine eth_e ?_
      refine exit_here ?_
      refine AW.seq ?_
      have hB := upE hU2 (by rw [List.length_map] at h39; omega)
      refine AW.reg ?_
      refine SeqK.r (b_load (r := .g [_, _, _, _, _, _, _]) rfl Fx.ty28 rfl rfl rfl rfl rfl rfl) rfl ?_
      refine SeqK.q (q_mvC rfl rfl) rfl rfl rfl ?_
      refine SeqK.q (q_call _ rfl Fx.fn33 rfl (aux_any c r z hc hr hs hok.ax hok.cR) rfl) rfl rfl rfl ?_
      refine SeqK.q (q_mvT rfl rfl) rfl rfl rfl ?_
      refine SeqK.q (q_extract _ rfl rfl rfl) rfl rfl rfl ?_
      refine SeqK.q (q_extract _ rfl rfl rfl) rfl rfl rfl ?_
      refine SeqK.q (q_asC rfl rfl) rfl rfl rfl ?_
      refine SeqK.q (q_asC rfl rfl) rfl rfl rfl ?_
      refine SeqK.nil ?_
      refine AW.seq ?_
      refine AW.seq ?_
      refine AW.reg ?_
      refine SeqK.q (q_mvC rfl rfl) rfl rfl rfl ?_
      refine SeqK.q (q_not rfl rfl) rfl rfl rfl ?_
      refine SeqK.nil ?_
      refine AW.cond _ rfl (fun h56 => ?_) (fun h56 => ?_)
      ·
        refine AW.seq ?_
        refine AW.reg ?_
        refine SeqK.q (q_asC rfl rfl) rfl rfl rfl ?_
        refine SeqK.nil ?_
        refine AW.ret ?_
        exact fin_x (x := .c _) (H) (.tmp rfl .nil) rfl (fun _ _ h => h) (⟨bCe (dF (fun h => by have := h.2.2.1; simp_all)), rfl⟩)
      ·
        refine AW.skip ?_
        refine AW.seq ?_
        refine AW.seq ?_
        have hau : (auV r c.ax []).2 = true := by simpa using h56
        have hal : (auV r c.ax []).1.length = c.ax.length := by have := auV_len hau; simpa using this
        refine AW.reg ?_
        refine SeqK.q (q_fieldL _ rfl Fx.fl28_3 rfl rfl) rfl rfl rfl ?_
        refine SeqK.r (b_load (r := .a _) rfl Fx.ty24 rfl rfl rfl rfl rfl rfl) rfl ?_
        refine SeqK.q (q_len rfl Fx.un24 rfl) rfl rfl rfl ?_
        refine SeqK.q (q_mvC rfl rfl) rfl rfl rfl ?_
        refine SeqK.nil ?_
        refine AW.block ?_
        refine AW.loop (fun (i : Nat) s => (i ≤ c.is.length ∧ ∀ j (h : j < c.is.length), j < i → inQ r (auV r c.ax []).1 c.is[j]) ∧ s = ⟨193, sp [(1, .c (rowC z r)), (2, .lp 2 0), (4, .c (bC false)), (9, .c (iL .un (auV r c.ax []).1)), (58, .c (.a (.t (.sl .un 3 (c.is.map ctT))))), (59, iX .i64 (((c.is.map ctT).length : Nat) : Int)), (60, iX .i64 ((i : Nat) : Int))], lv [(2, .box [.t (.sl .un 1 (c.nl.map i64T)), .t (.sl .un 1 (c.nn.map i64T)), .t (.sl .un 4 (c.ax.map axT)), .t (.sl .un 3 (c.is.map ctT)), .t (.sl .un 4 (c.ts.map tsT)), .t (.sl .un 2 (c.sm.map prT)), .t (.sl .un 2 (c.df.map prT))])], H⟩) (fun i => c.is.length - i) 0 ⟨_, Wk.keep 193 [(1, .c (rowC z r)), (2, .lp 2 0), (4, .c (bC false)), (9, .c (iL .un (auV r c.ax []).1)), (58, .c (.a (.t (.sl .un 3 (c.is.map ctT))))), (59, iX .i64 (((c.is.map ctT).length : Nat) : Int)), (60, iX .i64 ((((0 : Nat)) : Nat) : Int))] [(2, .box [.t (.sl .un 1 (c.nl.map i64T)), .t (.sl .un 1 (c.nn.map i64T)), .t (.sl .un 4 (c.ax.map axT)), .t (.sl .un 3 (c.is.map ctT)), .t (.sl .un 4 (c.ts.map tsT)), .t (.sl .un 2 (c.sm.map prT)), .t (.sl .un 2 (c.df.map prT))])] (H) rfl ⟨rfl, rfl, rfl, rfl, rfl, rfl, rfl, trivial⟩ ⟨rfl, trivial⟩ (fun _ _ h => h) rfl, ⟨Nat.zero_le _, up0⟩, rfl⟩ (fun i s hs => ?_)
        obtain ⟨⟨hi0, hU3⟩, rfl⟩ := hs
        refine AW.seq ?_
        refine AW.reg ?_
        refine SeqK.q (q_lss rfl rfl rfl) rfl rfl rfl ?_
        refine SeqK.nil ?_
        refine AW.seq ?_
        refine AW.condD rfl (fun h61 => ?_) (fun h61 => ?_)
        ·
          have hi : i < c.is.length := by rw [List.length_map] at h61; omega
          have hfl := hc.isf _ (List.getElem_mem hi)
          have hfi := hok.is i hi
          rw [← hal] at hfi
          refine AW.skip ?_
          refine AW.seq ?_
          refine AW.block ?_
          refine AW.seq ?_
          refine AW.reg ?_
          refine SeqK.q (q_index _ rfl Fx.sl24 rfl rfl (by omega) (idx_map (f := ctT) hi)) rfl rfl rfl ?_
          refine SeqK.q (q_load (.g [_, _, _]) rfl Fx.ty65 rfl rfl rfl) rfl rfl rfl ?_
          refine SeqK.r (b_alloc (r := [_, _, _]) rfl rfl Fx.ze65 rfl rfl rfl rfl) rfl ?_
          refine SeqK.r (b_store (r := [_, _, _]) rfl rfl Fx.ty65 rfl rfl rfl rfl rfl rfl) rfl ?_
          refine SeqK.nil ?_
          refine AW.seq ?_
          refine AW.reg ?_
          refine SeqK.q (q_fieldL _ rfl Fx.fl65_0 rfl rfl) rfl rfl rfl ?_
          refine SeqK.r (b_load (r := .g [_, _]) rfl Fx.ty61 rfl rfl rfl rfl rfl rfl) rfl ?_
          refine SeqK.q (q_mvC rfl rfl) rfl rfl rfl ?_
          refine SeqK.q (q_mvC rfl rfl) rfl rfl rfl ?_
          refine SeqK.q (q_call _ rfl Fx.fn34 rfl (compute_any _ r _ z .un hr (by omega) hfl hfi) rfl) rfl rfl rfl ?_
          refine SeqK.q (q_mvT rfl rfl) rfl rfl rfl ?_
          refine SeqK.q (q_extract _ rfl rfl rfl) rfl rfl rfl ?_
          refine SeqK.q (q_extract _ rfl rfl rfl) rfl rfl rfl ?_
          refine SeqK.q (q_asC rfl rfl) rfl rfl rfl ?_
          refine SeqK.q (q_asC rfl rfl) rfl rfl rfl ?_
          refine SeqK.nil ?_
          refine AW.seq ?_
          refine AW.reg ?_
          refine SeqK.q (q_mvC rfl rfl) rfl rfl rfl ?_
          refine SeqK.q (q_not rfl rfl) rfl rfl rfl ?_
          refine SeqK.qB (q_mvC rfl rfl) rfl rfl rfl (fun g74 => ?_) (fun g74 => ?_)
          ·
            refine SeqK.off rfl rfl rfl rfl rfl rfl ?_
            refine SeqK.off rfl rfl rfl rfl rfl rfl ?_
            refine SeqK.q (q_pkT rfl rfl rfl) rfl rfl rfl ?_
            refine SeqK.q (q_mvC rfl rfl) rfl rfl rfl ?_
            refine SeqK.off rfl rfl rfl rfl rfl rfl ?_
            refine SeqK.off rfl rfl rfl rfl rfl rfl ?_
            refine SeqK.off rfl rfl rfl rfl rfl rfl ?_
            refine SeqK.offU rfl rfl rfl rfl rfl ?_
            refine SeqK.offU rfl rfl rfl rfl rfl ?_
            refine SeqK.off rfl rfl rfl rfl rfl rfl ?_
            refine SeqK.q (q_pkT rfl rfl rfl) rfl rfl rfl ?_
            refine SeqK.nil ?_
            refine AW.condT rfl ?_
            refine AW.seq ?_
            refine AW.reg ?_
            refine SeqK.q (q_asC rfl rfl) rfl rfl rfl ?_
            refine SeqK.nil ?_
            refine AW.ret ?_
            exact fin_x (x := .c _) (H) (.tmp rfl .nil) rfl (fun _ _ h => h) (⟨bCe (dF (fun h => by obtain ⟨k1, k2, k3⟩ := h.2.2.2.1 i hi; first | omega | simp_all)), rfl⟩)
          ·
            refine SeqK.on (q_mvC rfl rfl) rfl rfl rfl rfl rfl ?_
            refine SeqK.on (q_gtr rfl rfl rfl) rfl rfl rfl rfl rfl ?_
            refine SeqK.q (q_pkF rfl rfl rfl) rfl rfl rfl ?_
            refine SeqK.qD (q_mvC rfl rfl) rfl rfl rfl (fun g78 => ?_) (fun g78 => ?_)
            ·
              refine SeqK.off rfl rfl rfl rfl rfl rfl ?_
              refine SeqK.off rfl rfl rfl rfl rfl rfl ?_
              refine SeqK.off rfl rfl rfl rfl rfl rfl ?_
              refine SeqK.offU rfl rfl rfl rfl rfl ?_
              refine SeqK.offU rfl rfl rfl rfl rfl ?_
              refine SeqK.off rfl rfl rfl rfl rfl rfl ?_
              refine SeqK.q (q_pkT rfl rfl rfl) rfl rfl rfl ?_
              refine SeqK.nil ?_
              refine AW.condT rfl ?_
              refine AW.seq ?_
              refine AW.reg ?_
              refine SeqK.q (q_asC rfl rfl) rfl rfl rfl ?_
              refine SeqK.nil ?_
              refine AW.ret ?_
              exact fin_x (x := .c _) (H) (.tmp rfl .nil) rfl (fun _ _ h => h) (⟨bCe (dF (fun h => by obtain ⟨k1, k2, k3⟩ := h.2.2.2.1 i hi; first | omega | simp_all)), rfl⟩)
            ·
              refine SeqK.on (q_fieldL _ rfl Fx.fl65_1 rfl rfl) rfl rfl rfl rfl rfl ?_
              refine SeqK.rOn (b_load (r := .a _) rfl Fx.ty4 rfl rfl rfl rfl rfl rfl) rfl rfl rfl ?_
              refine SeqK.onB (q_mvC rfl rfl) rfl rfl rfl rfl rfl (fun g81 => ?_) (fun g81 => ?_)
              ·
                refine SeqK.on (q_mvC rfl rfl) rfl rfl rfl rfl rfl ?_
                refine SeqK.on (q_neq rfl rfl rfl) rfl rfl rfl rfl rfl ?_
                refine SeqK.on (q_pkT rfl rfl rfl) rfl rfl rfl rfl rfl ?_
                refine SeqK.q (q_pkF rfl rfl rfl) rfl rfl rfl ?_
                refine SeqK.nil ?_
                refine AW.condD rfl (fun h85 => ?_) (fun h85 => ?_)
                ·
                  refine AW.seq ?_
                  refine AW.reg ?_
                  refine SeqK.q (q_asC rfl rfl) rfl rfl rfl ?_
                  refine SeqK.nil ?_
                  refine AW.ret ?_
                  exact fin_x (x := .c _) (H) (.tmp rfl .nil) rfl (fun _ _ h => h) (⟨bCe (dF (fun h => by obtain ⟨k1, k2, k3⟩ := h.2.2.2.1 i hi; first | omega | simp_all)), rfl⟩)
                ·
                  refine AW.skip ?_
                  refine AW.reg ?_
                  refine SeqK.q (q_add _ rfl rfl rfl (w64 (by omega) (by omega))) rfl rfl rfl ?_
                  refine SeqK.q (q_mvC rfl rfl) rfl rfl rfl ?_
                  refine SeqK.nil ?_
                  exact ⟨i + 1, _, Wk.keep 193 [(1, .c (rowC z r)), (2, .lp 2 0), (4, .c (bC false)), (9, .c (iL .un (auV r c.ax []).1)), (58, .c (.a (.t (.sl .un 3 (c.is.map ctT))))), (59, iX .i64 (((c.is.map ctT).length : Nat) : Int)), (60, iX .i64 (((i + 1) : Nat) : Int))] [(2, .box [.t (.sl .un 1 (c.nl.map i64T)), .t (.sl .un 1 (c.nn.map i64T)), .t (.sl .un 4 (c.ax.map axT)), .t (.sl .un 3 (c.is.map ctT)), .t (.sl .un 4 (c.ts.map tsT)), .t (.sl .un 2 (c.sm.map prT)), .t (.sl .un 2 (c.df.map prT))])] (H) rfl ⟨rfl, rfl, rfl, rfl, rfl, rfl, rfl, trivial⟩ ⟨rfl, trivial⟩ (fun _ _ h => h) rfl, by omega, ⟨hi, upS hi hU3 (by refine ⟨by simpa using g74, by omega, fun he => ?_⟩; first | omega | (rw [he] at g81; cases g81) | simp_all)⟩, rfl⟩
              ·
                refine SeqK.off rfl rfl rfl rfl rfl rfl ?_
                refine SeqK.off rfl rfl rfl rfl rfl rfl ?_
                refine SeqK.on (q_pkF rfl rfl rfl) rfl rfl rfl rfl rfl ?_
                refine SeqK.q (q_pkF rfl rfl rfl) rfl rfl rfl ?_
                refine SeqK.nil ?_
                refine AW.condF rfl ?_
                refine AW.skip ?_
                refine AW.reg ?_
                refine SeqK.q (q_add _ rfl rfl rfl (w64 (by omega) (by omega))) rfl rfl rfl ?_
                refine SeqK.q (q_mvC rfl rfl) rfl rfl rfl ?_
                refine SeqK.nil ?_
                exact ⟨i + 1, _, Wk.keep 193 [(1, .c (rowC z r)), (2, .lp 2 0), (4, .c (bC false)), (9, .c (iL .un (auV r c.ax []).1)), (58, .c (.a (.t (.sl .un 3 (c.is.map ctT))))), (59, iX .i64 (((c.is.map ctT).length : Nat) : Int)), (60, iX .i64 (((i + 1) : Nat) : Int))] [(2, .box [.t (.sl .un 1 (c.nl.map i64T)), .t (.sl .un 1 (c.nn.map i64T)), .t (.sl .un 4 (c.ax.map axT)), .t (.sl .un 3 (c.is.map ctT)), .t (.sl .un 4 (c.ts.map tsT)), .t (.sl .un 2 (c.sm.map prT)), .t (.sl .un 2 (c.df.map prT))])] (H) rfl ⟨rfl, rfl, rfl, rfl, rfl, rfl, rfl, trivial⟩ ⟨rfl, trivial⟩ (fun _ _ h => h) rfl, by omega, ⟨hi, upS hi hU3 (by refine ⟨by simpa using g74, by omega, fun he => ?_⟩; first | omega | (rw [he] at g81; cases g81) | simp_all)⟩, rfl⟩
        ·
          refine AW.exit ?_
          refine eth_e ?_
          refine eth_e ?_
          refine exit_here ?_
          refine AW.seq ?_
          refine AW.seq ?_
          have hC := upE hU3 (by rw [List.length_map] at h61; omega)
          refine AW.reg ?_
          refine SeqK.q (q_fieldL _ rfl Fx.fl28_4 rfl rfl) rfl rfl rfl ?_
          refine SeqK.r (b_load (r := .a _) rfl Fx.ty25 rfl rfl rfl rfl rfl rfl) rfl ?_
          refine SeqK.q (q_len rfl Fx.un25 rfl) rfl rfl rfl ?_
          refine SeqK.q (q_mvC rfl rfl) rfl rfl rfl ?_
          refine SeqK.nil ?_
          refine AW.block ?_
          refine AW.loop (fun (i : Nat) s => (i ≤ c.ts.length ∧ ∀ j (h : j < c.ts.length), j < i → tsQ r c.ts[j]) ∧ s = ⟨193, sp [(1, .c (rowC z r)), (2, .lp 2 0), (4, .c (bC false)), (88, .c (.a (.t (.sl .un 4 (c.ts.map tsT))))), (89, iX .i64 (((c.ts.map tsT).length : Nat) : Int)), (90, iX .i64 ((i : Nat) : Int))], lv [(2, .box [.t (.sl .un 1 (c.nl.map i64T)), .t (.sl .un 1 (c.nn.map i64T)), .t (.sl .un 4 (c.ax.map axT)), .t (.sl .un 3 (c.is.map ctT)), .t (.sl .un 4 (c.ts.map tsT)), .t (.sl .un 2 (c.sm.map prT)), .t (.sl .un 2 (c.df.map prT))])], H⟩) (fun i => c.ts.length - i) 0 ⟨_, Wk.keep 193 [(1, .c (rowC z r)), (2, .lp 2 0), (4, .c (bC false)), (88, .c (.a (.t (.sl .un 4 (c.ts.map tsT))))), (89, iX .i64 (((c.ts.map tsT).length : Nat) : Int)), (90, iX .i64 ((((0 : Nat)) : Nat) : Int))] [(2, .box [.t (.sl .un 1 (c.nl.map i64T)), .t (.sl .un 1 (c.nn.map i64T)), .t (.sl .un 4 (c.ax.map axT)), .t (.sl .un 3 (c.is.map ctT)), .t (.sl .un 4 (c.ts.map tsT)), .t (.sl .un 2 (c.sm.map prT)), .t (.sl .un 2 (c.df.map prT))])] (H) rfl ⟨rfl, rfl, rfl, rfl, rfl, rfl, trivial⟩ ⟨rfl, trivial⟩ (fun _ _ h => h) rfl, ⟨Nat.zero_le _, up0⟩, rfl⟩ (fun i s hs => ?_)
          obtain ⟨⟨hi0, hU4⟩, rfl⟩ := hs
          refine AW.seq ?_
          refine AW.reg ?_
          refine SeqK.q (q_lss rfl rfl rfl) rfl rfl rfl ?_
          refine SeqK.nil ?_
          refine AW.seq ?_
          refine AW.condD rfl (fun h91 => ?_) (fun h91 => ?_)
          ·
            have hi : i < c.ts.length := by rw [List.length_map] at h91; omega
            have h0 := hok.ts i hi
            have ht : (c.ts[i].v).toNat < r.length := by omega
            have ha := at_get ht
            refine AW.skip ?_
            refine AW.seq ?_
            refine AW.block ?_
            refine AW.seq ?_
            refine AW.reg ?_
            refine SeqK.q (q_index _ rfl Fx.sl25 rfl rfl (by omega) (idx_map (f := tsT) hi)) rfl rfl rfl ?_
            refine SeqK.q (q_load (.g [_, _, _, _]) rfl Fx.ty44 rfl rfl rfl) rfl rfl rfl ?_
            refine SeqK.r (b_alloc (r := [_, _, _, _]) rfl rfl Fx.ze44 rfl rfl rfl rfl) rfl ?_
            refine SeqK.r (b_store (r := [_, _, _, _]) rfl rfl Fx.ty44 rfl rfl rfl rfl rfl rfl) rfl ?_
            refine SeqK.nil ?_
            refine AW.seq ?_
            refine AW.draw Fx.mo ?_
            refine LexK.q (q_mvC rfl rfl) rfl rfl rfl ?_
            refine LexK.q (q_fieldL _ rfl Fx.fl44_0 rfl rfl) rfl rfl rfl ?_
            refine LexK.r (b_load (r := .a _) rfl Fx.ty3 rfl rfl rfl rfl rfl rfl) rfl ?_
            refine LexK.q (q_index _ rfl Fx.sl57 rfl rfl (by omega) (idx_map (f := rvT) ht)) rfl rfl rfl ?_
            refine LexK.q (q_fieldP _ rfl Fx.fl55_0 rfl rfl) rfl rfl rfl ?_
            refine LexK.q (q_load (.a _) rfl Fx.ty3 rfl rfl rfl) rfl rfl rfl ?_
            refine LexK.q (q_neq rfl rfl rfl) rfl rfl rfl ?_
            refine LexK.qD (q_mvC rfl rfl) rfl rfl rfl (fun g101 => ?_) (fun g101 => ?_)
            ·
              refine LexK.off rfl rfl rfl rfl rfl rfl ?_
              refine LexK.off rfl rfl rfl rfl rfl rfl ?_
              refine LexK.off rfl rfl rfl rfl rfl rfl ?_
              refine LexK.off rfl rfl rfl rfl rfl rfl ?_
              refine LexK.off rfl rfl rfl rfl rfl rfl ?_
              refine LexK.off rfl rfl rfl rfl rfl rfl ?_
              refine LexK.off rfl rfl rfl rfl rfl rfl ?_
              refine LexK.off rfl rfl rfl rfl rfl rfl ?_
              refine LexK.off rfl rfl rfl rfl rfl rfl ?_
              refine LexK.off rfl rfl rfl rfl rfl rfl ?_
              refine LexK.off rfl rfl rfl rfl rfl rfl ?_
              refine LexK.q (q_pkT rfl rfl rfl) rfl rfl rfl ?_
              refine LexK.nil (by kernel_rfl) ?_
              refine AW.condT rfl ?_
              refine AW.seq ?_
              refine AW.reg ?_
              refine SeqK.q (q_asC rfl rfl) rfl rfl rfl ?_
              refine SeqK.nil ?_
              refine AW.ret ?_
              exact fin_x (x := .c _) (H) (.tmp rfl .nil) rfl (fun _ _ h => h) (⟨bCe (dF (fun h => by obtain ⟨k1, k2⟩ := h.2.2.2.2.1 i hi; rw [ha] at k1 k2; first | omega | simp_all)), rfl⟩)
            ·
              refine LexK.rOn (b_load (r := .g [_, _, _, _]) rfl Fx.ty44 rfl rfl rfl rfl rfl rfl) rfl rfl rfl ?_
              refine LexK.on (q_mvC rfl rfl) rfl rfl rfl rfl rfl ?_
              refine LexK.on (q_fieldL _ rfl Fx.fl44_0 rfl rfl) rfl rfl rfl rfl rfl ?_
              refine LexK.rOn (b_load (r := .a _) rfl Fx.ty3 rfl rfl rfl rfl rfl rfl) rfl rfl rfl ?_
              refine LexK.on (q_index _ rfl Fx.sl57 rfl rfl (by omega) (idx_map (f := rvT) ht)) rfl rfl rfl rfl rfl ?_
              refine LexK.on (q_fieldP _ rfl Fx.fl55_2 rfl rfl) rfl rfl rfl rfl rfl ?_
              refine LexK.on (q_load (.a _) rfl Fx.ty9 rfl rfl rfl) rfl rfl rfl rfl rfl ?_
              refine LexK.on (q_call _ rfl Fx.fn35 rfl (hps _ (List.getElem_mem hi) _ (hs _ (List.getElem_mem _))) rfl) rfl rfl rfl rfl rfl ?_
              refine LexK.on (q_fieldL _ rfl Fx.fl44_2 rfl rfl) rfl rfl rfl rfl rfl ?_
              refine LexK.rOn (b_load (r := .a _) rfl Fx.ty4 rfl rfl rfl rfl rfl rfl) rfl rfl rfl ?_
              refine LexK.on (q_eqlB rfl Fx.un4 rfl rfl) rfl rfl rfl rfl rfl ?_
              refine LexK.q (q_pkF rfl rfl rfl) rfl rfl rfl ?_
              refine LexK.nil (by kernel_rfl) ?_
              refine AW.condD rfl (fun h113 => ?_) (fun h113 => ?_)
              ·
                refine AW.seq ?_
                refine AW.reg ?_
                refine SeqK.q (q_asC rfl rfl) rfl rfl rfl ?_
                refine SeqK.nil ?_
                refine AW.ret ?_
                exact fin_x (x := .c _) (H) (.tmp rfl .nil) rfl (fun _ _ h => h) (⟨bCe (dF (fun h => by obtain ⟨k1, k2⟩ := h.2.2.2.2.1 i hi; rw [ha] at k1 k2; first | omega | simp_all)), rfl⟩)
              ·
                refine AW.skip ?_
                refine AW.reg ?_
                refine SeqK.q (q_add _ rfl rfl rfl (w64 (by omega) (by omega))) rfl rfl rfl ?_
                refine SeqK.q (q_mvC rfl rfl) rfl rfl rfl ?_
                refine SeqK.nil ?_
                exact ⟨i + 1, _, Wk.keep 193 [(1, .c (rowC z r)), (2, .lp 2 0), (4, .c (bC false)), (88, .c (.a (.t (.sl .un 4 (c.ts.map tsT))))), (89, iX .i64 (((c.ts.map tsT).length : Nat) : Int)), (90, iX .i64 (((i + 1) : Nat) : Int))] [(2, .box [.t (.sl .un 1 (c.nl.map i64T)), .t (.sl .un 1 (c.nn.map i64T)), .t (.sl .un 4 (c.ax.map axT)), .t (.sl .un 3 (c.is.map ctT)), .t (.sl .un 4 (c.ts.map tsT)), .t (.sl .un 2 (c.sm.map prT)), .t (.sl .un 2 (c.df.map prT))])] (H) rfl ⟨rfl, rfl, rfl, rfl, rfl, rfl, trivial⟩ ⟨rfl, trivial⟩ (fun _ _ h => h) rfl, by omega, ⟨hi, upS hi hU4 (⟨by rw [ha]; omega, by rw [ha]; simp_all⟩)⟩, rfl⟩
          ·
            refine AW.exit ?_
            refine eth_e ?_
            refine eth_e ?_
            refine exit_here ?_
            refine AW.seq ?_
            refine AW.seq ?_
            have hD := upE hU4 (by rw [List.length_map] at h91; omega)
            refine AW.reg ?_
            refine SeqK.q (q_fieldL _ rfl Fx.fl28_5 rfl rfl) rfl rfl rfl ?_
            refine SeqK.r (b_load (r := .a _) rfl Fx.ty26 rfl rfl rfl rfl rfl rfl) rfl ?_
            refine SeqK.q (q_len rfl Fx.un26 rfl) rfl rfl rfl ?_
            refine SeqK.q (q_mvC rfl rfl) rfl rfl rfl ?_
            refine SeqK.nil ?_
            refine AW.block ?_
            refine AW.loop (fun (i : Nat) s => (i ≤ c.sm.length ∧ ∀ j (h : j < c.sm.length), j < i → smQ r c.sm[j]) ∧ s = ⟨193, sp [(1, .c (rowC z r)), (2, .lp 2 0), (4, .c (bC false)), (116, .c (.a (.t (.sl .un 2 (c.sm.map prT))))), (117, iX .i64 (((c.sm.map prT).length : Nat) : Int)), (118, iX .i64 ((i : Nat) : Int))], lv [(2, .box [.t (.sl .un 1 (c.nl.map i64T)), .t (.sl .un 1 (c.nn.map i64T)), .t (.sl .un 4 (c.ax.map axT)), .t (.sl .un 3 (c.is.map ctT)), .t (.sl .un 4 (c.ts.map tsT)), .t (.sl .un 2 (c.sm.map prT)), .t (.sl .un 2 (c.df.map prT))])], H⟩) (fun i => c.sm.length - i) 0 ⟨_, Wk.keep 193 [(1, .c (rowC z r)), (2, .lp 2 0), (4, .c (bC false)), (116, .c (.a (.t (.sl .un 2 (c.sm.map prT))))), (117, iX .i64 (((c.sm.map prT).length : Nat) : Int)), (118, iX .i64 ((((0 : Nat)) : Nat) : Int))] [(2, .box [.t (.sl .un 1 (c.nl.map i64T)), .t (.sl .un 1 (c.nn.map i64T)), .t (.sl .un 4 (c.ax.map axT)), .t (.sl .un 3 (c.is.map ctT)), .t (.sl .un 4 (c.ts.map tsT)), .t (.sl .un 2 (c.sm.map prT)), .t (.sl .un 2 (c.df.map prT))])] (H) rfl ⟨rfl, rfl, rfl, rfl, rfl, rfl, trivial⟩ ⟨rfl, trivial⟩ (fun _ _ h => h) rfl, ⟨Nat.zero_le _, up0⟩, rfl⟩ (fun i s hs => ?_)
            obtain ⟨⟨hi0, hU5⟩, rfl⟩ := hs
            refine AW.seq ?_
            refine AW.reg ?_
            refine SeqK.q (q_lss rfl rfl rfl) rfl rfl rfl ?_
            refine SeqK.nil ?_
            refine AW.seq ?_
            refine AW.condD rfl (fun h119 => ?_) (fun h119 => ?_)
            ·
              have hi : i < c.sm.length := by rw [List.length_map] at h119; omega
              have h0 := (hok.sm i hi).1
              have ht : (c.sm[i].1).toNat < r.length := by omega
              have ha := at_get ht
              have h02 := (hok.sm i hi).2
              have ht2 : (c.sm[i].2).toNat < r.length := by omega
              have ha2 := at_get ht2
              refine AW.skip ?_
              refine AW.seq ?_
              refine AW.block ?_
              refine AW.seq ?_
              refine AW.reg ?_
              refine SeqK.q (q_index _ rfl Fx.sl26 rfl rfl (by omega) (idx_map (f := prT) hi)) rfl rfl rfl ?_
              refine SeqK.q (q_load (.g [_, _]) rfl Fx.ty80 rfl rfl rfl) rfl rfl rfl ?_
              refine SeqK.r (b_alloc (r := [_, _]) rfl rfl Fx.ze80 rfl rfl rfl rfl) rfl ?_
              refine SeqK.r (b_store (r := [_, _]) rfl rfl Fx.ty80 rfl rfl rfl rfl rfl rfl) rfl ?_
              refine SeqK.nil ?_
              refine AW.seq ?_
              refine AW.draw Fx.mo ?_
              refine LexK.q (q_mvC rfl rfl) rfl rfl rfl ?_
              refine LexK.q (q_indexL _ rfl Fx.ar80 rfl rfl (by omega) (by omega) rfl) rfl rfl rfl ?_
              refine LexK.r (b_load (r := .a _) rfl Fx.ty3 rfl rfl rfl rfl rfl rfl) rfl ?_
              refine LexK.q (q_index _ rfl Fx.sl57 rfl rfl (by omega) (idx_map (f := rvT) ht)) rfl rfl rfl ?_
              refine LexK.q (q_fieldP _ rfl Fx.fl55_0 rfl rfl) rfl rfl rfl ?_
              refine LexK.q (q_load (.a _) rfl Fx.ty3 rfl rfl rfl) rfl rfl rfl ?_
              refine LexK.q (q_neq rfl rfl rfl) rfl rfl rfl ?_
              refine LexK.qD (q_mvC rfl rfl) rfl rfl rfl (fun g129 => ?_) (fun g129 => ?_)
              ·
                refine LexK.off rfl rfl rfl rfl rfl rfl ?_
                refine LexK.off rfl rfl rfl rfl rfl rfl ?_
                refine LexK.off rfl rfl rfl rfl rfl rfl ?_
                refine LexK.off rfl rfl rfl rfl rfl rfl ?_
                refine LexK.off rfl rfl rfl rfl rfl rfl ?_
                refine LexK.off rfl rfl rfl rfl rfl rfl ?_
                refine LexK.off rfl rfl rfl rfl rfl rfl ?_
                refine LexK.q (q_pkT rfl rfl rfl) rfl rfl rfl ?_
                refine LexK.q (q_mvC rfl rfl) rfl rfl rfl ?_
                refine LexK.off rfl rfl rfl rfl rfl rfl ?_
                refine LexK.off rfl rfl rfl rfl rfl rfl ?_
                refine LexK.off rfl rfl rfl rfl rfl rfl ?_
                refine LexK.off rfl rfl rfl rfl rfl rfl ?_
                refine LexK.off rfl rfl rfl rfl rfl rfl ?_
                refine LexK.off rfl rfl rfl rfl rfl rfl ?_
                refine LexK.off rfl rfl rfl rfl rfl rfl ?_
                refine LexK.off rfl rfl rfl rfl rfl rfl ?_
                refine LexK.off rfl rfl rfl rfl rfl rfl ?_
                refine LexK.off rfl rfl rfl rfl rfl rfl ?_
                refine LexK.off rfl rfl rfl rfl rfl rfl ?_
                refine LexK.off rfl rfl rfl rfl rfl rfl ?_
                refine LexK.off rfl rfl rfl rfl rfl rfl ?_
                refine LexK.q (q_pkT rfl rfl rfl) rfl rfl rfl ?_
                refine LexK.nil (by kernel_rfl) ?_
                refine AW.condT rfl ?_
                refine AW.seq ?_
                refine AW.reg ?_
                refine SeqK.q (q_asC rfl rfl) rfl rfl rfl ?_
                refine SeqK.nil ?_
                refine AW.ret ?_
                exact fin_x (x := .c _) (H) (.tmp rfl .nil) rfl (fun _ _ h => h) (⟨bCe (dF (fun h => by obtain ⟨k1, k2, k3⟩ := h.2.2.2.2.2.1 i hi; rw [ha] at k1; rw [ha2] at k2; rw [ha, ha2] at k3; first | omega | simp_all)), rfl⟩)
              ·
                refine LexK.on (q_mvC rfl rfl) rfl rfl rfl rfl rfl ?_
                refine LexK.on (q_indexL _ rfl Fx.ar80 rfl rfl (by omega) (by omega) rfl) rfl rfl rfl rfl rfl ?_
                refine LexK.rOn (b_load (r := .a _) rfl Fx.ty3 rfl rfl rfl rfl rfl rfl) rfl rfl rfl ?_
                refine LexK.on (q_index _ rfl Fx.sl57 rfl rfl (by omega) (idx_map (f := rvT) ht2)) rfl rfl rfl rfl rfl ?_
                refine LexK.on (q_fieldP _ rfl Fx.fl55_0 rfl rfl) rfl rfl rfl rfl rfl ?_
                refine LexK.on (q_load (.a _) rfl Fx.ty3 rfl rfl rfl) rfl rfl rfl rfl rfl ?_
                refine LexK.on (q_neq rfl rfl rfl) rfl rfl rfl rfl rfl ?_
                refine LexK.q (q_pkF rfl rfl rfl) rfl rfl rfl ?_
                refine LexK.qD (q_mvC rfl rfl) rfl rfl rfl (fun g138 => ?_) (fun g138 => ?_)
                ·
                  refine LexK.off rfl rfl rfl rfl rfl rfl ?_
                  refine LexK.off rfl rfl rfl rfl rfl rfl ?_
                  refine LexK.off rfl rfl rfl rfl rfl rfl ?_
                  refine LexK.off rfl rfl rfl rfl rfl rfl ?_
                  refine LexK.off rfl rfl rfl rfl rfl rfl ?_
                  refine LexK.off rfl rfl rfl rfl rfl rfl ?_
                  refine LexK.off rfl rfl rfl rfl rfl rfl ?_
                  refine LexK.off rfl rfl rfl rfl rfl rfl ?_
                  refine LexK.off rfl rfl rfl rfl rfl rfl ?_
                  refine LexK.off rfl rfl rfl rfl rfl rfl ?_
                  refine LexK.off rfl rfl rfl rfl rfl rfl ?_
                  refine LexK.off rfl rfl rfl rfl rfl rfl ?_
                  refine LexK.off rfl rfl rfl rfl rfl rfl ?_
                  refine LexK.q (q_pkT rfl rfl rfl) rfl rfl rfl ?_
                  refine LexK.nil (by kernel_rfl) ?_
                  refine AW.condT rfl ?_
                  refine AW.seq ?_
                  refine AW.reg ?_
                  refine SeqK.q (q_asC rfl rfl) rfl rfl rfl ?_
                  refine SeqK.nil ?_
                  refine AW.ret ?_
                  exact fin_x (x := .c _) (H) (.tmp rfl .nil) rfl (fun _ _ h => h) (⟨bCe (dF (fun h => by obtain ⟨k1, k2, k3⟩ := h.2.2.2.2.2.1 i hi; rw [ha] at k1; rw [ha2] at k2; rw [ha, ha2] at k3; first | omega | simp_all)), rfl⟩)
                ·
                  refine LexK.on (q_mvC rfl rfl) rfl rfl rfl rfl rfl ?_
                  refine LexK.on (q_indexL _ rfl Fx.ar80 rfl rfl (by omega) (by omega) rfl) rfl rfl rfl rfl rfl ?_
                  refine LexK.rOn (b_load (r := .a _) rfl Fx.ty3 rfl rfl rfl rfl rfl rfl) rfl rfl rfl ?_
                  refine LexK.on (q_index _ rfl Fx.sl57 rfl rfl (by omega) (idx_map (f := rvT) ht)) rfl rfl rfl rfl rfl ?_
                  refine LexK.on (q_fieldP _ rfl Fx.fl55_2 rfl rfl) rfl rfl rfl rfl rfl ?_
                  refine LexK.on (q_load (.a _) rfl Fx.ty9 rfl rfl rfl) rfl rfl rfl rfl rfl ?_
                  refine LexK.on (q_mvC rfl rfl) rfl rfl rfl rfl rfl ?_
                  refine LexK.on (q_indexL _ rfl Fx.ar80 rfl rfl (by omega) (by omega) rfl) rfl rfl rfl rfl rfl ?_
                  refine LexK.rOn (b_load (r := .a _) rfl Fx.ty3 rfl rfl rfl rfl rfl rfl) rfl rfl rfl ?_
                  refine LexK.on (q_index _ rfl Fx.sl57 rfl rfl (by omega) (idx_map (f := rvT) ht2)) rfl rfl rfl rfl rfl ?_
                  refine LexK.on (q_fieldP _ rfl Fx.fl55_2 rfl rfl) rfl rfl rfl rfl rfl ?_
                  refine LexK.on (q_load (.a _) rfl Fx.ty9 rfl rfl rfl) rfl rfl rfl rfl rfl ?_
                  refine LexK.on (q_neqS rfl rfl rfl) rfl rfl rfl rfl rfl ?_
                  refine LexK.q (q_pkF rfl rfl rfl) rfl rfl rfl ?_
                  refine LexK.nil (by kernel_rfl) ?_
                  refine AW.condD rfl (fun h152 => ?_) (fun h152 => ?_)
                  ·
                    refine AW.seq ?_
                    refine AW.reg ?_
                    refine SeqK.q (q_asC rfl rfl) rfl rfl rfl ?_
                    refine SeqK.nil ?_
                    refine AW.ret ?_
                    exact fin_x (x := .c _) (H) (.tmp rfl .nil) rfl (fun _ _ h => h) (⟨bCe (dF (fun h => by obtain ⟨k1, k2, k3⟩ := h.2.2.2.2.2.1 i hi; rw [ha] at k1; rw [ha2] at k2; rw [ha, ha2] at k3; first | omega | simp_all)), rfl⟩)
                  ·
                    refine AW.skip ?_
                    refine AW.reg ?_
                    refine SeqK.q (q_add _ rfl rfl rfl (w64 (by omega) (by omega))) rfl rfl rfl ?_
                    refine SeqK.q (q_mvC rfl rfl) rfl rfl rfl ?_
                    refine SeqK.nil ?_
                    exact ⟨i + 1, _, Wk.keep 193 [(1, .c (rowC z r)), (2, .lp 2 0), (4, .c (bC false)), (116, .c (.a (.t (.sl .un 2 (c.sm.map prT))))), (117, iX .i64 (((c.sm.map prT).length : Nat) : Int)), (118, iX .i64 (((i + 1) : Nat) : Int))] [(2, .box [.t (.sl .un 1 (c.nl.map i64T)), .t (.sl .un 1 (c.nn.map i64T)), .t (.sl .un 4 (c.ax.map axT)), .t (.sl .un 3 (c.is.map ctT)), .t (.sl .un 4 (c.ts.map tsT)), .t (.sl .un 2 (c.sm.map prT)), .t (.sl .un 2 (c.df.map prT))])] (H) rfl ⟨rfl, rfl, rfl, rfl, rfl, rfl, trivial⟩ ⟨rfl, trivial⟩ (fun _ _ h => h) rfl, by omega, ⟨hi, upS hi hU5 (⟨by rw [ha]; omega, by rw [ha2]; omega, by rw [ha, ha2]; simp_all⟩)⟩, rfl⟩
            ·
              refine AW.exit ?_
              refine eth_e ?_
              refine eth_e ?_
              refine exit_here ?_
              refine AW.seq ?_
              refine AW.seq ?_
              have hE := upE hU5 (by rw [List.length_map] at h119; omega)
              refine AW.reg ?_
              refine SeqK.q (q_fieldL _ rfl Fx.fl28_6 rfl rfl) rfl rfl rfl ?_
              refine SeqK.r (b_load (r := .a _) rfl Fx.ty26 rfl rfl rfl rfl rfl rfl) rfl ?_
              refine SeqK.q (q_len rfl Fx.un26 rfl) rfl rfl rfl ?_
              refine SeqK.q (q_mvC rfl rfl) rfl rfl rfl ?_
              refine SeqK.nil ?_
              refine AW.block ?_
              refine AW.loop (fun (i : Nat) s => (i ≤ c.df.length ∧ ∀ j (h : j < c.df.length), j < i → dfQ r c.df[j]) ∧ s = ⟨193, sp [(1, .c (rowC z r)), (2, .lp 2 0), (4, .c (bC false)), (155, .c (.a (.t (.sl .un 2 (c.df.map prT))))), (156, iX .i64 (((c.df.map prT).length : Nat) : Int)), (157, iX .i64 ((i : Nat) : Int))], lv [(2, .box [.t (.sl .un 1 (c.nl.map i64T)), .t (.sl .un 1 (c.nn.map i64T)), .t (.sl .un 4 (c.ax.map axT)), .t (.sl .un 3 (c.is.map ctT)), .t (.sl .un 4 (c.ts.map tsT)), .t (.sl .un 2 (c.sm.map prT)), .t (.sl .un 2 (c.df.map prT))])], H⟩) (fun i => c.df.length - i) 0 ⟨_, Wk.keep 193 [(1, .c (rowC z r)), (2, .lp 2 0), (4, .c (bC false)), (155, .c (.a (.t (.sl .un 2 (c.df.map prT))))), (156, iX .i64 (((c.df.map prT).length : Nat) : Int)), (157, iX .i64 ((((0 : Nat)) : Nat) : Int))] [(2, .box [.t (.sl .un 1 (c.nl.map i64T)), .t (.sl .un 1 (c.nn.map i64T)), .t (.sl .un 4 (c.ax.map axT)), .t (.sl .un 3 (c.is.map ctT)), .t (.sl .un 4 (c.ts.map tsT)), .t (.sl .un 2 (c.sm.map prT)), .t (.sl .un 2 (c.df.map prT))])] (H) rfl ⟨rfl, rfl, rfl, rfl, rfl, rfl, trivial⟩ ⟨rfl, trivial⟩ (fun _ _ h => h) rfl, ⟨Nat.zero_le _, up0⟩, rfl⟩ (fun i s hs => ?_)
              obtain ⟨⟨hi0, hU6⟩, rfl⟩ := hs
              refine AW.seq ?_
              refine AW.reg ?_
              refine SeqK.q (q_lss rfl rfl rfl) rfl rfl rfl ?_
              refine SeqK.nil ?_
              refine AW.seq ?_
              refine AW.condD rfl (fun h158 => ?_) (fun h158 => ?_)
              ·
                have hi : i < c.df.length := by rw [List.length_map] at h158; omega
                have h0 := (hok.df i hi).1
                have ht : (c.df[i].1).toNat < r.length := by omega
                have ha := at_get ht
                have h02 := (hok.df i hi).2
                have ht2 : (c.df[i].2).toNat < r.length := by omega
                have ha2 := at_get ht2
                refine AW.skip ?_
                refine AW.seq ?_
                refine AW.block ?_
                refine AW.seq ?_
                refine AW.reg ?_
                refine SeqK.q (q_index _ rfl Fx.sl26 rfl rfl (by omega) (idx_map (f := prT) hi)) rfl rfl rfl ?_
                refine SeqK.q (q_load (.g [_, _]) rfl Fx.ty80 rfl rfl rfl) rfl rfl rfl ?_
                refine SeqK.r (b_alloc (r := [_, _]) rfl rfl Fx.ze80 rfl rfl rfl rfl) rfl ?_
                refine SeqK.r (b_store (r := [_, _]) rfl rfl Fx.ty80 rfl rfl rfl rfl rfl rfl) rfl ?_
                refine SeqK.nil ?_
                refine AW.seq ?_
                refine AW.draw Fx.mo ?_
                refine LexK.q (q_mvC rfl rfl) rfl rfl rfl ?_
                refine LexK.q (q_indexL _ rfl Fx.ar80 rfl rfl (by omega) (by omega) rfl) rfl rfl rfl ?_
                refine LexK.r (b_load (r := .a _) rfl Fx.ty3 rfl rfl rfl rfl rfl rfl) rfl ?_
                refine LexK.q (q_index _ rfl Fx.sl57 rfl rfl (by omega) (idx_map (f := rvT) ht)) rfl rfl rfl ?_
                refine LexK.q (q_fieldP _ rfl Fx.fl55_0 rfl rfl) rfl rfl rfl ?_
                refine LexK.q (q_load (.a _) rfl Fx.ty3 rfl rfl rfl) rfl rfl rfl ?_
                refine LexK.q (q_neq rfl rfl rfl) rfl rfl rfl ?_
                refine LexK.qD (q_mvC rfl rfl) rfl rfl rfl (fun g168 => ?_) (fun g168 => ?_)
                ·
                  refine LexK.off rfl rfl rfl rfl rfl rfl ?_
                  refine LexK.off rfl rfl rfl rfl rfl rfl ?_
                  refine LexK.off rfl rfl rfl rfl rfl rfl ?_
                  refine LexK.off rfl rfl rfl rfl rfl rfl ?_
                  refine LexK.off rfl rfl rfl rfl rfl rfl ?_
                  refine LexK.off rfl rfl rfl rfl rfl rfl ?_
                  refine LexK.off rfl rfl rfl rfl rfl rfl ?_
                  refine LexK.q (q_pkT rfl rfl rfl) rfl rfl rfl ?_
                  refine LexK.q (q_mvC rfl rfl) rfl rfl rfl ?_
                  refine LexK.off rfl rfl rfl rfl rfl rfl ?_
                  refine LexK.off rfl rfl rfl rfl rfl rfl ?_
                  refine LexK.off rfl rfl rfl rfl rfl rfl ?_
                  refine LexK.off rfl rfl rfl rfl rfl rfl ?_
                  refine LexK.off rfl rfl rfl rfl rfl rfl ?_
                  refine LexK.off rfl rfl rfl rfl rfl rfl ?_
                  refine LexK.off rfl rfl rfl rfl rfl rfl ?_
                  refine LexK.off rfl rfl rfl rfl rfl rfl ?_
                  refine LexK.off rfl rfl rfl rfl rfl rfl ?_
                  refine LexK.off rfl rfl rfl rfl rfl rfl ?_
                  refine LexK.off rfl rfl rfl rfl rfl rfl ?_
                  refine LexK.off rfl rfl rfl rfl rfl rfl ?_
                  refine LexK.off rfl rfl rfl rfl rfl rfl ?_
                  refine LexK.q (q_pkT rfl rfl rfl) rfl rfl rfl ?_
                  refine LexK.nil (by kernel_rfl) ?_
                  refine AW.condT rfl ?_
                  refine AW.seq ?_
                  refine AW.reg ?_
                  refine SeqK.q (q_asC rfl rfl) rfl rfl rfl ?_
                  refine SeqK.nil ?_
                  refine AW.ret ?_
                  exact fin_x (x := .c _) (H) (.tmp rfl .nil) rfl (fun _ _ h => h) (⟨bCe (dF (fun h => by obtain ⟨k1, k2, k3⟩ := h.2.2.2.2.2.2 i hi; rw [ha] at k1; rw [ha2] at k2; rw [ha, ha2] at k3; first | omega | simp_all)), rfl⟩)
                ·
                  refine LexK.on (q_mvC rfl rfl) rfl rfl rfl rfl rfl ?_
                  refine LexK.on (q_indexL _ rfl Fx.ar80 rfl rfl (by omega) (by omega) rfl) rfl rfl rfl rfl rfl ?_
                  refine LexK.rOn (b_load (r := .a _) rfl Fx.ty3 rfl rfl rfl rfl rfl rfl) rfl rfl rfl ?_
                  refine LexK.on (q_index _ rfl Fx.sl57 rfl rfl (by omega) (idx_map (f := rvT) ht2)) rfl rfl rfl rfl rfl ?_
                  refine LexK.on (q_fieldP _ rfl Fx.fl55_0 rfl rfl) rfl rfl rfl rfl rfl ?_
                  refine LexK.on (q_load (.a _) rfl Fx.ty3 rfl rfl rfl) rfl rfl rfl rfl rfl ?_
                  refine LexK.on (q_neq rfl rfl rfl) rfl rfl rfl rfl rfl ?_
                  refine LexK.q (q_pkF rfl rfl rfl) rfl rfl rfl ?_
                  refine LexK.qD (q_mvC rfl rfl) rfl rfl rfl (fun g177 => ?_) (fun g177 => ?_)
                  ·
                    refine LexK.off rfl rfl rfl rfl rfl rfl ?_
                    refine LexK.off rfl rfl rfl rfl rfl rfl ?_
                    refine LexK.off rfl rfl rfl rfl rfl rfl ?_
                    refine LexK.off rfl rfl rfl rfl rfl rfl ?_
                    refine LexK.off rfl rfl rfl rfl rfl rfl ?_
                    refine LexK.off rfl rfl rfl rfl rfl rfl ?_
                    refine LexK.off rfl rfl rfl rfl rfl rfl ?_
                    refine LexK.off rfl rfl rfl rfl rfl rfl ?_
                    refine LexK.off rfl rfl rfl rfl rfl rfl ?_
                    refine LexK.off rfl rfl rfl rfl rfl rfl ?_
                    refine LexK.off rfl rfl rfl rfl rfl rfl ?_
                    refine LexK.off rfl rfl rfl rfl rfl rfl ?_
                    refine LexK.off rfl rfl rfl rfl rfl rfl ?_
                    refine LexK.q (q_pkT rfl rfl rfl) rfl rfl rfl ?_
                    refine LexK.nil (by kernel_rfl) ?_
                    refine AW.condT rfl ?_
                    refine AW.seq ?_
                    refine AW.reg ?_
                    refine SeqK.q (q_asC rfl rfl) rfl rfl rfl ?_
                    refine SeqK.nil ?_
                    refine AW.ret ?_
                    exact fin_x (x := .c _) (H) (.tmp rfl .nil) rfl (fun _ _ h => h) (⟨bCe (dF (fun h => by obtain ⟨k1, k2, k3⟩ := h.2.2.2.2.2.2 i hi; rw [ha] at k1; rw [ha2] at k2; rw [ha, ha2] at k3; first | omega | simp_all)), rfl⟩)
                  ·
                    refine LexK.on (q_mvC rfl rfl) rfl rfl rfl rfl rfl ?_
                    refine LexK.on (q_indexL _ rfl Fx.ar80 rfl rfl (by omega) (by omega) rfl) rfl rfl rfl rfl rfl ?_
                    refine LexK.rOn (b_load (r := .a _) rfl Fx.ty3 rfl rfl rfl rfl rfl rfl) rfl rfl rfl ?_
                    refine LexK.on (q_index _ rfl Fx.sl57 rfl rfl (by omega) (idx_map (f := rvT) ht)) rfl rfl rfl rfl rfl ?_
                    refine LexK.on (q_fieldP _ rfl Fx.fl55_2 rfl rfl) rfl rfl rfl rfl rfl ?_
                    refine LexK.on (q_load (.a _) rfl Fx.ty9 rfl rfl rfl) rfl rfl rfl rfl rfl ?_
                    refine LexK.on (q_mvC rfl rfl) rfl rfl rfl rfl rfl ?_
                    refine LexK.on (q_indexL _ rfl Fx.ar80 rfl rfl (by omega) (by omega) rfl) rfl rfl rfl rfl rfl ?_
                    refine LexK.rOn (b_load (r := .a _) rfl Fx.ty3 rfl rfl rfl rfl rfl rfl) rfl rfl rfl ?_
                    refine LexK.on (q_index _ rfl Fx.sl57 rfl rfl (by omega) (idx_map (f := rvT) ht2)) rfl rfl rfl rfl rfl ?_
                    refine LexK.on (q_fieldP _ rfl Fx.fl55_2 rfl rfl) rfl rfl rfl rfl rfl ?_
                    refine LexK.on (q_load (.a _) rfl Fx.ty9 rfl rfl rfl) rfl rfl rfl rfl rfl ?_
                    refine LexK.on (q_eqlS rfl rfl rfl) rfl rfl rfl rfl rfl ?_
                    refine LexK.q (q_pkF rfl rfl rfl) rfl rfl rfl ?_
                    refine LexK.nil (by kernel_rfl) ?_
                    refine AW.condD rfl (fun h191 => ?_) (fun h191 => ?_)
                    ·
                      refine AW.seq ?_
                      refine AW.reg ?_
                      refine SeqK.q (q_asC rfl rfl) rfl rfl rfl ?_
                      refine SeqK.nil ?_
                      refine AW.ret ?_
                      exact fin_x (x := .c _) (H) (.tmp rfl .nil) rfl (fun _ _ h => h) (⟨bCe (dF (fun h => by obtain ⟨k1, k2, k3⟩ := h.2.2.2.2.2.2 i hi; rw [ha] at k1; rw [ha2] at k2; rw [ha, ha2] at k3; first | omega | simp_all)), rfl⟩)
                    ·
                      refine AW.skip ?_
                      refine AW.reg ?_
                      refine SeqK.q (q_add _ rfl rfl rfl (w64 (by omega) (by omega))) rfl rfl rfl ?_
                      refine SeqK.q (q_mvC rfl rfl) rfl rfl rfl ?_
                      refine SeqK.nil ?_
                      exact ⟨i + 1, _, Wk.keep 193 [(1, .c (rowC z r)), (2, .lp 2 0), (4, .c (bC false)), (155, .c (.a (.t (.sl .un 2 (c.df.map prT))))), (156, iX .i64 (((c.df.map prT).length : Nat) : Int)), (157, iX .i64 (((i + 1) : Nat) : Int))] [(2, .box [.t (.sl .un 1 (c.nl.map i64T)), .t (.sl .un 1 (c.nn.map i64T)), .t (.sl .un 4 (c.ax.map axT)), .t (.sl .un 3 (c.is.map ctT)), .t (.sl .un 4 (c.ts.map tsT)), .t (.sl .un 2 (c.sm.map prT)), .t (.sl .un 2 (c.df.map prT))])] (H) rfl ⟨rfl, rfl, rfl, rfl, rfl, rfl, trivial⟩ ⟨rfl, trivial⟩ (fun _ _ h => h) rfl, by omega, ⟨hi, upS hi hU6 (⟨by rw [ha]; omega, by rw [ha2]; omega, by rw [ha, ha2]; simp_all⟩)⟩, rfl⟩
              ·
                refine AW.exit ?_
                refine eth_e ?_
                refine eth_e ?_
                refine exit_here ?_
                refine AW.seq ?_
                have hF := upE hU6 (by rw [List.length_map] at h158; omega)
                refine AW.reg ?_
                refine SeqK.q (q_asC rfl rfl) rfl rfl rfl ?_
                refine SeqK.nil ?_
                refine AW.ret ?_
                exact fin_x (x := .c _) (H) (.tmp rfl .nil) rfl (fun _ _ h => h) (⟨bCe (dT ⟨hA, hB, hau, hC, hD, hE, hF⟩), rfl⟩)

end Go.Proofs.YtnmfjojhgfipcaaGreatDoor.W
namespace Go.Proofs.YtnmfjojhgfipcaaGreatDoor.W
open Go.RowKit E
set_option linter.unusedVariables false
set_option linter.unusedSimpArgs false
set_option linter.unusedSectionVars false
end Go.Proofs.YtnmfjojhgfipcaaGreatDoor.W
namespace Go.Proofs.YtnmfjojhgfipcaaGreatDoor.W
open Go.RowKit E
set_option linter.unusedVariables false
set_option linter.unusedSimpArgs false
set_option linter.unusedSectionVars false

set_option maxRecDepth 20000 in
theorem len64_0  : Pure Tryz.prog 76 [u64C 0] (.c (iC 0)) := by
  intro H
  refine Spec.enter Tryz.func76 rfl ?_
  refine AW.wk (Wk.keep 25 [(0, .c (u64C 0))] [] (H) rfl ⟨rfl, trivial⟩ trivial (fun _ _ h => h) rfl) ?_
  refine AW.seq ?_
  refine AW.reg ?_
  refine SeqK.q (q_asC rfl rfl) rfl rfl rfl ?_
  refine SeqK.nil ?_
  refine AW.seq ?_
  refine AW.seq ?_
  refine AW.reg ?_
  refine SeqK.q (q_mvC rfl rfl) rfl rfl rfl ?_
  refine SeqK.q (q_geq rfl rfl rfl) rfl rfl rfl ?_
  refine SeqK.nil ?_
  refine AW.condF rfl ?_
  refine AW.skip ?_
  refine AW.seq ?_
  refine AW.seq ?_
  refine AW.reg ?_
  refine SeqK.q (q_mvC rfl rfl) rfl rfl rfl ?_
  refine SeqK.q (q_geq rfl rfl rfl) rfl rfl rfl ?_
  refine SeqK.nil ?_
  refine AW.condF rfl ?_
  refine AW.skip ?_
  refine AW.seq ?_
  refine AW.seq ?_
  refine AW.reg ?_
  refine SeqK.q (q_mvC rfl rfl) rfl rfl rfl ?_
  refine SeqK.q (q_geq rfl rfl rfl) rfl rfl rfl ?_
  refine SeqK.nil ?_
  refine AW.condF rfl ?_
  refine AW.skip ?_
  refine AW.seq ?_
  refine AW.reg ?_
  refine SeqK.q (q_mvC rfl rfl) rfl rfl rfl ?_
  refine SeqK.q (q_mvC rfl rfl) rfl rfl rfl ?_
  refine SeqK.q (q_conv _ rfl Fx.un5 rfl ((rfl : IntKind.u8.wrap 0 = 0)) ⟨_, Fx.un98⟩) rfl rfl rfl ?_
  rw [show IntKind.u8.wrap 0 = 0 from rfl]
  refine SeqK.q (q_indexS _ rfl Fx.un9 rfl rfl (by omega) (rfl)) rfl rfl rfl ?_
  refine SeqK.q (q_conv _ rfl Fx.un3 rfl ((rfl : IntKind.i64.wrap 0 = 0)) ⟨_, Fx.un5⟩) rfl rfl rfl ?_
  refine SeqK.q (q_add _ rfl rfl rfl ((rfl : IntKind.i64.wrap (0 + 0) = 0))) rfl rfl rfl ?_
  refine SeqK.q (q_asC rfl rfl) rfl rfl rfl ?_
  refine SeqK.nil ?_
  refine AW.ret ?_
  exact fin_x (x := .c _) H (.tmp rfl .nil) rfl (fun _ _ h => h) ⟨rfl, rfl⟩

set_option maxRecDepth 20000 in
theorem len_0  : Pure Tryz.prog 88 [u64C 0] (.c (iC 0)) := by
  intro H
  refine Spec.enter Tryz.func88 rfl ?_
  refine AW.wk (Wk.keep 8 [(0, .c (u64C 0))] [] (H) rfl ⟨rfl, trivial⟩ trivial (fun _ _ h => h) rfl) ?_
  refine AW.seq ?_
  refine AW.reg ?_
  refine SeqK.q (q_asC rfl rfl) rfl rfl rfl ?_
  refine SeqK.nil ?_
  refine AW.seq ?_
  refine AW.condF rfl ?_
  refine AW.skip ?_
  refine AW.seq ?_
  refine AW.reg ?_
  refine SeqK.q (q_mvC rfl rfl) rfl rfl rfl ?_
  refine SeqK.q (q_call _ rfl Fx.fn76 rfl (len64_0) rfl) rfl rfl rfl ?_
  refine SeqK.q (q_asC rfl rfl) rfl rfl rfl ?_
  refine SeqK.nil ?_
  refine AW.ret ?_
  exact fin_x (x := .c _) H (.tmp rfl .nil) rfl (fun _ _ h => h) ⟨rfl, rfl⟩

set_option maxRecDepth 20000 in
theorem len64_1  : Pure Tryz.prog 76 [u64C 1] (.c (iC 1)) := by
  intro H
  refine Spec.enter Tryz.func76 rfl ?_
  refine AW.wk (Wk.keep 25 [(0, .c (u64C 1))] [] (H) rfl ⟨rfl, trivial⟩ trivial (fun _ _ h => h) rfl) ?_
  refine AW.seq ?_
  refine AW.reg ?_
  refine SeqK.q (q_asC rfl rfl) rfl rfl rfl ?_
  refine SeqK.nil ?_
  refine AW.seq ?_
  refine AW.seq ?_
  refine AW.reg ?_
  refine SeqK.q (q_mvC rfl rfl) rfl rfl rfl ?_
  refine SeqK.q (q_geq rfl rfl rfl) rfl rfl rfl ?_
  refine SeqK.nil ?_
  refine AW.condF rfl ?_
  refine AW.skip ?_
  refine AW.seq ?_
  refine AW.seq ?_
  refine AW.reg ?_
  refine SeqK.q (q_mvC rfl rfl) rfl rfl rfl ?_
  refine SeqK.q (q_geq rfl rfl rfl) rfl rfl rfl ?_
  refine SeqK.nil ?_
  refine AW.condF rfl ?_
  refine AW.skip ?_
  refine AW.seq ?_
  refine AW.seq ?_
  refine AW.reg ?_
  refine SeqK.q (q_mvC rfl rfl) rfl rfl rfl ?_
  refine SeqK.q (q_geq rfl rfl rfl) rfl rfl rfl ?_
  refine SeqK.nil ?_
  refine AW.condF rfl ?_
  refine AW.skip ?_
  refine AW.seq ?_
  refine AW.reg ?_
  refine SeqK.q (q_mvC rfl rfl) rfl rfl rfl ?_
  refine SeqK.q (q_mvC rfl rfl) rfl rfl rfl ?_
  refine SeqK.q (q_conv _ rfl Fx.un5 rfl ((rfl : IntKind.u8.wrap 1 = 1)) ⟨_, Fx.un98⟩) rfl rfl rfl ?_
  rw [show IntKind.u8.wrap 1 = 1 from rfl]
  refine SeqK.q (q_indexS _ rfl Fx.un9 rfl rfl (by omega) (rfl)) rfl rfl rfl ?_
  refine SeqK.q (q_conv _ rfl Fx.un3 rfl ((rfl : IntKind.i64.wrap 1 = 1)) ⟨_, Fx.un5⟩) rfl rfl rfl ?_
  refine SeqK.q (q_add _ rfl rfl rfl ((rfl : IntKind.i64.wrap (0 + 1) = 1))) rfl rfl rfl ?_
  refine SeqK.q (q_asC rfl rfl) rfl rfl rfl ?_
  refine SeqK.nil ?_
  refine AW.ret ?_
  exact fin_x (x := .c _) H (.tmp rfl .nil) rfl (fun _ _ h => h) ⟨rfl, rfl⟩

set_option maxRecDepth 20000 in
theorem len_1  : Pure Tryz.prog 88 [u64C 1] (.c (iC 1)) := by
  intro H
  refine Spec.enter Tryz.func88 rfl ?_
  refine AW.wk (Wk.keep 8 [(0, .c (u64C 1))] [] (H) rfl ⟨rfl, trivial⟩ trivial (fun _ _ h => h) rfl) ?_
  refine AW.seq ?_
  refine AW.reg ?_
  refine SeqK.q (q_asC rfl rfl) rfl rfl rfl ?_
  refine SeqK.nil ?_
  refine AW.seq ?_
  refine AW.condF rfl ?_
  refine AW.skip ?_
  refine AW.seq ?_
  refine AW.reg ?_
  refine SeqK.q (q_mvC rfl rfl) rfl rfl rfl ?_
  refine SeqK.q (q_call _ rfl Fx.fn76 rfl (len64_1) rfl) rfl rfl rfl ?_
  refine SeqK.q (q_asC rfl rfl) rfl rfl rfl ?_
  refine SeqK.nil ?_
  refine AW.ret ?_
  exact fin_x (x := .c _) H (.tmp rfl .nil) rfl (fun _ _ h => h) ⟨rfl, rfl⟩

set_option maxRecDepth 20000 in
theorem ins_0 (z : Nz) : Pure Tryz.prog 96 [.a (.t (.sl z 1 [])), iC 0, iC 0] (.tup []) := by
  intro H
  refine Spec.enter Tryz.func96 rfl ?_
  refine AW.wk (Wk.keep 49 [(0, .c (.a (.t (.sl z 1 [])))), (1, .c (iC 0)), (2, .c (iC 0))] [] (H) rfl ⟨rfl, rfl, rfl, trivial⟩ trivial (fun _ _ h => h) rfl) ?_
  refine AW.seq ?_
  refine AW.reg ?_
  refine SeqK.q (q_mvC rfl rfl) rfl rfl rfl ?_
  refine SeqK.q (q_add _ rfl rfl rfl (w64 (by omega) (by omega))) rfl rfl rfl ?_
  refine SeqK.q (q_asC rfl rfl) rfl rfl rfl ?_
  refine SeqK.nil ?_
  refine AW.block ?_
  refine AW.unroll ?_
  refine AW.seq ?_
  refine AW.seq ?_
  refine AW.reg ?_
  refine SeqK.q (q_mvC rfl rfl) rfl rfl rfl ?_
  refine SeqK.q (q_mvC rfl rfl) rfl rfl rfl ?_
  refine SeqK.q (q_lss rfl rfl rfl) rfl rfl rfl ?_
  refine SeqK.nil ?_
  refine AW.condF rfl ?_
  refine AW.exit ?_
  refine eth_e ?_
  refine eth_e ?_
  refine exit_here ?_
  exact fin_xN (x := .tup []) H .nil rfl (fun _ _ h => h) ⟨rfl, rfl⟩

set_option maxRecDepth 20000 in
theorem pdq_0 (z : Nz) : Pure Tryz.prog 87 [.a (.t (.sl z 1 [])), iC 0, iC 0, iC 0] (.tup []) := by
  intro H
  refine Spec.enter Tryz.func87 rfl ?_
  refine AW.wk (Wk.keep 134 [(0, .c (.a (.t (.sl z 1 [])))), (1, .c (iC 0)), (2, .c (iC 0)), (3, .c (iC 0))] [] (H) rfl ⟨rfl, rfl, rfl, rfl, trivial⟩ trivial (fun _ _ h => h) rfl) ?_
  refine AW.seq ?_
  refine AW.reg ?_
  refine SeqK.q (q_asC rfl rfl) rfl rfl rfl ?_
  refine SeqK.nil ?_
  refine AW.seq ?_
  refine AW.reg ?_
  refine SeqK.q (q_asC rfl rfl) rfl rfl rfl ?_
  refine SeqK.nil ?_
  refine AW.block ?_
  refine AW.unroll ?_
  refine AW.block ?_
  refine AW.seq ?_
  refine AW.reg ?_
  refine SeqK.q (q_mvC rfl rfl) rfl rfl rfl ?_
  refine SeqK.q (q_mvC rfl rfl) rfl rfl rfl ?_
  refine SeqK.q (q_sub _ rfl rfl rfl (w64 (by omega) (by omega))) rfl rfl rfl ?_
  refine SeqK.q (q_asC rfl rfl) rfl rfl rfl ?_
  refine SeqK.nil ?_
  refine AW.seq ?_
  refine AW.seq ?_
  refine AW.reg ?_
  refine SeqK.q (q_mvC rfl rfl) rfl rfl rfl ?_
  refine SeqK.q (q_leq rfl rfl rfl) rfl rfl rfl ?_
  refine SeqK.nil ?_
  refine AW.condT rfl ?_
  refine AW.seq ?_
  refine AW.reg ?_
  refine SeqK.q (q_mvC rfl rfl) rfl rfl rfl ?_
  refine SeqK.q (q_mvC rfl rfl) rfl rfl rfl ?_
  refine SeqK.q (q_mvC rfl rfl) rfl rfl rfl ?_
  refine SeqK.q (q_call _ rfl Fx.fn96 rfl (ins_0 z) rfl) rfl rfl rfl ?_
  refine SeqK.nil ?_
  refine AW.ret ?_
  exact fin_x (x := .tup []) H .nil rfl (fun _ _ h => h) ⟨rfl, rfl⟩

set_option maxRecDepth 20000 in
theorem sort_0 (z : Nz) : Pure Tryz.prog 72 [.a (.t (.sl z 1 []))] (.tup []) := by
  intro H
  refine Spec.enter Tryz.func72 rfl ?_
  refine AW.wk (Wk.keep 11 [(0, .c (.a (.t (.sl z 1 []))))] [] (H) rfl ⟨rfl, trivial⟩ trivial (fun _ _ h => h) rfl) ?_
  refine AW.seq ?_
  refine AW.reg ?_
  refine SeqK.q (q_mvC rfl rfl) rfl rfl rfl ?_
  refine SeqK.q (q_len rfl Fx.un22 rfl) rfl rfl rfl ?_
  refine SeqK.q (q_asC rfl rfl) rfl rfl rfl ?_
  refine SeqK.nil ?_
  refine AW.reg ?_
  refine SeqK.q (q_mvC rfl rfl) rfl rfl rfl ?_
  refine SeqK.q (q_mvC rfl rfl) rfl rfl rfl ?_
  refine SeqK.q (q_mvC rfl rfl) rfl rfl rfl ?_
  refine SeqK.q (q_conv _ rfl Fx.un149 rfl ((rfl : IntKind.u64.wrap 0 = 0)) ⟨_, Fx.un3⟩) rfl rfl rfl ?_
  refine SeqK.q (q_call _ rfl Fx.fn88 rfl (len_0) rfl) rfl rfl rfl ?_
  refine SeqK.q (q_call _ rfl Fx.fn87 rfl (pdq_0 z) rfl) rfl rfl rfl ?_
  refine SeqK.nil ?_
  exact fin_xN (x := .tup []) H .nil rfl (fun _ _ h => h) ⟨rfl, rfl⟩

set_option maxRecDepth 20000 in
theorem compact_0 (z : Nz) : Pure Tryz.prog 73 [.a (.t (.sl z 1 []))] (.c (.a (.t (.sl z 1 [])))) := by
  intro H
  refine Spec.enter Tryz.func73 rfl ?_
  refine AW.wk (Wk.keep 61 [(0, .c (.a (.t (.sl z 1 []))))] [] (H) rfl ⟨rfl, trivial⟩ trivial (fun _ _ h => h) rfl) ?_
  refine AW.seq ?_
  refine AW.reg ?_
  refine SeqK.q (q_asC rfl rfl) rfl rfl rfl ?_
  refine SeqK.nil ?_
  refine AW.seq ?_
  refine AW.seq ?_
  refine AW.reg ?_
  refine SeqK.q (q_mvC rfl rfl) rfl rfl rfl ?_
  refine SeqK.q (q_len rfl Fx.un22 rfl) rfl rfl rfl ?_
  refine SeqK.q (q_lss rfl rfl rfl) rfl rfl rfl ?_
  refine SeqK.nil ?_
  refine AW.condT rfl ?_
  refine AW.seq ?_
  refine AW.reg ?_
  refine SeqK.q (q_mvC rfl rfl) rfl rfl rfl ?_
  refine SeqK.q (q_asC rfl rfl) rfl rfl rfl ?_
  refine SeqK.nil ?_
  refine AW.ret ?_
  exact fin_x (x := .c _) H (.tmp rfl .nil) rfl (fun _ _ h => h) ⟨rfl, rfl⟩

set_option maxRecDepth 20000 in
theorem sorted_0 (z : Nz) : Pure Tryz.prog 52 [.a (.t (.sl z 1 []))] (.c (.a (.t (.sl z 1 [])))) := by
  intro H
  refine Spec.enter Tryz.func52 rfl ?_
  refine AW.wk (Wk.keep 7 [(0, .c (.a (.t (.sl z 1 []))))] [] (H) rfl ⟨rfl, trivial⟩ trivial (fun _ _ h => h) rfl) ?_
  refine AW.seq ?_
  refine AW.reg ?_
  refine SeqK.q (q_asC rfl rfl) rfl rfl rfl ?_
  refine SeqK.nil ?_
  refine AW.seq ?_
  refine AW.reg ?_
  refine SeqK.q (q_mvC rfl rfl) rfl rfl rfl ?_
  refine SeqK.q (q_call _ rfl Fx.fn72 rfl (sort_0 z) rfl) rfl rfl rfl ?_
  refine SeqK.nil ?_
  refine AW.seq ?_
  refine AW.reg ?_
  refine SeqK.q (q_mvC rfl rfl) rfl rfl rfl ?_
  refine SeqK.q (q_call _ rfl Fx.fn73 rfl (compact_0 z) rfl) rfl rfl rfl ?_
  refine SeqK.q (q_asC rfl rfl) rfl rfl rfl ?_
  refine SeqK.nil ?_
  refine AW.ret ?_
  exact fin_x (x := .c _) H (.tmp rfl .nil) rfl (fun _ _ h => h) ⟨rfl, rfl⟩

set_option maxRecDepth 20000 in
theorem ins_1 (z : Nz) (e : List E.T) : Pure Tryz.prog 96 [.a (.t (.sl z 1 [e])), iC 0, iC 1] (.tup []) := by
  intro H
  refine Spec.enter Tryz.func96 rfl ?_
  refine AW.wk (Wk.keep 49 [(0, .c (.a (.t (.sl z 1 [e])))), (1, .c (iC 0)), (2, .c (iC 1))] [] (H) rfl ⟨rfl, rfl, rfl, trivial⟩ trivial (fun _ _ h => h) rfl) ?_
  refine AW.seq ?_
  refine AW.reg ?_
  refine SeqK.q (q_mvC rfl rfl) rfl rfl rfl ?_
  refine SeqK.q (q_add _ rfl rfl rfl (w64 (by omega) (by omega))) rfl rfl rfl ?_
  refine SeqK.q (q_asC rfl rfl) rfl rfl rfl ?_
  refine SeqK.nil ?_
  refine AW.block ?_
  refine AW.unroll ?_
  refine AW.seq ?_
  refine AW.seq ?_
  refine AW.reg ?_
  refine SeqK.q (q_mvC rfl rfl) rfl rfl rfl ?_
  refine SeqK.q (q_mvC rfl rfl) rfl rfl rfl ?_
  refine SeqK.q (q_lss rfl rfl rfl) rfl rfl rfl ?_
  refine SeqK.nil ?_
  refine AW.condF rfl ?_
  refine AW.exit ?_
  refine eth_e ?_
  refine eth_e ?_
  refine exit_here ?_
  exact fin_xN (x := .tup []) H .nil rfl (fun _ _ h => h) ⟨rfl, rfl⟩

set_option maxRecDepth 20000 in
theorem pdq_1 (z : Nz) (e : List E.T) : Pure Tryz.prog 87 [.a (.t (.sl z 1 [e])), iC 0, iC 1, iC 1] (.tup []) := by
  intro H
  refine Spec.enter Tryz.func87 rfl ?_
  refine AW.wk (Wk.keep 134 [(0, .c (.a (.t (.sl z 1 [e])))), (1, .c (iC 0)), (2, .c (iC 1)), (3, .c (iC 1))] [] (H) rfl ⟨rfl, rfl, rfl, rfl, trivial⟩ trivial (fun _ _ h => h) rfl) ?_
  refine AW.seq ?_
  refine AW.reg ?_
  refine SeqK.q (q_asC rfl rfl) rfl rfl rfl ?_
  refine SeqK.nil ?_
  refine AW.seq ?_
  refine AW.reg ?_
  refine SeqK.q (q_asC rfl rfl) rfl rfl rfl ?_
  refine SeqK.nil ?_
  refine AW.block ?_
  refine AW.unroll ?_
  refine AW.block ?_
  refine AW.seq ?_
  refine AW.reg ?_
  refine SeqK.q (q_mvC rfl rfl) rfl rfl rfl ?_
  refine SeqK.q (q_mvC rfl rfl) rfl rfl rfl ?_
  refine SeqK.q (q_sub _ rfl rfl rfl (w64 (by omega) (by omega))) rfl rfl rfl ?_
  refine SeqK.q (q_asC rfl rfl) rfl rfl rfl ?_
  refine SeqK.nil ?_
  refine AW.seq ?_
  refine AW.seq ?_
  refine AW.reg ?_
  refine SeqK.q (q_mvC rfl rfl) rfl rfl rfl ?_
  refine SeqK.q (q_leq rfl rfl rfl) rfl rfl rfl ?_
  refine SeqK.nil ?_
  refine AW.condT rfl ?_
  refine AW.seq ?_
  refine AW.reg ?_
  refine SeqK.q (q_mvC rfl rfl) rfl rfl rfl ?_
  refine SeqK.q (q_mvC rfl rfl) rfl rfl rfl ?_
  refine SeqK.q (q_mvC rfl rfl) rfl rfl rfl ?_
  refine SeqK.q (q_call _ rfl Fx.fn96 rfl (ins_1 z e) rfl) rfl rfl rfl ?_
  refine SeqK.nil ?_
  refine AW.ret ?_
  exact fin_x (x := .tup []) H .nil rfl (fun _ _ h => h) ⟨rfl, rfl⟩

set_option maxRecDepth 20000 in
theorem sort_1 (z : Nz) (e : List E.T) : Pure Tryz.prog 72 [.a (.t (.sl z 1 [e]))] (.tup []) := by
  intro H
  refine Spec.enter Tryz.func72 rfl ?_
  refine AW.wk (Wk.keep 11 [(0, .c (.a (.t (.sl z 1 [e]))))] [] (H) rfl ⟨rfl, trivial⟩ trivial (fun _ _ h => h) rfl) ?_
  refine AW.seq ?_
  refine AW.reg ?_
  refine SeqK.q (q_mvC rfl rfl) rfl rfl rfl ?_
  refine SeqK.q (q_len rfl Fx.un22 rfl) rfl rfl rfl ?_
  refine SeqK.q (q_asC rfl rfl) rfl rfl rfl ?_
  refine SeqK.nil ?_
  refine AW.reg ?_
  refine SeqK.q (q_mvC rfl rfl) rfl rfl rfl ?_
  refine SeqK.q (q_mvC rfl rfl) rfl rfl rfl ?_
  refine SeqK.q (q_mvC rfl rfl) rfl rfl rfl ?_
  refine SeqK.q (q_conv _ rfl Fx.un149 rfl ((rfl : IntKind.u64.wrap 1 = 1)) ⟨_, Fx.un3⟩) rfl rfl rfl ?_
  refine SeqK.q (q_call _ rfl Fx.fn88 rfl (len_1) rfl) rfl rfl rfl ?_
  refine SeqK.q (q_call _ rfl Fx.fn87 rfl (pdq_1 z e) rfl) rfl rfl rfl ?_
  refine SeqK.nil ?_
  exact fin_xN (x := .tup []) H .nil rfl (fun _ _ h => h) ⟨rfl, rfl⟩

set_option maxRecDepth 20000 in
theorem compact_1 (z : Nz) (e : List E.T) : Pure Tryz.prog 73 [.a (.t (.sl z 1 [e]))] (.c (.a (.t (.sl z 1 [e])))) := by
  intro H
  refine Spec.enter Tryz.func73 rfl ?_
  refine AW.wk (Wk.keep 61 [(0, .c (.a (.t (.sl z 1 [e]))))] [] (H) rfl ⟨rfl, trivial⟩ trivial (fun _ _ h => h) rfl) ?_
  refine AW.seq ?_
  refine AW.reg ?_
  refine SeqK.q (q_asC rfl rfl) rfl rfl rfl ?_
  refine SeqK.nil ?_
  refine AW.seq ?_
  refine AW.seq ?_
  refine AW.reg ?_
  refine SeqK.q (q_mvC rfl rfl) rfl rfl rfl ?_
  refine SeqK.q (q_len rfl Fx.un22 rfl) rfl rfl rfl ?_
  refine SeqK.q (q_lss rfl rfl rfl) rfl rfl rfl ?_
  refine SeqK.nil ?_
  refine AW.condT rfl ?_
  refine AW.seq ?_
  refine AW.reg ?_
  refine SeqK.q (q_mvC rfl rfl) rfl rfl rfl ?_
  refine SeqK.q (q_asC rfl rfl) rfl rfl rfl ?_
  refine SeqK.nil ?_
  refine AW.ret ?_
  exact fin_x (x := .c _) H (.tmp rfl .nil) rfl (fun _ _ h => h) ⟨rfl, rfl⟩

set_option maxRecDepth 20000 in
theorem sorted_1 (z : Nz) (e : List E.T) : Pure Tryz.prog 52 [.a (.t (.sl z 1 [e]))] (.c (.a (.t (.sl z 1 [e])))) := by
  intro H
  refine Spec.enter Tryz.func52 rfl ?_
  refine AW.wk (Wk.keep 7 [(0, .c (.a (.t (.sl z 1 [e]))))] [] (H) rfl ⟨rfl, trivial⟩ trivial (fun _ _ h => h) rfl) ?_
  refine AW.seq ?_
  refine AW.reg ?_
  refine SeqK.q (q_asC rfl rfl) rfl rfl rfl ?_
  refine SeqK.nil ?_
  refine AW.seq ?_
  refine AW.reg ?_
  refine SeqK.q (q_mvC rfl rfl) rfl rfl rfl ?_
  refine SeqK.q (q_call _ rfl Fx.fn72 rfl (sort_1 z e) rfl) rfl rfl rfl ?_
  refine SeqK.nil ?_
  refine AW.seq ?_
  refine AW.reg ?_
  refine SeqK.q (q_mvC rfl rfl) rfl rfl rfl ?_
  refine SeqK.q (q_call _ rfl Fx.fn73 rfl (compact_1 z e) rfl) rfl rfl rfl ?_
  refine SeqK.q (q_asC rfl rfl) rfl rfl rfl ?_
  refine SeqK.nil ?_
  refine AW.ret ?_
  exact fin_x (x := .c _) H (.tmp rfl .nil) rfl (fun _ _ h => h) ⟨rfl, rfl⟩

end Go.Proofs.YtnmfjojhgfipcaaGreatDoor.W
namespace Go.Proofs.YtnmfjojhgfipcaaGreatDoor.W
open Go.RowKit E
set_option linter.unusedVariables false
set_option linter.unusedSimpArgs false
set_option linter.unusedSectionVars false
/-! the formula of the check that all laws begin with -/
abbrev pt1 : List E.T := [.v (.int .i64 1), .v (.int .i64 0), .v (.int .i64 0), .v (.int .i64 0), .v (.slice none 0 0)]
abbrev fr1 : E.T := .sl .nn 5 [pt1]
abbrev frA : List A := [.t (.v (.int .i64 (-3))), .t fr1]
abbrev atA : List A := [.t (.v (.int .i64 4)), .t (.v (.int .i64 0)), .t (.v (.int .i64 0)), .t (.v (.int .i64 (-3))), .t fr1, .t (.v (.int .i64 0)), .t (.v (.int .i64 0)), .t (.v (.bool false)), .t (.v (.string ⟨#[]⟩))]
abbrev fmA : List A := .t (.v (.int .i64 2)) :: (atA ++ [.t (.v (.slice none 0 0))])
abbrev ltT (b : Bool) : List E.T := [.v (.int .i64 4), .v (.int .i64 0), .v (.int .i64 0), .v (.int .i64 (-3)), fr1, .v (.int .i64 0), .v (.int .i64 0), .v (.bool false), .v (.string ⟨#[]⟩), .v (.bool b)]
abbrev vs1 : List Vr := [⟨1, 0, 9, 0, false⟩]

set_option maxHeartbeats 4000000 in
set_option maxRecDepth 20000 in
theorem simplify_c  : Pure Tryz.prog 29 [.g fmA, vsC .nn vs1] (.c (.g fmA)) := by
  intro H
  refine Spec.enter Tryz.func29 rfl ?_
  refine AW.wk (Wk.keep 57 [(0, .c (.g fmA)), (1, .c (vsC .nn vs1))] [] (H) rfl ⟨rfl, rfl, trivial⟩ trivial (fun _ _ h => h) rfl) ?_
  refine AW.seq ?_
  refine AW.reg ?_
  refine SeqK.r (b_box (r := [_, _, _, _, _, _, _, _, _, _, _]) rfl rfl rfl rfl rfl rfl) rfl ?_
  refine SeqK.r (b_alloc (r := [_, _, _, _, _, _, _, _, _, _, _]) rfl rfl Fx.ze49 rfl rfl rfl rfl) rfl ?_
  refine SeqK.nil ?_
  refine AW.seq ?_
  refine AW.seq ?_
  refine AW.reg ?_
  refine SeqK.q (q_fieldL _ rfl Fx.fl49_0 rfl rfl) rfl rfl rfl ?_
  refine SeqK.r (b_load (r := .a _) rfl Fx.ty3 rfl rfl rfl rfl rfl rfl) rfl ?_
  refine SeqK.q (q_eql rfl rfl rfl) rfl rfl rfl ?_
  refine SeqK.nil ?_
  refine AW.condT rfl ?_
  refine AW.seq ?_
  refine AW.reg ?_
  refine SeqK.q (q_fieldL _ rfl Fx.fl49_1 rfl rfl) rfl rfl rfl ?_
  refine SeqK.r (b_load (r := .g [_, _, _, _, _, _, _, _, _]) rfl Fx.ty46 rfl rfl rfl rfl rfl rfl) rfl ?_
  refine SeqK.r (b_alloc (r := [_, _, _, _, _, _, _, _, _]) rfl rfl Fx.ze46 rfl rfl rfl rfl) rfl ?_
  refine SeqK.r (b_store (r := [_, _, _, _, _, _, _, _, _]) rfl rfl Fx.ty46 rfl rfl rfl rfl rfl rfl) rfl ?_
  refine SeqK.nil ?_
  refine AW.seq ?_
  refine AW.seq ?_
  refine AW.reg ?_
  refine SeqK.q (q_fieldL _ rfl Fx.fl46_0 rfl rfl) rfl rfl rfl ?_
  refine SeqK.r (b_load (r := .a _) rfl Fx.ty3 rfl rfl rfl rfl rfl rfl) rfl ?_
  refine SeqK.q (q_eql rfl rfl rfl) rfl rfl rfl ?_
  refine SeqK.q (q_mvC rfl rfl) rfl rfl rfl ?_
  refine SeqK.on (q_fieldL _ rfl Fx.fl46_0 rfl rfl) rfl rfl rfl rfl rfl ?_
  refine SeqK.rOn (b_load (r := .a _) rfl Fx.ty3 rfl rfl rfl rfl rfl rfl) rfl rfl rfl ?_
  refine SeqK.on (q_eql rfl rfl rfl) rfl rfl rfl rfl rfl ?_
  refine SeqK.q (q_pkF rfl rfl rfl) rfl rfl rfl ?_
  refine SeqK.q (q_mvC rfl rfl) rfl rfl rfl ?_
  refine SeqK.off rfl rfl rfl rfl rfl rfl ?_
  refine SeqK.off rfl rfl rfl rfl rfl rfl ?_
  refine SeqK.off rfl rfl rfl rfl rfl rfl ?_
  refine SeqK.off rfl rfl rfl rfl rfl rfl ?_
  refine SeqK.off rfl rfl rfl rfl rfl rfl ?_
  refine SeqK.off rfl rfl rfl rfl rfl rfl ?_
  refine SeqK.off rfl rfl rfl rfl rfl rfl ?_
  refine SeqK.q (q_pkF rfl rfl rfl) rfl rfl rfl ?_
  refine SeqK.nil ?_
  refine AW.condF rfl ?_
  refine AW.skip ?_
  refine AW.seq ?_
  refine AW.reg ?_
  refine SeqK.r (b_load (r := .g [_, _, _, _, _, _, _, _, _, _, _]) rfl Fx.ty49 rfl rfl rfl rfl rfl rfl) rfl ?_
  refine SeqK.r (b_store (r := [_, _, _, _, _, _, _, _, _, _, _]) rfl rfl Fx.ty49 rfl rfl rfl rfl rfl rfl) rfl ?_
  refine SeqK.nil ?_
  refine AW.ret ?_
  exact fin_x (x := .c _) H (.cellL rfl rfl Fx.ty49 rfl rfl .nil) rfl (fun _ _ h => h) ⟨rfl, rfl⟩

set_option maxRecDepth 20000 in
theorem count_c  : Pure Tryz.prog 30 [.g fmA] (.c (iC 2)) := by
  intro H
  refine Spec.enter Tryz.func30 rfl ?_
  refine AW.wk (Wk.keep 41 [(0, .c (.g fmA))] [] (H) rfl ⟨rfl, trivial⟩ trivial (fun _ _ h => h) rfl) ?_
  refine AW.seq ?_
  refine AW.reg ?_
  refine SeqK.r (b_box (r := [_, _, _, _, _, _, _, _, _, _, _]) rfl rfl rfl rfl rfl rfl) rfl ?_
  refine SeqK.q (q_asC rfl rfl) rfl rfl rfl ?_
  refine SeqK.nil ?_
  refine AW.seq ?_
  refine AW.seq ?_
  refine AW.reg ?_
  refine SeqK.q (q_fieldL _ rfl Fx.fl49_0 rfl rfl) rfl rfl rfl ?_
  refine SeqK.r (b_load (r := .a _) rfl Fx.ty3 rfl rfl rfl rfl rfl rfl) rfl ?_
  refine SeqK.q (q_eql rfl rfl rfl) rfl rfl rfl ?_
  refine SeqK.nil ?_
  refine AW.condT rfl ?_
  refine AW.seq ?_
  refine AW.seq ?_
  refine AW.reg ?_
  refine SeqK.q (q_fieldL _ rfl Fx.fl49_1 rfl rfl) rfl rfl rfl ?_
  refine SeqK.q (q_fieldL _ rfl Fx.fl46_0 rfl rfl) rfl rfl rfl ?_
  refine SeqK.r (b_load (r := .a _) rfl Fx.ty3 rfl rfl rfl rfl rfl rfl) rfl ?_
  refine SeqK.q (q_eql rfl rfl rfl) rfl rfl rfl ?_
  refine SeqK.nil ?_
  refine AW.condT rfl ?_
  refine AW.seq ?_
  refine AW.reg ?_
  refine SeqK.q (q_asC rfl rfl) rfl rfl rfl ?_
  refine SeqK.nil ?_
  refine AW.ret ?_
  exact fin_x (x := .c _) H (.tmp rfl .nil) rfl (fun _ _ h => h) ⟨rfl, rfl⟩

set_option maxHeartbeats 4000000 in
set_option maxRecDepth 20000 in
theorem expand_c  : Pure Tryz.prog 31 [.g fmA] (.c (.a (.t (.sl .nn 1 [[.sl .nn 10 [ltT false]], [.sl .nn 10 [ltT true]]])))) := by
  intro H
  refine Spec.enter Tryz.func31 rfl ?_
  refine AW.wk (Wk.keep 89 [(0, .c (.g fmA))] [] (H) rfl ⟨rfl, trivial⟩ trivial (fun _ _ h => h) rfl) ?_
  refine AW.seq ?_
  refine AW.reg ?_
  refine SeqK.r (b_box (r := [_, _, _, _, _, _, _, _, _, _, _]) rfl rfl rfl rfl rfl rfl) rfl ?_
  refine SeqK.q (q_asC rfl rfl) rfl rfl rfl ?_
  refine SeqK.nil ?_
  refine AW.seq ?_
  refine AW.seq ?_
  refine AW.reg ?_
  refine SeqK.r (b_load (r := .g [_, _, _, _, _, _, _, _, _, _, _]) rfl Fx.ty49 rfl rfl rfl rfl rfl rfl) rfl ?_
  refine SeqK.q (q_call _ rfl Fx.fn30 rfl (count_c) rfl) rfl rfl rfl ?_
  refine SeqK.q (q_eql rfl rfl rfl) rfl rfl rfl ?_
  refine SeqK.nil ?_
  refine AW.condF rfl ?_
  refine AW.skip ?_
  refine AW.seq ?_
  refine AW.seq ?_
  refine AW.reg ?_
  refine SeqK.q (q_fieldL _ rfl Fx.fl49_0 rfl rfl) rfl rfl rfl ?_
  refine SeqK.r (b_load (r := .a _) rfl Fx.ty3 rfl rfl rfl rfl rfl rfl) rfl ?_
  refine SeqK.nil ?_
  refine AW.block ?_
  refine AW.seq ?_
  refine AW.reg ?_
  refine SeqK.q (q_eql rfl rfl rfl) rfl rfl rfl ?_
  refine SeqK.q (q_asC rfl rfl) rfl rfl rfl ?_
  refine SeqK.nil ?_
  refine AW.condT rfl ?_
  refine AW.seq ?_
  refine AW.seq ?_
  refine AW.reg ?_
  refine SeqK.q (q_fieldL _ rfl Fx.fl49_1 rfl rfl) rfl rfl rfl ?_
  refine SeqK.q (q_fieldL _ rfl Fx.fl46_0 rfl rfl) rfl rfl rfl ?_
  refine SeqK.r (b_load (r := .a _) rfl Fx.ty3 rfl rfl rfl rfl rfl rfl) rfl ?_
  refine SeqK.q (q_eql rfl rfl rfl) rfl rfl rfl ?_
  refine SeqK.nil ?_
  refine AW.condT rfl ?_
  refine AW.seq ?_
  refine AW.reg ?_
  refine SeqK.q (q_fieldL _ rfl Fx.fl49_1 rfl rfl) rfl rfl rfl ?_
  refine SeqK.r (b_load (r := .g [_, _, _, _, _, _, _, _, _]) rfl Fx.ty46 rfl rfl rfl rfl rfl rfl) rfl ?_
  refine SeqK.q (q_build2 (zs := [_, _, _, _, _, _, _, _, _, _]) (r := [_, _, _, _, _, _, _, _, _, _]) [(0, 9), (9, 1)] _ rfl Fx.ze119 rfl Fx.bp119 rfl rfl rfl rfl) rfl rfl rfl ?_
  refine SeqK.q (q_buildSlice _ rfl Fx.el87 rfl (by decide) rfl) rfl rfl rfl ?_
  refine SeqK.q (q_fieldL _ rfl Fx.fl49_1 rfl rfl) rfl rfl rfl ?_
  refine SeqK.r (b_load (r := .g [_, _, _, _, _, _, _, _, _]) rfl Fx.ty46 rfl rfl rfl rfl rfl rfl) rfl ?_
  refine SeqK.q (q_build2 (zs := [_, _, _, _, _, _, _, _, _, _]) (r := [_, _, _, _, _, _, _, _, _, _]) [(0, 9), (9, 1)] _ rfl Fx.ze119 rfl Fx.bp119 rfl rfl rfl rfl) rfl rfl rfl ?_
  refine SeqK.q (q_buildSlice _ rfl Fx.el87 rfl (by decide) rfl) rfl rfl rfl ?_
  refine SeqK.q (q_buildSlice _ rfl Fx.el85 rfl (by decide) rfl) rfl rfl rfl ?_
  refine SeqK.q (q_asC rfl rfl) rfl rfl rfl ?_
  refine SeqK.nil ?_
  refine AW.ret ?_
  exact fin_x (x := .c _) H (.tmp rfl .nil) rfl (fun _ _ h => h) ⟨rfl, rfl⟩

end Go.Proofs.YtnmfjojhgfipcaaGreatDoor.W
namespace Go.Proofs.YtnmfjojhgfipcaaGreatDoor.W
open Go.RowKit E
set_option linter.unusedVariables false
set_option linter.unusedSimpArgs false
set_option linter.unusedSectionVars false

set_option maxRecDepth 20000 in
theorem negative_c0  : Pure Tryz.prog 71 [.g [.t (.v (.int .i64 (-3))), .t (.sl .un 2 [[.v (.int .i64 0), .v (.int .i64 1)]])]] (.c (.g [.t (.v (.int .i64 3)), .t (.sl .ne 2 [[.v (.int .i64 0), .v (.int .i64 (-1))]])])) := by
  intro H
  refine Spec.enter Tryz.func71 rfl ?_
  refine AW.wk (Wk.keep 30 [(0, .c (.g [.t (.v (.int .i64 (-3))), .t (.sl .un 2 [[.v (.int .i64 0), .v (.int .i64 1)]])]))] [] (H) rfl ⟨rfl, trivial⟩ trivial (fun _ _ h => h) rfl) ?_
  refine AW.seq ?_
  refine AW.reg ?_
  refine SeqK.r (b_box (r := [_, _]) rfl rfl rfl rfl rfl rfl) rfl ?_
  refine SeqK.r (b_alloc (r := [_, _]) rfl rfl Fx.ze61 rfl rfl rfl rfl) rfl ?_
  refine SeqK.nil ?_
  refine AW.seq ?_
  refine AW.reg ?_
  refine SeqK.q (q_fieldL _ rfl Fx.fl61_0 rfl rfl) rfl rfl rfl ?_
  refine SeqK.r (b_load (r := .a _) rfl Fx.ty2 rfl rfl rfl rfl rfl rfl) rfl ?_
  refine SeqK.q (q_neg _ rfl rfl ((rfl : IntKind.i64.wrap (-(-3)) = 3))) rfl rfl rfl ?_
  refine SeqK.q (q_build2 (zs := [_, _]) (r := [_, _]) [(0, 1), (1, 1)] _ rfl Fx.ze61 rfl Fx.bp61 rfl rfl rfl rfl) rfl rfl rfl ?_
  refine SeqK.r (b_alloc (r := [_, _]) rfl rfl Fx.ze61 rfl rfl rfl rfl) rfl ?_
  refine SeqK.r (b_store (r := [_, _]) rfl rfl Fx.ty61 rfl rfl rfl rfl rfl rfl) rfl ?_
  refine SeqK.nil ?_
  refine AW.seq ?_
  refine AW.seq ?_
  refine AW.reg ?_
  refine SeqK.q (q_fieldL _ rfl Fx.fl61_1 rfl rfl) rfl rfl rfl ?_
  refine SeqK.r (b_load (r := .a _) rfl Fx.ty59 rfl rfl rfl rfl rfl rfl) rfl ?_
  refine SeqK.q (q_len rfl Fx.un59 rfl) rfl rfl rfl ?_
  refine SeqK.q (q_mvC rfl rfl) rfl rfl rfl ?_
  refine SeqK.nil ?_
  refine AW.block ?_
  refine AW.unroll ?_
  refine AW.seq ?_
  refine AW.reg ?_
  refine SeqK.q (q_lss rfl rfl rfl) rfl rfl rfl ?_
  refine SeqK.nil ?_
  refine AW.seq ?_
  refine AW.condT rfl ?_
  refine AW.skip ?_
  refine AW.seq ?_
  refine AW.block ?_
  refine AW.seq ?_
  refine AW.reg ?_
  refine SeqK.q (q_index _ rfl Fx.sl59 rfl rfl (by omega) (rfl)) rfl rfl rfl ?_
  refine SeqK.q (q_load (.g [_, _]) rfl Fx.ty96 rfl rfl rfl) rfl rfl rfl ?_
  refine SeqK.r (b_alloc (r := [_, _]) rfl rfl Fx.ze96 rfl rfl rfl rfl) rfl ?_
  refine SeqK.r (b_store (r := [_, _]) rfl rfl Fx.ty96 rfl rfl rfl rfl rfl rfl) rfl ?_
  refine SeqK.nil ?_
  refine AW.reg ?_
  refine SeqK.q (q_fieldL _ rfl Fx.fl61_1 rfl rfl) rfl rfl rfl ?_
  refine SeqK.r (b_load (r := .a _) rfl Fx.ty59 rfl rfl rfl rfl rfl rfl) rfl ?_
  refine SeqK.q (q_fieldL _ rfl Fx.fl96_0 rfl rfl) rfl rfl rfl ?_
  refine SeqK.r (b_load (r := .a _) rfl Fx.ty3 rfl rfl rfl rfl rfl rfl) rfl ?_
  refine SeqK.q (q_fieldL _ rfl Fx.fl96_1 rfl rfl) rfl rfl rfl ?_
  refine SeqK.r (b_load (r := .a _) rfl Fx.ty2 rfl rfl rfl rfl rfl rfl) rfl ?_
  refine SeqK.q (q_neg _ rfl rfl ((rfl : IntKind.i64.wrap (-1) = -1))) rfl rfl rfl ?_
  refine SeqK.q (q_build2 (zs := [_, _]) (r := [_, _]) [(0, 1), (1, 1)] _ rfl Fx.ze96 rfl Fx.bp96 rfl rfl rfl rfl) rfl rfl rfl ?_
  refine SeqK.q (q_buildSlice _ rfl Fx.el59 rfl (by decide) rfl) rfl rfl rfl ?_
  refine SeqK.q (q_appNil rfl Fx.el59 rfl rfl (by simp)) rfl rfl rfl ?_
  refine SeqK.q (q_fieldL _ rfl Fx.fl61_1 rfl rfl) rfl rfl rfl ?_
  refine SeqK.r (b_store (r := [_, _]) rfl rfl Fx.ty59 rfl rfl rfl rfl rfl rfl) rfl ?_
  refine SeqK.nil ?_
  refine AW.reg ?_
  refine SeqK.q (q_add _ rfl rfl rfl (w64 (by omega) (by omega))) rfl rfl rfl ?_
  refine SeqK.q (q_mvC rfl rfl) rfl rfl rfl ?_
  refine SeqK.nil ?_
  first | with_reducible refine LoopW.again ?_ | with_reducible refine eth_n (LoopW.again ?_) | with_reducible refine eb_n (eth_n (LoopW.again ?_)) | with_reducible refine eth_n (eb_n (eth_n (LoopW.again ?_)))
  refine AW.seq ?_
  refine AW.reg ?_
  refine SeqK.q (q_lss rfl rfl rfl) rfl rfl rfl ?_
  refine SeqK.nil ?_
  refine AW.seq ?_
  refine AW.condF rfl ?_
  refine AW.exit ?_
  refine eth_e ?_
  refine eth_e ?_
  refine exit_here ?_
  refine AW.seq ?_
  refine AW.reg ?_
  refine SeqK.r (b_load (r := .g [_, _]) rfl Fx.ty61 rfl rfl rfl rfl rfl rfl) rfl ?_
  refine SeqK.r (b_store (r := [_, _]) rfl rfl Fx.ty61 rfl rfl rfl rfl rfl rfl) rfl ?_
  refine SeqK.nil ?_
  refine AW.ret ?_
  exact fin_x (x := .c _) H (.cellL rfl rfl Fx.ty61 rfl rfl .nil) rfl (fun _ _ h => h) ⟨rfl, rfl⟩

theorem negative_c : Pure Tryz.prog 71 [.g [.t (.v (.int .i64 (-3))), .t (.sl .un 2 [[.v (.int .i64 0), .v (.int .i64 1)]])]] (.c (.g [.t (.v (.int .i64 3)), .t (.sl .un 2 [[.v (.int .i64 0), .v (.int .i64 (-1))]])])) := negative_c0.res (XW.g (.cons XW.reA (.cons XW.un .nil)))
set_option maxRecDepth 20000 in
theorem coefs_c0 (H : Heap) (km b ck : Nat) (hm : H km = some (.map (.int .i64) [⟨.int .i64 0, .a (.t (.v (.int .i64 1))), b⟩] ck)) (hb : b < ck) : E.Spec Tryz.prog 86 [.a (.mp km)] H fun x H' => x = .c (.a (.t (.sl .ne 2 [[.v (.int .i64 0), .v (.int .i64 1)]]))) ∧ H' = H := by
  refine Spec.enter Tryz.func86 rfl ?_
  refine AW.wk (Wk.keep 40 [(0, .c (.a (.mp km)))] [] (H) rfl ⟨rfl, trivial⟩ trivial (fun _ _ h => h) rfl) ?_
  refine AW.seq ?_
  refine AW.reg ?_
  refine SeqK.q (q_asC rfl rfl) rfl rfl rfl ?_
  refine SeqK.nil ?_
  refine AW.seq ?_
  refine AW.reg ?_
  refine SeqK.q (q_asC rfl rfl) rfl rfl rfl ?_
  refine SeqK.nil ?_
  refine AW.seq ?_
  refine AW.seq ?_
  refine AW.reg ?_
  refine SeqK.q (q_mvC rfl rfl) rfl rfl rfl ?_
  refine SeqK.r (b_range rfl rfl Fx.un157 rfl (hm) rfl rfl) rfl ?_
  refine SeqK.nil ?_
  refine AW.block ?_
  refine AW.unroll ?_
  refine AW.seq ?_
  refine AW.reg ?_
  refine SeqK.next rfl rfl rfl rfl rfl rfl (hm) (fun m h => by rw [List.mem_singleton.1 h]; exact hb) (Nat.le_refl _) (fun hd11 => ?_) (fun m11 hm11 hn11 => ?_)
  ·
    exact absurd (hd11 _ (List.mem_singleton.2 rfl)) (by simp)
  ·
    obtain rfl := List.mem_singleton.1 hm11
    refine SeqK.q (q_extract _ rfl rfl rfl) rfl rfl rfl ?_
    refine SeqK.nil ?_
    refine AW.seq ?_
    refine AW.condT rfl ?_
    refine AW.skip ?_
    refine AW.block ?_
    refine AW.seq ?_
    refine AW.reg ?_
    refine SeqK.r (b_entry rfl rfl rfl (by (repeat rw [upd_ne _ _ (by first | assumption | exact Ne.symm (by assumption))]); first | assumption | exact upd_same _ _ _) (by assumption) rfl rfl) rfl ?_
    refine SeqK.q (q_extract _ rfl rfl rfl) rfl rfl rfl ?_
    refine SeqK.q (q_extract _ rfl rfl rfl) rfl rfl rfl ?_
    refine SeqK.q (q_asC rfl rfl) rfl rfl rfl ?_
    refine SeqK.q (q_asC rfl rfl) rfl rfl rfl ?_
    refine SeqK.nil ?_
    refine AW.seq ?_
    refine AW.reg ?_
    refine SeqK.q (q_mvC rfl rfl) rfl rfl rfl ?_
    refine SeqK.q (q_neq rfl rfl rfl) rfl rfl rfl ?_
    refine SeqK.nil ?_
    refine AW.condT rfl ?_
    refine AW.reg ?_
    refine SeqK.q (q_mvC rfl rfl) rfl rfl rfl ?_
    refine SeqK.q (q_mvC rfl rfl) rfl rfl rfl ?_
    refine SeqK.q (q_buildSlice _ rfl Fx.el22 rfl (by decide) rfl) rfl rfl rfl ?_
    refine SeqK.q (q_appNil rfl Fx.el22 rfl rfl (by simp)) rfl rfl rfl ?_
    refine SeqK.q (q_asC rfl rfl) rfl rfl rfl ?_
    refine SeqK.nil ?_
    first | with_reducible refine LoopW.again ?_ | with_reducible refine eth_n (LoopW.again ?_) | with_reducible refine eb_n (eth_n (LoopW.again ?_)) | with_reducible refine eth_n (eb_n (eth_n (LoopW.again ?_)))
    refine AW.seq ?_
    refine AW.reg ?_
    refine SeqK.next rfl rfl rfl rfl rfl rfl (hm) (fun m h => by rw [List.mem_singleton.1 h]; exact hb) (Nat.le_refl _) (fun hd11 => ?_) (fun m11 hm11 hn11 => ?_)
    ·
      refine SeqK.q (q_extract _ rfl rfl rfl) rfl rfl rfl ?_
      refine SeqK.nil ?_
      refine AW.seq ?_
      refine AW.condF rfl ?_
      refine AW.exit ?_
      refine eth_e ?_
      refine eth_e ?_
      refine exit_here ?_
      refine AW.seq ?_
      refine AW.reg ?_
      refine SeqK.q (q_mvC rfl rfl) rfl rfl rfl ?_
      refine SeqK.q (q_call _ rfl Fx.fn72 rfl (sort_1 _ _) rfl) rfl rfl rfl ?_
      refine SeqK.nil ?_
      refine AW.seq ?_
      refine AW.reg ?_
      refine SeqK.q (q_asC rfl rfl) rfl rfl rfl ?_
      refine SeqK.nil ?_
      refine AW.seq ?_
      refine AW.seq ?_
      refine AW.reg ?_
      refine SeqK.q (q_mvC rfl rfl) rfl rfl rfl ?_
      refine SeqK.q (q_len rfl Fx.un22 rfl) rfl rfl rfl ?_
      refine SeqK.q (q_mvC rfl rfl) rfl rfl rfl ?_
      refine SeqK.nil ?_
      refine AW.block ?_
      refine AW.unroll ?_
      refine AW.seq ?_
      refine AW.reg ?_
      refine SeqK.q (q_lss rfl rfl rfl) rfl rfl rfl ?_
      refine SeqK.nil ?_
      refine AW.seq ?_
      refine AW.condT rfl ?_
      refine AW.skip ?_
      refine AW.seq ?_
      refine AW.block ?_
      refine AW.seq ?_
      refine AW.reg ?_
      refine SeqK.q (q_index _ rfl Fx.sl22 rfl rfl (by omega) (rfl)) rfl rfl rfl ?_
      refine SeqK.q (q_load (.a _) rfl Fx.ty3 rfl rfl rfl) rfl rfl rfl ?_
      refine SeqK.q (q_asC rfl rfl) rfl rfl rfl ?_
      refine SeqK.nil ?_
      refine AW.reg ?_
      refine SeqK.q (q_mvC rfl rfl) rfl rfl rfl ?_
      refine SeqK.q (q_mvC rfl rfl) rfl rfl rfl ?_
      refine SeqK.q (q_mvC rfl rfl) rfl rfl rfl ?_
      refine SeqK.q (q_mvC rfl rfl) rfl rfl rfl ?_
      refine SeqK.r (g_lookup (r := .c (.a _)) (.int Fx.un3) rfl Fx.un157 Fx.ze2 rfl (by (repeat rw [upd_ne _ _ (by first | assumption | exact Ne.symm (by assumption))]); first | assumption | exact upd_same _ _ _) rfl rfl (rfl) rfl rfl rfl) rfl ?_
      refine SeqK.q (q_build2 (zs := [_, _]) (r := [_, _]) [(0, 1), (1, 1)] _ rfl Fx.ze96 rfl Fx.bp96 rfl rfl rfl rfl) rfl rfl rfl ?_
      refine SeqK.q (q_buildSlice _ rfl Fx.el59 rfl (by decide) rfl) rfl rfl rfl ?_
      refine SeqK.q (q_appNil rfl Fx.el59 rfl rfl (by simp)) rfl rfl rfl ?_
      refine SeqK.q (q_asC rfl rfl) rfl rfl rfl ?_
      refine SeqK.nil ?_
      refine AW.reg ?_
      refine SeqK.q (q_add _ rfl rfl rfl (w64 (by omega) (by omega))) rfl rfl rfl ?_
      refine SeqK.q (q_mvC rfl rfl) rfl rfl rfl ?_
      refine SeqK.nil ?_
      first | with_reducible refine LoopW.again ?_ | with_reducible refine eth_n (LoopW.again ?_) | with_reducible refine eb_n (eth_n (LoopW.again ?_)) | with_reducible refine eth_n (eb_n (eth_n (LoopW.again ?_)))
      refine AW.seq ?_
      refine AW.reg ?_
      refine SeqK.q (q_lss rfl rfl rfl) rfl rfl rfl ?_
      refine SeqK.nil ?_
      refine AW.seq ?_
      refine AW.condF rfl ?_
      refine AW.exit ?_
      refine eth_e ?_
      refine eth_e ?_
      refine exit_here ?_
      refine AW.seq ?_
      refine AW.reg ?_
      refine SeqK.q (q_mvC rfl rfl) rfl rfl rfl ?_
      refine SeqK.q (q_asC rfl rfl) rfl rfl rfl ?_
      refine SeqK.nil ?_
      refine AW.ret ?_
      exact fin_x (x := .c _) (H) (.tmp rfl .nil) rfl (fun _ _ h => h) (⟨rfl, rfl⟩)
    ·
      exact absurd (by rw [List.mem_singleton.1 hm11]; simp) hn11

theorem coefs_c (H : Heap) (km b ck : Nat) (hm : H km = some (.map (.int .i64) [⟨.int .i64 0, .a (.t (.v (.int .i64 1))), b⟩] ck)) (hb : b < ck) : E.Spec Tryz.prog 86 [.a (.mp km)] H fun x H' => x = .c (.a (.t (.sl .un 2 [[.v (.int .i64 0), .v (.int .i64 1)]]))) ∧ H' = H :=
  (coefs_c0 H km b ck hm hb).res fun x H' ⟨hx, hH⟩ => ⟨_, by rw [hx]; exact XW.un, rfl, hH⟩
end Go.Proofs.YtnmfjojhgfipcaaGreatDoor.W
