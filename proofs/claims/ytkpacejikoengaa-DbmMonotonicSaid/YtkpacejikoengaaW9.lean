import Derived.Test.YtkpacejikoengaaW8
namespace Go.Proofs.Ytkpacejikoengaa.W
open Go.RowKit E M
set_option linter.unusedVariables false
set_option linter.unusedSimpArgs false
abbrev blT (b : Bool) : List T := [.v (.bool b)]
theorem bll : ∀ x : Bool, (blT x).length = 1 := fun _ => rfl
theorem two_up {H : Heap} {a b : Nat} {A A' B B' : Option AO} (h : a ≠ b) : upd (upd (upd (upd H a A) b B) a A') b B' = upd (upd H a A') b B' := by
  funext j
  by_cases hb : j = b
  · rw [hb, upd_same, upd_same]
  · by_cases ha : j = a
    · rw [ha] at hb ⊢; rw [upd_ne _ _ hb, upd_same, upd_ne _ _ hb, upd_same]
    · rw [upd_ne _ _ hb, upd_ne _ _ ha, upd_ne _ _ hb, upd_ne _ _ ha, upd_ne _ _ hb, upd_ne _ _ ha]
theorem two_up1 {H : Heap} {a b : Nat} {A A' B : Option AO} (h : a ≠ b) : upd (upd (upd H a A) b B) a A' = upd (upd H a A') b B := by
  funext j
  by_cases ha : j = a
  · rw [ha, upd_same, upd_ne _ _ h, upd_same]
  · by_cases hb : j = b
    · rw [hb] at ha ⊢; rw [upd_ne _ _ ha, upd_same, upd_same]
    · rw [upd_ne _ _ ha, upd_ne _ _ hb, upd_ne _ _ ha, upd_ne _ _ hb, upd_ne _ _ ha]

set_option maxRecDepth 20000 in
theorem greatest_any (H : Heap) (n : Nat) (z : Nz) (l : List Bd) (i j : Int) (hn : n ≤ 10) (hl : l.length ≤ 41) (hok : ∀ b ∈ l, OkB n b) (hs : Sat l) (hi0 : 0 ≤ i) (hi1 : i ≤ n) (hj0 : 0 ≤ j) (hj1 : j ≤ n) : E.Spec Try.prog 17 [iC n, bdL z l, iC i, iC j] H fun x H' => (∃ c ok, x = .tup [iC c, .a (.t (.v (.bool ok)))] ∧ BR l i j (if ok = true then c else 0) ok) ∧ H' = H := by
  obtain ⟨ls, hL⟩ := lev_ex hok j
  have hL : Levels l n (fun v => decide (v = j)) ls := by
    have e : (fun v => decide (j < 0) || decide (v = j)) = fun v : Int => decide (v = j) := by funext v; simp; omega
    rwa [e] at hL
  refine Spec.enter Try.func17 rfl ?_
  refine AW.wk (Wk.keep 93 [(0, .c (iC n)), (1, .c (bdL z l)), (2, .c (iC i)), (3, .c (iC j))] [] (H) rfl ⟨rfl, rfl, rfl, rfl, trivial⟩ trivial (fun _ _ h => h) rfl) ?_
  refine AW.seq ?_
  refine AW.reg ?_
  refine SeqK.q (q_asC rfl rfl) rfl rfl rfl ?_
  refine SeqK.q (q_asC rfl rfl) rfl rfl rfl ?_
  refine SeqK.nil ?_
  refine AW.seq ?_
  refine AW.reg ?_
  refine SeqK.q (q_mvC rfl rfl) rfl rfl rfl ?_
  refine SeqK.q (q_add _ rfl rfl rfl ((by rw [w64 (by omega) (by omega)]; omega : IntKind.i64.wrap _ = ((n + 1 : Nat) : Int)))) rfl rfl rfl ?_
  refine SeqK.make (zc := (blT false).map .t) (m := n + 1) rfl rfl Fx.el43 Fx.ze4 rfl rfl rfl rfl (by omega) rfl rfl (fun k17 hk17 => ?_)
  rw [rowE_rep]
  refine SeqK.q (q_asC rfl rfl) rfl rfl rfl ?_
  refine SeqK.nil ?_
  refine AW.seq ?_
  refine AW.reg ?_
  refine SeqK.q (q_mvC rfl rfl) rfl rfl rfl ?_
  refine SeqK.q (q_add _ rfl rfl rfl ((by rw [w64 (by omega) (by omega)]; omega : IntKind.i64.wrap _ = ((n + 1 : Nat) : Int)))) rfl rfl rfl ?_
  refine SeqK.make (zc := (i64T 0).map .t) (m := n + 1) rfl rfl Fx.el28 Fx.ze2 rfl rfl rfl rfl (by omega) rfl rfl (fun k20 hk20 => ?_)
  rw [rowE_rep]
  obtain ⟨nkk, hk20'⟩ := upd_lt hk20
  have nkk := nkk.symm
  have hjr : j.toNat < (List.replicate (n + 1) false).length := by simp; omega
  refine SeqK.q (q_asC rfl rfl) rfl rfl rfl ?_
  refine SeqK.nil ?_
  refine AW.seq ?_
  refine AW.reg ?_
  refine SeqK.q (q_mvC rfl rfl) rfl rfl rfl ?_
  refine SeqK.q (q_mvC rfl rfl) rfl rfl rfl ?_
  refine SeqK.q (q_indexOs _ rfl Fx.sl43 rfl rfl (by omega) (by omega) rfl) rfl rfl rfl ?_
  refine SeqK.r (g_storeR rfl rfl Fx.ty4 rfl rfl (by (repeat rw [upd_ne _ _ (by first | assumption | exact Ne.symm (by assumption))]); first | assumption | exact upd_same _ _ _) (row_st bll hjr true) rfl (row_in0 bll hjr) (by decide)) rfl ?_
  refine SeqK.nil ?_
  refine AW.seq ?_
  refine AW.seq ?_
  refine AW.wk (Wk.keep 93 [(0, .c (iC n)), (1, .c (bdL z l)), (2, .c (iC i)), (10, .c (.a (.os k17 0 (n + 1) 1))), (11, .c (.a (.os k20 0 (n + 1) 1)))] [] (upd (upd H k17 (some (.row 4 1 (rowE blT ((List.replicate (n + 1) false).set j.toNat true))))) k20 (some (.row 2 1 (rowE i64T (List.replicate (n + 1) 0))))) rfl ⟨rfl, rfl, rfl, rfl, rfl, trivial⟩ trivial (fun j o h => by show upd (upd (upd _ k17 _) k20 _) k17 _ j = _; rw [two_up1 nkk]; exact h) rfl) ?_
  refine AW.reg ?_
  refine SeqK.q (q_asC rfl rfl) rfl rfl rfl ?_
  refine SeqK.nil ?_
  refine AW.block ?_
  refine AW.loop (fun (r : Nat) s => ∃ (ks : List Bool) (xs : List Int), (r ≤ n + 2 ∧ GR l n j (W ls (min r (n + 1))) ks xs 0 (r * l.length)) ∧ s = ⟨93, sp [(0, .c (iC n)), (1, .c (bdL z l)), (2, .c (iC i)), (10, .c (.a (.os k17 0 (n + 1) 1))), (11, .c (.a (.os k20 0 (n + 1) 1))), (12, iX .i64 ((r : Nat) : Int))], lv [], upd (upd H k17 (some (.row 4 1 (rowE blT ks)))) k20 (some (.row 2 1 (rowE i64T xs)))⟩) (fun r => n + 2 - r) 0 ⟨_, Wk.keep 93 [(0, .c (iC n)), (1, .c (bdL z l)), (2, .c (iC i)), (10, .c (.a (.os k17 0 (n + 1) 1))), (11, .c (.a (.os k20 0 (n + 1) 1))), (12, iX .i64 ((((0 : Nat)) : Nat) : Int))] [] (upd (upd H k17 (some (.row 4 1 (rowE blT ((List.replicate (n + 1) false).set j.toNat true))))) k20 (some (.row 2 1 (rowE i64T (List.replicate (n + 1) 0))))) rfl ⟨rfl, rfl, rfl, rfl, rfl, rfl, trivial⟩ trivial (fun _ _ h => h) rfl, (List.replicate (n + 1) false).set j.toNat true, List.replicate (n + 1) 0, ⟨by omega, by rw [Nat.zero_mul]; exact GR.start hj0 hj1 hL⟩, rfl⟩ (fun r s hs => ?_)
  obtain ⟨ks, xs, ⟨hr, hor⟩, rfl⟩ := hs
  refine AW.seq ?_
  refine AW.seq ?_
  refine AW.reg ?_
  refine SeqK.q (q_mvC rfl rfl) rfl rfl rfl ?_
  refine SeqK.q (q_mvC rfl rfl) rfl rfl rfl ?_
  refine SeqK.q (q_add _ rfl rfl rfl (w64 (by omega) (by omega))) rfl rfl rfl ?_
  refine SeqK.q (q_leq rfl rfl rfl) rfl rfl rfl ?_
  refine SeqK.nil ?_
  refine AW.condD rfl (fun h27 => ?_) (fun h27 => ?_)
  ·
    have hrl := rl l (r := r) (n := n) (by omega) hn hl
    refine AW.skip ?_
    refine AW.seq ?_
    refine AW.block ?_
    refine AW.seq ?_
    refine AW.reg ?_
    refine SeqK.q (q_asC rfl rfl) rfl rfl rfl ?_
    refine SeqK.nil ?_
    refine AW.block ?_
    refine AW.loop (fun (p : Nat) s => ∃ (ks2 : List Bool) (xs2 : List Int), (p ≤ l.length ∧ GR l n j (W ls (min r (n + 1))) ks2 xs2 p (r * l.length + p)) ∧ s = ⟨93, sp [(0, .c (iC n)), (1, .c (bdL z l)), (2, .c (iC i)), (10, .c (.a (.os k17 0 (n + 1) 1))), (11, .c (.a (.os k20 0 (n + 1) 1))), (12, iX .i64 ((r : Nat) : Int)), (13, iX .i64 ((p : Nat) : Int))], lv [], upd (upd H k17 (some (.row 4 1 (rowE blT ks2)))) k20 (some (.row 2 1 (rowE i64T xs2)))⟩) (fun p => l.length - p) 0 ⟨_, Wk.keep 93 [(0, .c (iC n)), (1, .c (bdL z l)), (2, .c (iC i)), (10, .c (.a (.os k17 0 (n + 1) 1))), (11, .c (.a (.os k20 0 (n + 1) 1))), (12, iX .i64 ((r : Nat) : Int)), (13, iX .i64 ((((0 : Nat)) : Nat) : Int))] [] (upd (upd H k17 (some (.row 4 1 (rowE blT (ks))))) k20 (some (.row 2 1 (rowE i64T (xs))))) rfl ⟨rfl, rfl, rfl, rfl, rfl, rfl, rfl, trivial⟩ trivial (fun _ _ h => h) rfl, ks, xs, ⟨by omega, hor⟩, rfl⟩ (fun p s hs => ?_)
    obtain ⟨ks2, xs2, ⟨hp, hsr⟩, rfl⟩ := hs
    refine AW.seq ?_
    refine AW.seq ?_
    refine AW.reg ?_
    refine SeqK.q (q_mvC rfl rfl) rfl rfl rfl ?_
    refine SeqK.q (q_mvC rfl rfl) rfl rfl rfl ?_
    refine SeqK.q (q_len rfl Fx.un22 rfl) rfl rfl rfl ?_
    refine SeqK.q (q_lss rfl rfl rfl) rfl rfl rfl ?_
    refine SeqK.nil ?_
    refine AW.condD rfl (fun h33 => ?_) (fun h33 => ?_)
    ·
      have hka : p < l.length := by simp at h33; omega
      obtain ⟨ho1, ho2, ho3, ho4, ho5, ho6⟩ := hok _ (List.getElem_mem hka)
      have hlen := hsr.len
      have hklen := hsr.klen
      have hi9 : l[p].i.toNat < xs2.length := by omega
      have hj9 : l[p].j.toNat < xs2.length := by omega
      have hik : l[p].i.toNat < ks2.length := by omega
      have hjk : l[p].j.toNat < ks2.length := by omega
      have xi : xf xs2 l[p].i = xs2[l[p].i.toNat] := xf_get hi9
      have xj : xf xs2 l[p].j = xs2[l[p].j.toNat] := xf_get hj9
      have bi : kf ks2 l[p].i = ks2[l[p].i.toNat] := kf_get hik
      have bj : kf ks2 l[p].j = ks2[l[p].j.toNat] := kf_get hjk
      have hsm := hsr.sm l[p].j
      rw [xj] at hsm
      refine AW.skip ?_
      refine AW.seq ?_
      refine AW.block ?_
      refine AW.seq ?_
      refine AW.reg ?_
      refine SeqK.q (q_mvC rfl rfl) rfl rfl rfl ?_
      refine SeqK.q (q_mvC rfl rfl) rfl rfl rfl ?_
      refine SeqK.q (q_index _ rfl Fx.sl22 rfl rfl (by omega) (idx_bd hka)) rfl rfl rfl ?_
      refine SeqK.q (q_load (.g [_, _, _]) rfl Fx.ty41 rfl rfl rfl) rfl rfl rfl ?_
      refine SeqK.r (b_alloc (r := [_, _, _]) rfl rfl Fx.ze41 rfl rfl rfl rfl) rfl ?_
      refine SeqK.r (b_store (r := [_, _, _]) rfl rfl Fx.ty41 rfl rfl rfl rfl rfl rfl) rfl ?_
      refine SeqK.nil ?_
      refine AW.seq ?_
      refine AW.draw Fx.mo ?_
      refine LexK.q (q_mvC rfl rfl) rfl rfl rfl ?_
      refine LexK.q (q_fieldL _ rfl Fx.fl41_1 rfl rfl) rfl rfl rfl ?_
      refine LexK.r (b_load (r := .a _) rfl Fx.ty3 rfl rfl rfl rfl rfl rfl) rfl ?_
      refine LexK.q (q_indexOs _ rfl Fx.sl43 rfl rfl (by omega) (by omega) rfl) rfl rfl rfl ?_
      refine LexK.r (g_loadR rfl Fx.ty4 rfl (by (repeat rw [upd_ne _ _ (by first | assumption | exact Ne.symm (by assumption))]); first | assumption | exact upd_same _ _ _) (congrArg (mkC _) (row_load bll hjk)) (row_in0 bll hjk) (by decide) rfl rfl) rfl ?_
      refine LexK.qB (q_mvC rfl rfl) rfl rfl rfl (fun g45 => ?_) (fun g45 => ?_)
      ·
        refine LexK.on (q_mvC rfl rfl) rfl rfl rfl rfl rfl ?_
        refine LexK.on (q_fieldL _ rfl Fx.fl41_0 rfl rfl) rfl rfl rfl rfl rfl ?_
        refine LexK.rOn (b_load (r := .a _) rfl Fx.ty3 rfl rfl rfl rfl rfl rfl) rfl rfl rfl ?_
        refine LexK.on (q_indexOs _ rfl Fx.sl43 rfl rfl (by omega) (by omega) rfl) rfl rfl rfl rfl rfl ?_
        refine LexK.rOn (g_loadR rfl Fx.ty4 rfl (by (repeat rw [upd_ne _ _ (by first | assumption | exact Ne.symm (by assumption))]); first | assumption | exact upd_same _ _ _) (congrArg (mkC _) (row_load bll hik)) (row_in0 bll hik) (by decide) rfl rfl) rfl rfl rfl ?_
        refine LexK.on (q_not rfl rfl) rfl rfl rfl rfl rfl ?_
        refine LexK.onB (q_mvC rfl rfl) rfl rfl rfl rfl rfl (fun g52 => ?_) (fun g52 => ?_)
        ·
          refine LexK.off rfl rfl rfl rfl rfl rfl ?_
          refine LexK.off rfl rfl rfl rfl rfl rfl ?_
          refine LexK.off rfl rfl rfl rfl rfl rfl ?_
          refine LexK.off rfl rfl rfl rfl rfl rfl ?_
          refine LexK.off rfl rfl rfl rfl rfl rfl ?_
          refine LexK.off rfl rfl rfl rfl rfl rfl ?_
          refine LexK.off rfl rfl rfl rfl rfl rfl ?_
          refine LexK.off rfl rfl rfl rfl rfl rfl ?_
          refine LexK.off rfl rfl rfl rfl rfl rfl ?_
          refine LexK.off rfl rfl rfl rfl rfl rfl ?_
          refine LexK.off rfl rfl rfl rfl rfl rfl ?_
          refine LexK.off rfl rfl rfl rfl rfl rfl ?_
          refine LexK.off rfl rfl rfl rfl rfl rfl ?_
          refine LexK.off rfl rfl rfl rfl rfl rfl ?_
          refine LexK.on (q_pkT rfl rfl rfl) rfl rfl rfl rfl rfl ?_
          refine LexK.q (q_pkT rfl rfl rfl) rfl rfl rfl ?_
          refine LexK.nil (by kernel_rfl) ?_
          refine AW.condT rfl ?_
          refine AW.seq ?_
          refine AW.reg ?_
          refine SeqK.q (q_mvC rfl rfl) rfl rfl rfl ?_
          refine SeqK.q (q_fieldL _ rfl Fx.fl41_0 rfl rfl) rfl rfl rfl ?_
          refine SeqK.r (b_load (r := .a _) rfl Fx.ty3 rfl rfl rfl rfl rfl rfl) rfl ?_
          refine SeqK.q (q_indexOs _ rfl Fx.sl43 rfl rfl (by omega) (by omega) rfl) rfl rfl rfl ?_
          refine SeqK.r (g_storeR rfl rfl Fx.ty4 rfl rfl (by (repeat rw [upd_ne _ _ (by first | assumption | exact Ne.symm (by assumption))]); first | assumption | exact upd_same _ _ _) (row_st bll hik true) rfl (row_in0 bll hik) (by decide)) rfl ?_
          refine SeqK.nil ?_
          refine AW.draw Fx.mo ?_
          refine LexK.q (q_mvC rfl rfl) rfl rfl rfl ?_
          refine LexK.q (q_fieldL _ rfl Fx.fl41_0 rfl rfl) rfl rfl rfl ?_
          refine LexK.r (b_load (r := .a _) rfl Fx.ty3 rfl rfl rfl rfl rfl rfl) rfl ?_
          refine LexK.q (q_mvC rfl rfl) rfl rfl rfl ?_
          refine LexK.q (q_fieldL _ rfl Fx.fl41_1 rfl rfl) rfl rfl rfl ?_
          refine LexK.r (b_load (r := .a _) rfl Fx.ty3 rfl rfl rfl rfl rfl rfl) rfl ?_
          refine LexK.q (q_indexOs _ rfl Fx.sl28 rfl rfl (by omega) (by omega) rfl) rfl rfl rfl ?_
          refine LexK.r (g_loadR rfl Fx.ty2 rfl (by (repeat rw [upd_ne _ _ (by first | assumption | exact Ne.symm (by assumption))]); first | assumption | exact upd_same _ _ _) (congrArg (mkC _) (row_load i64l hj9)) (row_in0 i64l hj9) (by decide) rfl rfl) rfl ?_
          refine LexK.q (q_fieldL _ rfl Fx.fl41_2 rfl rfl) rfl rfl rfl ?_
          refine LexK.r (b_load (r := .a _) rfl Fx.ty2 rfl rfl rfl rfl rfl rfl) rfl ?_
          refine LexK.q (q_add _ rfl rfl rfl (w64 (by omega) (by omega))) rfl rfl rfl ?_
          refine LexK.q (q_indexOs _ rfl Fx.sl28 rfl rfl (by omega) (by omega) rfl) rfl rfl rfl ?_
          refine LexK.r (g_storeR rfl rfl Fx.ty2 rfl rfl (by (repeat rw [upd_ne _ _ (by first | assumption | exact Ne.symm (by assumption))]); first | assumption | exact upd_same _ _ _) (row_st i64l hi9 _) rfl (row_in0 i64l hi9) (by decide)) rfl ?_
          refine LexK.nil (by kernel_rfl) ?_
          refine AW.reg ?_
          refine SeqK.q (q_mvC rfl rfl) rfl rfl rfl ?_
          refine SeqK.q (q_add _ rfl rfl rfl (w64 (by omega) (by omega))) rfl rfl rfl ?_
          refine SeqK.q (q_asC rfl rfl) rfl rfl rfl ?_
          refine SeqK.nil ?_
          exact ⟨p + 1, _, Wk.keep 93 [(0, .c (iC n)), (1, .c (bdL z l)), (2, .c (iC i)), (10, .c (.a (.os k17 0 (n + 1) 1))), (11, .c (.a (.os k20 0 (n + 1) 1))), (12, iX .i64 ((r : Nat) : Int)), (13, iX .i64 (((p + 1) : Nat) : Int))] [] (upd (upd H k17 (some (.row 4 1 (rowE blT (ks2.set l[p].i.toNat true))))) k20 (some (.row 2 1 (rowE i64T (xs2.set l[p].i.toNat (xs2[l[p].j.toNat] + l[p].c)))))) rfl ⟨rfl, rfl, rfl, rfl, rfl, rfl, rfl, trivial⟩ trivial (fun j o h => by show upd (upd (upd (upd _ k17 _) k20 _) k17 _) k20 _ j = _; rw [two_up nkk]; exact h) rfl, by omega, ks2.set l[p].i.toNat true, xs2.set l[p].i.toNat (xs2[l[p].j.toNat] + l[p].c), ⟨by omega, by have := hsr.relax hok hka (by rw [bj]; exact g45) (by rw [bi, xj, xi]; intro h9; rw [h9] at g52; cases g52); rw [xj] at this; exact this⟩, rfl⟩
        ·
          refine LexK.on (q_mvC rfl rfl) rfl rfl rfl rfl rfl ?_
          refine LexK.on (q_fieldL _ rfl Fx.fl41_0 rfl rfl) rfl rfl rfl rfl rfl ?_
          refine LexK.rOn (b_load (r := .a _) rfl Fx.ty3 rfl rfl rfl rfl rfl rfl) rfl rfl rfl ?_
          refine LexK.on (q_indexOs _ rfl Fx.sl28 rfl rfl (by omega) (by omega) rfl) rfl rfl rfl rfl rfl ?_
          refine LexK.rOn (g_loadR rfl Fx.ty2 rfl (by (repeat rw [upd_ne _ _ (by first | assumption | exact Ne.symm (by assumption))]); first | assumption | exact upd_same _ _ _) (congrArg (mkC _) (row_load i64l hi9)) (row_in0 i64l hi9) (by decide) rfl rfl) rfl rfl rfl ?_
          refine LexK.on (q_mvC rfl rfl) rfl rfl rfl rfl rfl ?_
          refine LexK.on (q_fieldL _ rfl Fx.fl41_1 rfl rfl) rfl rfl rfl rfl rfl ?_
          refine LexK.rOn (b_load (r := .a _) rfl Fx.ty3 rfl rfl rfl rfl rfl rfl) rfl rfl rfl ?_
          refine LexK.on (q_indexOs _ rfl Fx.sl28 rfl rfl (by omega) (by omega) rfl) rfl rfl rfl rfl rfl ?_
          refine LexK.rOn (g_loadR rfl Fx.ty2 rfl (by (repeat rw [upd_ne _ _ (by first | assumption | exact Ne.symm (by assumption))]); first | assumption | exact upd_same _ _ _) (congrArg (mkC _) (row_load i64l hj9)) (row_in0 i64l hj9) (by decide) rfl rfl) rfl rfl rfl ?_
          refine LexK.on (q_fieldL _ rfl Fx.fl41_2 rfl rfl) rfl rfl rfl rfl rfl ?_
          refine LexK.rOn (b_load (r := .a _) rfl Fx.ty2 rfl rfl rfl rfl rfl rfl) rfl rfl rfl ?_
          refine LexK.on (q_add _ rfl rfl rfl (w64 (by omega) (by omega))) rfl rfl rfl rfl rfl ?_
          refine LexK.on (q_gtr rfl rfl rfl) rfl rfl rfl rfl rfl ?_
          refine LexK.on (q_pkF rfl rfl rfl) rfl rfl rfl rfl rfl ?_
          refine LexK.q (q_pkT rfl rfl rfl) rfl rfl rfl ?_
          refine LexK.nil (by kernel_rfl) ?_
          refine AW.condD rfl (fun h68 => ?_) (fun h68 => ?_)
          ·
            refine AW.seq ?_
            refine AW.reg ?_
            refine SeqK.q (q_mvC rfl rfl) rfl rfl rfl ?_
            refine SeqK.q (q_fieldL _ rfl Fx.fl41_0 rfl rfl) rfl rfl rfl ?_
            refine SeqK.r (b_load (r := .a _) rfl Fx.ty3 rfl rfl rfl rfl rfl rfl) rfl ?_
            refine SeqK.q (q_indexOs _ rfl Fx.sl43 rfl rfl (by omega) (by omega) rfl) rfl rfl rfl ?_
            refine SeqK.r (g_storeR rfl rfl Fx.ty4 rfl rfl (by (repeat rw [upd_ne _ _ (by first | assumption | exact Ne.symm (by assumption))]); first | assumption | exact upd_same _ _ _) (row_st bll hik true) rfl (row_in0 bll hik) (by decide)) rfl ?_
            refine SeqK.nil ?_
            refine AW.draw Fx.mo ?_
            refine LexK.q (q_mvC rfl rfl) rfl rfl rfl ?_
            refine LexK.q (q_fieldL _ rfl Fx.fl41_0 rfl rfl) rfl rfl rfl ?_
            refine LexK.r (b_load (r := .a _) rfl Fx.ty3 rfl rfl rfl rfl rfl rfl) rfl ?_
            refine LexK.q (q_mvC rfl rfl) rfl rfl rfl ?_
            refine LexK.q (q_fieldL _ rfl Fx.fl41_1 rfl rfl) rfl rfl rfl ?_
            refine LexK.r (b_load (r := .a _) rfl Fx.ty3 rfl rfl rfl rfl rfl rfl) rfl ?_
            refine LexK.q (q_indexOs _ rfl Fx.sl28 rfl rfl (by omega) (by omega) rfl) rfl rfl rfl ?_
            refine LexK.r (g_loadR rfl Fx.ty2 rfl (by (repeat rw [upd_ne _ _ (by first | assumption | exact Ne.symm (by assumption))]); first | assumption | exact upd_same _ _ _) (congrArg (mkC _) (row_load i64l hj9)) (row_in0 i64l hj9) (by decide) rfl rfl) rfl ?_
            refine LexK.q (q_fieldL _ rfl Fx.fl41_2 rfl rfl) rfl rfl rfl ?_
            refine LexK.r (b_load (r := .a _) rfl Fx.ty2 rfl rfl rfl rfl rfl rfl) rfl ?_
            refine LexK.q (q_add _ rfl rfl rfl (w64 (by omega) (by omega))) rfl rfl rfl ?_
            refine LexK.q (q_indexOs _ rfl Fx.sl28 rfl rfl (by omega) (by omega) rfl) rfl rfl rfl ?_
            refine LexK.r (g_storeR rfl rfl Fx.ty2 rfl rfl (by (repeat rw [upd_ne _ _ (by first | assumption | exact Ne.symm (by assumption))]); first | assumption | exact upd_same _ _ _) (row_st i64l hi9 _) rfl (row_in0 i64l hi9) (by decide)) rfl ?_
            refine LexK.nil (by kernel_rfl) ?_
            refine AW.reg ?_
            refine SeqK.q (q_mvC rfl rfl) rfl rfl rfl ?_
            refine SeqK.q (q_add _ rfl rfl rfl (w64 (by omega) (by omega))) rfl rfl rfl ?_
            refine SeqK.q (q_asC rfl rfl) rfl rfl rfl ?_
            refine SeqK.nil ?_
            exact ⟨p + 1, _, Wk.keep 93 [(0, .c (iC n)), (1, .c (bdL z l)), (2, .c (iC i)), (10, .c (.a (.os k17 0 (n + 1) 1))), (11, .c (.a (.os k20 0 (n + 1) 1))), (12, iX .i64 ((r : Nat) : Int)), (13, iX .i64 (((p + 1) : Nat) : Int))] [] (upd (upd H k17 (some (.row 4 1 (rowE blT (ks2.set l[p].i.toNat true))))) k20 (some (.row 2 1 (rowE i64T (xs2.set l[p].i.toNat (xs2[l[p].j.toNat] + l[p].c)))))) rfl ⟨rfl, rfl, rfl, rfl, rfl, rfl, rfl, trivial⟩ trivial (fun j o h => by show upd (upd (upd (upd _ k17 _) k20 _) k17 _) k20 _ j = _; rw [two_up nkk]; exact h) rfl, by omega, ks2.set l[p].i.toNat true, xs2.set l[p].i.toNat (xs2[l[p].j.toNat] + l[p].c), ⟨by omega, by have := hsr.relax hok hka (by rw [bj]; exact g45) (by rw [bi, xj, xi]; intro _; exact h68); rw [xj] at this; exact this⟩, rfl⟩
          ·
            refine AW.skip ?_
            refine AW.reg ?_
            refine SeqK.q (q_mvC rfl rfl) rfl rfl rfl ?_
            refine SeqK.q (q_add _ rfl rfl rfl (w64 (by omega) (by omega))) rfl rfl rfl ?_
            refine SeqK.q (q_asC rfl rfl) rfl rfl rfl ?_
            refine SeqK.nil ?_
            exact ⟨p + 1, _, Wk.keep 93 [(0, .c (iC n)), (1, .c (bdL z l)), (2, .c (iC i)), (10, .c (.a (.os k17 0 (n + 1) 1))), (11, .c (.a (.os k20 0 (n + 1) 1))), (12, iX .i64 ((r : Nat) : Int)), (13, iX .i64 (((p + 1) : Nat) : Int))] [] (upd (upd H k17 (some (.row 4 1 (rowE blT (ks2))))) k20 (some (.row 2 1 (rowE i64T (xs2))))) rfl ⟨rfl, rfl, rfl, rfl, rfl, rfl, rfl, trivial⟩ trivial (fun _ _ h => h) rfl, by omega, ks2, xs2, ⟨by omega, hsr.skip hok hka (by rw [bj, bi, xj, xi]; intro _; exact ⟨by simpa using g52, by omega⟩)⟩, rfl⟩
      ·
        refine LexK.off rfl rfl rfl rfl rfl rfl ?_
        refine LexK.off rfl rfl rfl rfl rfl rfl ?_
        refine LexK.off rfl rfl rfl rfl rfl rfl ?_
        refine LexK.off rfl rfl rfl rfl rfl rfl ?_
        refine LexK.off rfl rfl rfl rfl rfl rfl ?_
        refine LexK.off rfl rfl rfl rfl rfl rfl ?_
        refine LexK.off rfl rfl rfl rfl rfl rfl ?_
        refine LexK.offU rfl rfl rfl rfl rfl ?_
        refine LexK.offU rfl rfl rfl rfl rfl ?_
        refine LexK.offU rfl rfl rfl rfl rfl ?_
        refine LexK.offU rfl rfl rfl rfl rfl ?_
        refine LexK.offU rfl rfl rfl rfl rfl ?_
        refine LexK.offU rfl rfl rfl rfl rfl ?_
        refine LexK.offU rfl rfl rfl rfl rfl ?_
        refine LexK.offU rfl rfl rfl rfl rfl ?_
        refine LexK.offU rfl rfl rfl rfl rfl ?_
        refine LexK.offU rfl rfl rfl rfl rfl ?_
        refine LexK.offU rfl rfl rfl rfl rfl ?_
        refine LexK.offU rfl rfl rfl rfl rfl ?_
        refine LexK.offU rfl rfl rfl rfl rfl ?_
        refine LexK.offU rfl rfl rfl rfl rfl ?_
        refine LexK.off rfl rfl rfl rfl rfl rfl ?_
        refine LexK.q (q_pkF rfl rfl rfl) rfl rfl rfl ?_
        refine LexK.nil (by kernel_rfl) ?_
        refine AW.condF rfl ?_
        refine AW.skip ?_
        refine AW.reg ?_
        refine SeqK.q (q_mvC rfl rfl) rfl rfl rfl ?_
        refine SeqK.q (q_add _ rfl rfl rfl (w64 (by omega) (by omega))) rfl rfl rfl ?_
        refine SeqK.q (q_asC rfl rfl) rfl rfl rfl ?_
        refine SeqK.nil ?_
        exact ⟨p + 1, _, Wk.keep 93 [(0, .c (iC n)), (1, .c (bdL z l)), (2, .c (iC i)), (10, .c (.a (.os k17 0 (n + 1) 1))), (11, .c (.a (.os k20 0 (n + 1) 1))), (12, iX .i64 ((r : Nat) : Int)), (13, iX .i64 (((p + 1) : Nat) : Int))] [] (upd (upd H k17 (some (.row 4 1 (rowE blT (ks2))))) k20 (some (.row 2 1 (rowE i64T (xs2))))) rfl ⟨rfl, rfl, rfl, rfl, rfl, rfl, rfl, trivial⟩ trivial (fun _ _ h => h) rfl, by omega, ks2, xs2, ⟨by omega, hsr.skip hok hka (by rw [bj, bi, xj, xi]; intro h9; rw [h9] at g45; cases g45)⟩, rfl⟩
    ·
      refine AW.exit ?_
      refine eth_e ?_
      refine eth_e ?_
      refine exit_here ?_
      obtain rfl : p = l.length := by simp at h33; omega
      refine AW.reg ?_
      refine SeqK.q (q_mvC rfl rfl) rfl rfl rfl ?_
      refine SeqK.q (q_add _ rfl rfl rfl (w64 (by omega) (by omega))) rfl rfl rfl ?_
      refine SeqK.q (q_asC rfl rfl) rfl rfl rfl ?_
      refine SeqK.nil ?_
      exact ⟨r + 1, _, Wk.keep 93 [(0, .c (iC n)), (1, .c (bdL z l)), (2, .c (iC i)), (10, .c (.a (.os k17 0 (n + 1) 1))), (11, .c (.a (.os k20 0 (n + 1) 1))), (12, iX .i64 (((r + 1) : Nat) : Int))] [] (upd (upd H k17 (some (.row 4 1 (rowE blT (ks2))))) k20 (some (.row 2 1 (rowE i64T (xs2))))) rfl ⟨rfl, rfl, rfl, rfl, rfl, rfl, trivial⟩ trivial (fun _ _ h => h) rfl, by omega, ks2, xs2, ⟨by omega, by
        rw [Nat.succ_mul]
        by_cases e : r = n + 1
        · subst e
          rw [Nat.min_eq_right (by omega)] at hsr ⊢
          exact hsr.more fun v _ _ h => ⟨h, Int.le_refl _⟩
        · rw [Nat.min_eq_left (by omega)] at hsr ⊢
          exact hsr.next (hL.step r (by omega))⟩, rfl⟩
  ·
    refine AW.exit ?_
    refine eth_e ?_
    refine eth_e ?_
    refine exit_here ?_
    refine AW.seq ?_
    obtain rfl : r = n + 2 := by omega
    rw [Nat.min_eq_right (by omega)] at hor
    have hlen := hor.len
    have hklen := hor.klen
    have hxi : i.toNat < xs.length := by omega
    have hki : i.toNat < ks.length := by omega
    refine AW.draw Fx.mo ?_
    refine LexK.q (q_mvC rfl rfl) rfl rfl rfl ?_
    refine LexK.q (q_mvC rfl rfl) rfl rfl rfl ?_
    refine LexK.q (q_indexOs _ rfl Fx.sl28 rfl rfl (by omega) (by omega) rfl) rfl rfl rfl ?_
    refine LexK.r (g_loadR rfl Fx.ty2 rfl (by (repeat rw [upd_ne _ _ (by first | assumption | exact Ne.symm (by assumption))]); first | assumption | exact upd_same _ _ _) (congrArg (mkC _) (row_load i64l hxi)) (row_in0 i64l hxi) (by decide) rfl rfl) rfl ?_
    refine LexK.q (q_mvC rfl rfl) rfl rfl rfl ?_
    refine LexK.q (q_mvC rfl rfl) rfl rfl rfl ?_
    refine LexK.q (q_indexOs _ rfl Fx.sl43 rfl rfl (by omega) (by omega) rfl) rfl rfl rfl ?_
    refine LexK.r (g_loadR rfl Fx.ty4 rfl (by (repeat rw [upd_ne _ _ (by first | assumption | exact Ne.symm (by assumption))]); first | assumption | exact upd_same _ _ _) (congrArg (mkC _) (row_load bll hki)) (row_in0 bll hki) (by decide) rfl rfl) rfl ?_
    refine LexK.q (q_asC rfl rfl) rfl rfl rfl ?_
    refine LexK.q (q_asC rfl rfl) rfl rfl rfl ?_
    refine LexK.nil (by kernel_rfl) ?_
    refine AW.ret ?_
    exact fin_x (x := .tup [_, _]) (H) (.tmp rfl (.tmp rfl .nil)) rfl (fun j o h => upd_sub (by rw [upd_ne _ _ nkk.symm]; exact hk20') j o (upd_sub hk17 j o h)) (⟨⟨_, _, rfl, by have := hor.done hs hok hj0 hj1 hi0 hi1 hL; rw [xf_get hxi, kf_get hki] at this; exact this⟩, rfl⟩)

end Go.Proofs.Ytkpacejikoengaa.W
