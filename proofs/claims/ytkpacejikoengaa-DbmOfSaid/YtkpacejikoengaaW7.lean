import Derived.Test.YtkpacejikoengaaW2
namespace Go.Proofs.Ytkpacejikoengaa.W
open Go.RowKit E M
set_option linter.unusedVariables false
set_option linter.unusedSimpArgs false
abbrev bdC (b : Bd) : C := .g [.t (.v (.int .i64 b.i)), .t (.v (.int .i64 b.j)), .t (.v (.int .i64 b.c))]
/-- the bounds that are taken -/
def okL (n : Nat) (l : List Bd) : List Bd := l.filter fun b => decide (adE n b = 0)
theorem okL_snoc {n : Nat} {l : List Bd} {i : Nat} (h : i < l.length) : okL n (l.take (i + 1)) = adL n (okL n (l.take i)) l[i] := by
  unfold okL adL
  rw [List.take_add_one, List.getElem?_eq_getElem h, List.filter_append]
  by_cases e : adE n l[i] = 0
  · rw [if_pos e]; simp [e]
  · rw [if_neg e]; simp [e]
theorem okL_len {n : Nat} {l : List Bd} : (okL n l).length ≤ l.length := List.length_filter_le _ _

set_option maxRecDepth 20000 in
theorem limit_any  : Pure Try.prog 31 [] (iX .i64 1125899906842624) := by
  intro H
  refine Spec.enter Try.func31 rfl ?_
  refine AW.wk (Wk.keep 1 [] [] (H) rfl trivial trivial (fun _ _ h => h) rfl) ?_
  refine AW.seq ?_
  refine AW.reg ?_
  refine SeqK.q (q_asC rfl rfl) rfl rfl rfl ?_
  refine SeqK.nil ?_
  refine AW.seq ?_
  refine AW.reg ?_
  refine SeqK.q (q_asC rfl rfl) rfl rfl rfl ?_
  refine SeqK.nil ?_
  refine AW.ret ?_
  exact fin_x (x := .c _) H (.tmp rfl .nil) rfl (fun _ _ h => h) ⟨rfl, rfl⟩

set_option maxRecDepth 20000 in
theorem refadd_any (n : Nat) (b : Bd) : Pure Try.prog 26 [iC n, bdC b] (iX .i64 (adE n b)) := by
  intro H
  refine Spec.enter Try.func26 rfl ?_
  refine AW.wk (Wk.keep 36 [(0, .c (iC n)), (1, .c (bdC b))] [] (H) rfl ⟨rfl, rfl, trivial⟩ trivial (fun _ _ h => h) rfl) ?_
  refine AW.seq ?_
  refine AW.reg ?_
  refine SeqK.r (b_box (r := [_, _, _]) rfl rfl rfl rfl rfl rfl) rfl ?_
  refine SeqK.q (q_asC rfl rfl) rfl rfl rfl ?_
  refine SeqK.nil ?_
  refine AW.seq ?_
  refine AW.seq ?_
  refine AW.reg ?_
  refine SeqK.q (q_fieldL _ rfl Fx.fl41_0 rfl rfl) rfl rfl rfl ?_
  refine SeqK.r (b_load (r := .a _) rfl Fx.ty3 rfl rfl rfl rfl rfl rfl) rfl ?_
  refine SeqK.q (q_lss rfl rfl rfl) rfl rfl rfl ?_
  refine SeqK.qD (q_mvC rfl rfl) rfl rfl rfl (fun g8 => ?_) (fun g8 => ?_)
  ·
    refine SeqK.off rfl rfl rfl rfl rfl rfl ?_
    refine SeqK.off rfl rfl rfl rfl rfl rfl ?_
    refine SeqK.off rfl rfl rfl rfl rfl rfl ?_
    refine SeqK.off rfl rfl rfl rfl rfl rfl ?_
    refine SeqK.q (q_pkT rfl rfl rfl) rfl rfl rfl ?_
    refine SeqK.q (q_mvC rfl rfl) rfl rfl rfl ?_
    refine SeqK.off rfl rfl rfl rfl rfl rfl ?_
    refine SeqK.off rfl rfl rfl rfl rfl rfl ?_
    refine SeqK.off rfl rfl rfl rfl rfl rfl ?_
    refine SeqK.q (q_pkT rfl rfl rfl) rfl rfl rfl ?_
    refine SeqK.q (q_mvC rfl rfl) rfl rfl rfl ?_
    refine SeqK.off rfl rfl rfl rfl rfl rfl ?_
    refine SeqK.off rfl rfl rfl rfl rfl rfl ?_
    refine SeqK.off rfl rfl rfl rfl rfl rfl ?_
    refine SeqK.off rfl rfl rfl rfl rfl rfl ?_
    refine SeqK.q (q_pkT rfl rfl rfl) rfl rfl rfl ?_
    refine SeqK.nil ?_
    refine AW.condT rfl ?_
    refine AW.seq ?_
    refine AW.reg ?_
    refine SeqK.q (q_asC rfl rfl) rfl rfl rfl ?_
    refine SeqK.nil ?_
    refine AW.ret ?_
    exact fin_x (x := .c _) H (.tmp rfl .nil) rfl (fun _ _ h => h) ⟨by rw [adE_1 (by simp_all <;> omega)], rfl⟩
  ·
    refine SeqK.on (q_fieldL _ rfl Fx.fl41_0 rfl rfl) rfl rfl rfl rfl rfl ?_
    refine SeqK.rOn (b_load (r := .a _) rfl Fx.ty3 rfl rfl rfl rfl rfl rfl) rfl rfl rfl ?_
    refine SeqK.on (q_mvC rfl rfl) rfl rfl rfl rfl rfl ?_
    refine SeqK.on (q_gtr rfl rfl rfl) rfl rfl rfl rfl rfl ?_
    refine SeqK.q (q_pkF rfl rfl rfl) rfl rfl rfl ?_
    refine SeqK.qD (q_mvC rfl rfl) rfl rfl rfl (fun g14 => ?_) (fun g14 => ?_)
    ·
      refine SeqK.off rfl rfl rfl rfl rfl rfl ?_
      refine SeqK.off rfl rfl rfl rfl rfl rfl ?_
      refine SeqK.off rfl rfl rfl rfl rfl rfl ?_
      refine SeqK.q (q_pkT rfl rfl rfl) rfl rfl rfl ?_
      refine SeqK.q (q_mvC rfl rfl) rfl rfl rfl ?_
      refine SeqK.off rfl rfl rfl rfl rfl rfl ?_
      refine SeqK.off rfl rfl rfl rfl rfl rfl ?_
      refine SeqK.off rfl rfl rfl rfl rfl rfl ?_
      refine SeqK.off rfl rfl rfl rfl rfl rfl ?_
      refine SeqK.q (q_pkT rfl rfl rfl) rfl rfl rfl ?_
      refine SeqK.nil ?_
      refine AW.condT rfl ?_
      refine AW.seq ?_
      refine AW.reg ?_
      refine SeqK.q (q_asC rfl rfl) rfl rfl rfl ?_
      refine SeqK.nil ?_
      refine AW.ret ?_
      exact fin_x (x := .c _) H (.tmp rfl .nil) rfl (fun _ _ h => h) ⟨by rw [adE_1 (by simp_all <;> omega)], rfl⟩
    ·
      refine SeqK.on (q_fieldL _ rfl Fx.fl41_1 rfl rfl) rfl rfl rfl rfl rfl ?_
      refine SeqK.rOn (b_load (r := .a _) rfl Fx.ty3 rfl rfl rfl rfl rfl rfl) rfl rfl rfl ?_
      refine SeqK.on (q_lss rfl rfl rfl) rfl rfl rfl rfl rfl ?_
      refine SeqK.q (q_pkF rfl rfl rfl) rfl rfl rfl ?_
      refine SeqK.qD (q_mvC rfl rfl) rfl rfl rfl (fun g19 => ?_) (fun g19 => ?_)
      ·
        refine SeqK.off rfl rfl rfl rfl rfl rfl ?_
        refine SeqK.off rfl rfl rfl rfl rfl rfl ?_
        refine SeqK.off rfl rfl rfl rfl rfl rfl ?_
        refine SeqK.off rfl rfl rfl rfl rfl rfl ?_
        refine SeqK.q (q_pkT rfl rfl rfl) rfl rfl rfl ?_
        refine SeqK.nil ?_
        refine AW.condT rfl ?_
        refine AW.seq ?_
        refine AW.reg ?_
        refine SeqK.q (q_asC rfl rfl) rfl rfl rfl ?_
        refine SeqK.nil ?_
        refine AW.ret ?_
        exact fin_x (x := .c _) H (.tmp rfl .nil) rfl (fun _ _ h => h) ⟨by rw [adE_1 (by simp_all <;> omega)], rfl⟩
      ·
        refine SeqK.on (q_fieldL _ rfl Fx.fl41_1 rfl rfl) rfl rfl rfl rfl rfl ?_
        refine SeqK.rOn (b_load (r := .a _) rfl Fx.ty3 rfl rfl rfl rfl rfl rfl) rfl rfl rfl ?_
        refine SeqK.on (q_mvC rfl rfl) rfl rfl rfl rfl rfl ?_
        refine SeqK.on (q_gtr rfl rfl rfl) rfl rfl rfl rfl rfl ?_
        refine SeqK.q (q_pkF rfl rfl rfl) rfl rfl rfl ?_
        refine SeqK.nil ?_
        refine AW.condD rfl (fun h24 => ?_) (fun h24 => ?_)
        ·
          refine AW.seq ?_
          refine AW.reg ?_
          refine SeqK.q (q_asC rfl rfl) rfl rfl rfl ?_
          refine SeqK.nil ?_
          refine AW.ret ?_
          exact fin_x (x := .c _) H (.tmp rfl .nil) rfl (fun _ _ h => h) ⟨by rw [adE_1 (by simp_all <;> omega)], rfl⟩
        ·
          refine AW.skip ?_
          refine AW.seq ?_
          refine AW.seq ?_
          refine AW.draw Fx.mo ?_
          refine LexK.q (q_fieldL _ rfl Fx.fl41_2 rfl rfl) rfl rfl rfl ?_
          refine LexK.r (b_load (r := .a _) rfl Fx.ty2 rfl rfl rfl rfl rfl rfl) rfl ?_
          refine LexK.q (q_call _ rfl Fx.fn31 rfl (limit_any) rfl) rfl rfl rfl ?_
          refine LexK.q (q_neg _ rfl rfl (w64 (by omega) (by omega))) rfl rfl rfl ?_
          refine LexK.q (q_lss rfl rfl rfl) rfl rfl rfl ?_
          refine LexK.qD (q_mvC rfl rfl) rfl rfl rfl (fun g30 => ?_) (fun g30 => ?_)
          ·
            refine LexK.off rfl rfl rfl rfl rfl rfl ?_
            refine LexK.off rfl rfl rfl rfl rfl rfl ?_
            refine LexK.off rfl rfl rfl rfl rfl rfl ?_
            refine LexK.off rfl rfl rfl rfl rfl rfl ?_
            refine LexK.q (q_pkT rfl rfl rfl) rfl rfl rfl ?_
            refine LexK.nil (by kernel_rfl) ?_
            refine AW.condT rfl ?_
            refine AW.seq ?_
            refine AW.reg ?_
            refine SeqK.q (q_asC rfl rfl) rfl rfl rfl ?_
            refine SeqK.nil ?_
            refine AW.ret ?_
            exact fin_x (x := .c _) H (.tmp rfl .nil) rfl (fun _ _ h => h) ⟨by rw [adE_3 (by simp_all <;> omega) (by simp_all <;> omega)], rfl⟩
          ·
            refine LexK.on (q_fieldL _ rfl Fx.fl41_2 rfl rfl) rfl rfl rfl rfl rfl ?_
            refine LexK.rOn (b_load (r := .a _) rfl Fx.ty2 rfl rfl rfl rfl rfl rfl) rfl rfl rfl ?_
            refine LexK.on (q_call _ rfl Fx.fn31 rfl (limit_any) rfl) rfl rfl rfl rfl rfl ?_
            refine LexK.on (q_gtr rfl rfl rfl) rfl rfl rfl rfl rfl ?_
            refine LexK.q (q_pkF rfl rfl rfl) rfl rfl rfl ?_
            refine LexK.nil (by kernel_rfl) ?_
            refine AW.condD rfl (fun h35 => ?_) (fun h35 => ?_)
            ·
              refine AW.seq ?_
              refine AW.reg ?_
              refine SeqK.q (q_asC rfl rfl) rfl rfl rfl ?_
              refine SeqK.nil ?_
              refine AW.ret ?_
              exact fin_x (x := .c _) H (.tmp rfl .nil) rfl (fun _ _ h => h) ⟨by rw [adE_3 (by simp_all <;> omega) (by simp_all <;> omega)], rfl⟩
            ·
              refine AW.skip ?_
              refine AW.seq ?_
              refine AW.reg ?_
              refine SeqK.q (q_asC rfl rfl) rfl rfl rfl ?_
              refine SeqK.nil ?_
              refine AW.ret ?_
              exact fin_x (x := .c _) H (.tmp rfl .nil) rfl (fun _ _ h => h) ⟨by rw [adE_ok (by refine ⟨?_, ?_, ?_, ?_, ?_, ?_⟩ <;> simp_all <;> omega)], rfl⟩


theorem new_no (H : Heap) (n : Int) (h : ¬ (0 ≤ n ∧ n ≤ 64)) : E.Spec Try.prog 23 [iC n] H fun x H' => x = .tup [.a (.t (.v (.pointer none))), iC 1] ∧ H' = H :=
  (new_any H n).mono fun x H' q => by
    rcases q with ⟨_, h1, h2⟩ | ⟨h1, h2, _⟩
    · exact ⟨h1, h2⟩
    · exact absurd ⟨h1, h2⟩ h
theorem new_ok (H : Heap) (n : Nat) (h : n ≤ 64) : E.Spec Try.prog 23 [iC n] H fun x H' => ∃ k, x = .tup [.a (.bp k 0), iC 0] ∧ Mat H' k n [] ∧ ∀ j o, H j = some o → H' j = some o :=
  (new_any H n).mono fun x H' q => by
    rcases q with ⟨h1, _⟩ | ⟨_, _, k, h1, h2, h3⟩
    · exact absurd ⟨by omega, by omega⟩ h1
    · exact ⟨k, h1, by simpa using h2, h3⟩
theorem idx_bd {l : List Bd} {k : Nat} (h : k < l.length) : (l.map bdT)[((k : Nat) : Int).toNat]? = some (bdT l[k]) := idx_map h

set_option maxRecDepth 20000 in
theorem small_any (n : Int) (z : Nz) (l : List Bd) : Pure Try.prog 12 [iC n, bdL z l] (bX (decide (n ≤ 10 ∧ l.length ≤ 40))) := by
  intro H
  refine Spec.enter Try.func12 rfl ?_
  refine AW.wk (Wk.keep 12 [(0, .c (iC n)), (1, .c (bdL z l))] [] (H) rfl ⟨rfl, rfl, trivial⟩ trivial (fun _ _ h => h) rfl) ?_
  refine AW.seq ?_
  refine AW.reg ?_
  refine SeqK.q (q_asC rfl rfl) rfl rfl rfl ?_
  refine SeqK.nil ?_
  refine AW.seq ?_
  refine AW.reg ?_
  refine SeqK.q (q_mvC rfl rfl) rfl rfl rfl ?_
  refine SeqK.q (q_leq rfl rfl rfl) rfl rfl rfl ?_
  refine SeqK.qD (q_mvC rfl rfl) rfl rfl rfl (fun g7 => ?_) (fun g7 => ?_)
  ·
    refine SeqK.on (q_mvC rfl rfl) rfl rfl rfl rfl rfl ?_
    refine SeqK.on (q_len rfl Fx.un22 rfl) rfl rfl rfl rfl rfl ?_
    refine SeqK.on (q_leq rfl rfl rfl) rfl rfl rfl rfl rfl ?_
    refine SeqK.q (q_pkT rfl rfl rfl) rfl rfl rfl ?_
    refine SeqK.q (q_asC rfl rfl) rfl rfl rfl ?_
    refine SeqK.nil ?_
    refine AW.ret ?_
    exact fin_x (x := .c _) H (.tmp rfl .nil) rfl (fun _ _ h => h) ⟨by congr 1; simp_all; omega, rfl⟩
  ·
    refine SeqK.off rfl rfl rfl rfl rfl rfl ?_
    refine SeqK.off rfl rfl rfl rfl rfl rfl ?_
    refine SeqK.off rfl rfl rfl rfl rfl rfl ?_
    refine SeqK.q (q_pkF rfl rfl rfl) rfl rfl rfl ?_
    refine SeqK.q (q_asC rfl rfl) rfl rfl rfl ?_
    refine SeqK.nil ?_
    refine AW.ret ?_
    exact fin_x (x := .c _) H (.tmp rfl .nil) rfl (fun _ _ h => h) ⟨by congr 1; simp_all; omega, rfl⟩

set_option maxRecDepth 20000 in
theorem built_any (H : Heap) (n : Int) (z : Nz) (l : List Bd) (hl : l.length ≤ 1000) : E.Spec Try.prog 13 [iC n, bdL z l] H fun x H' => (¬ (0 ≤ n ∧ n ≤ 64) ∧ x = .tup [.a (.t (.v (.pointer none))), .a (.t (.v (.slice none 0 0))), .a (.t (.v (.bool true)))]) ∨ (0 ≤ n ∧ n ≤ 64 ∧ ∃ k, x = .tup [.a (.bp k 0), bdL .ne (okL n.toNat l), .a (.t (.v (.bool true)))] ∧ Mat H' k n.toNat (okL n.toNat l)) := by
  refine Spec.enter Try.func13 rfl ?_
  refine AW.wk (Wk.keep 64 [(0, .c (iC n)), (1, .c (bdL z l))] [] (H) rfl ⟨rfl, rfl, trivial⟩ trivial (fun _ _ h => h) rfl) ?_
  refine AW.seq ?_
  refine AW.reg ?_
  refine SeqK.q (q_asC rfl rfl) rfl rfl rfl ?_
  refine SeqK.q (q_asC rfl rfl) rfl rfl rfl ?_
  refine SeqK.q (q_asC rfl rfl) rfl rfl rfl ?_
  refine SeqK.nil ?_
  refine AW.seq ?_
  by_cases hn : 0 ≤ n ∧ n ≤ 64
  ·
    obtain ⟨m, rfl⟩ : ∃ m : Nat, n = m := ⟨n.toNat, by omega⟩
    have hm : m ≤ 64 := by omega
    refine AW.reg ?_
    refine SeqK.q (q_mvC rfl rfl) rfl rfl rfl ?_
    refine SeqK.callE rfl rfl rfl rfl Fx.fn23 rfl (new_ok H m hm) (fun _ _ h => by obtain ⟨_, h, _⟩ := h; rw [h]; rfl) (fun x15 H15 q15 => ?_)
    obtain ⟨k, rfl, M, hfr⟩ := q15
    refine SeqK.q (q_mvT rfl rfl) rfl rfl rfl ?_
    refine SeqK.q (q_extract _ rfl rfl rfl) rfl rfl rfl ?_
    refine SeqK.q (q_extract _ rfl rfl rfl) rfl rfl rfl ?_
    refine SeqK.q (q_asC rfl rfl) rfl rfl rfl ?_
    refine SeqK.q (q_asC rfl rfl) rfl rfl rfl ?_
    refine SeqK.nil ?_
    refine AW.seq ?_
    refine AW.seq ?_
    refine AW.reg ?_
    refine SeqK.q (q_mvC rfl rfl) rfl rfl rfl ?_
    refine SeqK.q (q_lss rfl rfl rfl) rfl rfl rfl ?_
    refine SeqK.qD (q_mvC rfl rfl) rfl rfl rfl (fun g20 => ?_) (fun g20 => ?_)
    ·
      exact absurd g20 (by omega)
    ·
      refine SeqK.on (q_mvC rfl rfl) rfl rfl rfl rfl rfl ?_
      refine SeqK.on (q_gtr rfl rfl rfl) rfl rfl rfl rfl rfl ?_
      refine SeqK.q (q_pkF rfl rfl rfl) rfl rfl rfl ?_
      refine SeqK.nil ?_
      refine AW.condD rfl (fun h23 => ?_) (fun h23 => ?_)
      ·
        exact absurd h23 (by omega)
      ·
        refine AW.skip ?_
        refine AW.seq ?_
        refine AW.seq ?_
        refine AW.reg ?_
        refine SeqK.q (q_mvC rfl rfl) rfl rfl rfl ?_
        refine SeqK.q (q_eqlN rfl rfl rfl Fx.nk25) rfl rfl rfl ?_
        refine SeqK.q (q_mvC rfl rfl) rfl rfl rfl ?_
        refine SeqK.on (q_mvC rfl rfl) rfl rfl rfl rfl rfl ?_
        refine SeqK.on (q_neq rfl rfl rfl) rfl rfl rfl rfl rfl ?_
        refine SeqK.q (q_pkF rfl rfl rfl) rfl rfl rfl ?_
        refine SeqK.nil ?_
        refine AW.condF rfl ?_
        refine AW.skip ?_
        refine AW.seq ?_
        refine AW.reg ?_
        refine SeqK.q (q_asC rfl rfl) rfl rfl rfl ?_
        refine SeqK.nil ?_
        refine AW.seq ?_
        refine AW.seq ?_
        refine AW.reg ?_
        refine SeqK.q (q_mvC rfl rfl) rfl rfl rfl ?_
        refine SeqK.q (q_len rfl Fx.un22 rfl) rfl rfl rfl ?_
        refine SeqK.q (q_mvC rfl rfl) rfl rfl rfl ?_
        refine SeqK.nil ?_
        refine AW.block ?_
        refine AW.tip 9 41 3 rfl (fun k0 hk0 => ?_)
        refine AW.loop (fun (i : Nat) s => ∃ (Hx : Heap) (kp : Nat) (all : List Bd) (E : List (List T)), (i ≤ l.length ∧ all = okL m (l.take i) ∧ Mat Hx k m all ∧ E = all.map bdT ∧ Hx kp = some (.tip 41 3 E.length)) ∧ s = ⟨64, sp [(0, .c (iC m)), (7, .c (.a (.bp k 0))), (9, .c (.a (.ts kp .ne 3 E))), (36, .c (bdL z l)), (37, iX .i64 ((l.map bdT).length : Nat)), (38, iX .i64 ((i : Nat) : Int))], lv [], Hx⟩) (fun i => l.length - i) 0 ⟨_, Wk.keep 64 [(0, .c (iC m)), (7, .c (.a (.bp k 0))), (9, .c (.a (.ts (k0) .ne 3 ([])))), (36, .c (bdL z l)), (37, iX .i64 ((l.map bdT).length : Nat)), (38, iX .i64 ((((0 : Nat)) : Nat) : Int))] [] ((_)) rfl ⟨rfl, rfl, rfl, rfl, rfl, rfl, trivial⟩ trivial (fun _ _ h => h) rfl, _, k0, [], [], ⟨Nat.zero_le _, rfl, M.new hk0, rfl, upd_same _ _ _⟩, rfl⟩ (fun i s hs => ?_)
        obtain ⟨Hx, kp, all, E, ⟨hi, hall, M, hE, htp⟩, rfl⟩ := hs
        subst hall
        have hEl : E.length ≤ l.length := by rw [hE, List.length_map]; exact Nat.le_trans okL_len (by simp; omega)
        refine AW.seq ?_
        refine AW.reg ?_
        refine SeqK.q (q_lss rfl rfl rfl) rfl rfl rfl ?_
        refine SeqK.nil ?_
        refine AW.seq ?_
        refine AW.condD rfl (fun h39 => ?_) (fun h39 => ?_)
        ·
          have hka : i < l.length := by simp at h39; omega
          refine AW.skip ?_
          refine AW.seq ?_
          refine AW.block ?_
          refine AW.seq ?_
          refine AW.reg ?_
          refine SeqK.q (q_index _ rfl Fx.sl22 rfl rfl (by omega) (idx_bd hka)) rfl rfl rfl ?_
          refine SeqK.q (q_load (.g [_, _, _]) rfl Fx.ty41 rfl rfl rfl) rfl rfl rfl ?_
          refine SeqK.r (b_alloc (r := [_, _, _]) rfl rfl Fx.ze41 rfl rfl rfl rfl) rfl ?_
          refine SeqK.r (b_store (r := [_, _, _]) rfl rfl Fx.ty41 rfl rfl rfl rfl rfl rfl) rfl ?_
          refine SeqK.nil ?_
          refine AW.seq ?_
          refine AW.reg ?_
          refine SeqK.q (q_mvC rfl rfl) rfl rfl rfl ?_
          refine SeqK.r (b_load (r := .g [_, _, _]) rfl Fx.ty41 rfl rfl rfl rfl rfl rfl) rfl ?_
          refine SeqK.q (q_call _ rfl Fx.fn26 rfl (refadd_any m l[i]) rfl) rfl rfl rfl ?_
          refine SeqK.q (q_asC rfl rfl) rfl rfl rfl ?_
          refine SeqK.nil ?_
          refine AW.seq ?_
          refine AW.seq ?_
          refine AW.reg ?_
          refine SeqK.q (q_mvC rfl rfl) rfl rfl rfl ?_
          refine SeqK.q (q_fieldL _ rfl Fx.fl41_0 rfl rfl) rfl rfl rfl ?_
          refine SeqK.r (b_load (r := .a _) rfl Fx.ty3 rfl rfl rfl rfl rfl rfl) rfl ?_
          refine SeqK.q (q_fieldL _ rfl Fx.fl41_1 rfl rfl) rfl rfl rfl ?_
          refine SeqK.r (b_load (r := .a _) rfl Fx.ty3 rfl rfl rfl rfl rfl rfl) rfl ?_
          refine SeqK.q (q_fieldL _ rfl Fx.fl41_2 rfl rfl) rfl rfl rfl ?_
          refine SeqK.r (b_load (r := .a _) rfl Fx.ty2 rfl rfl rfl rfl rfl rfl) rfl ?_
          refine SeqK.callE rfl rfl rfl rfl Fx.fn22 rfl (add_any _ _ _ _ l[i] M (by have := okL_len (n := m) (l := l.take i); simp at this; omega)) (fun _ _ h => by rw [h.1]; rfl) (fun x52 H52 q52 => ?_)
          obtain ⟨rfl, M, htips⟩ := q52
          replace htp := htips _ _ _ _ (by decide) htp
          refine SeqK.q (q_mvC rfl rfl) rfl rfl rfl ?_
          refine SeqK.q (q_neq rfl rfl rfl) rfl rfl rfl ?_
          refine SeqK.nil ?_
          refine AW.condD rfl (fun h54 => ?_) (fun h54 => ?_)
          ·
            exact (h54 rfl).elim
          ·
            refine AW.skip ?_
            refine AW.seq ?_
            refine AW.reg ?_
            refine SeqK.q (q_mvC rfl rfl) rfl rfl rfl ?_
            refine SeqK.q (q_eql rfl rfl rfl) rfl rfl rfl ?_
            refine SeqK.nil ?_
            refine AW.condD rfl (fun h56 => ?_) (fun h56 => ?_)
            ·
              refine AW.reg ?_
              refine SeqK.q (q_mvC rfl rfl) rfl rfl rfl ?_
              refine SeqK.r (b_load (r := .g [_, _, _]) rfl Fx.ty41 rfl rfl rfl rfl rfl rfl) rfl ?_
              refine SeqK.q (q_buildSlice _ rfl Fx.el22 rfl (by decide) rfl) rfl rfl rfl ?_
              refine SeqK.app rfl rfl Fx.el22 rfl htp rfl (by simp; omega) rfl rfl (fun k60 hk60 => ?_)
              refine SeqK.q (q_asC rfl rfl) rfl rfl rfl ?_
              refine SeqK.nil ?_
              refine AW.reg ?_
              refine SeqK.q (q_add _ rfl rfl rfl (w64 (by omega) (by omega))) rfl rfl rfl ?_
              refine SeqK.q (q_mvC rfl rfl) rfl rfl rfl ?_
              refine SeqK.nil ?_
              exact ⟨i + 1, _, Wk.keep 64 [(0, .c (iC m)), (7, .c (.a (.bp k 0))), (9, .c (.a (.ts (_) .ne 3 (_)))), (36, .c (bdL z l)), (37, iX .i64 ((l.map bdT).length : Nat)), (38, iX .i64 (((i + 1) : Nat) : Int))] [] ((_)) rfl ⟨rfl, rfl, rfl, rfl, rfl, rfl, trivial⟩ trivial (fun _ _ h => h) rfl, by omega, _, _, _, _, ⟨by omega, (okL_snoc hka).symm, M.move htp hk60, by rw [show adL m (okL m (l.take i)) l[i] = _ from if_pos h56, hE]; simp, upd_same _ _ _⟩, rfl⟩
            ·
              refine AW.skip ?_
              refine AW.reg ?_
              refine SeqK.q (q_add _ rfl rfl rfl (w64 (by omega) (by omega))) rfl rfl rfl ?_
              refine SeqK.q (q_mvC rfl rfl) rfl rfl rfl ?_
              refine SeqK.nil ?_
              exact ⟨i + 1, _, Wk.keep 64 [(0, .c (iC m)), (7, .c (.a (.bp k 0))), (9, .c (.a (.ts (_) .ne 3 (_)))), (36, .c (bdL z l)), (37, iX .i64 ((l.map bdT).length : Nat)), (38, iX .i64 (((i + 1) : Nat) : Int))] [] ((_)) rfl ⟨rfl, rfl, rfl, rfl, rfl, rfl, trivial⟩ trivial (fun _ _ h => h) rfl, by omega, _, _, _, _, ⟨by omega, (okL_snoc hka).symm, M, by rw [show adL m (okL m (l.take i)) l[i] = _ from if_neg h56, hE], htp⟩, rfl⟩
        ·
          refine AW.exit ?_
          refine eth_e ?_
          refine eth_e ?_
          refine exit_here ?_
          refine AW.seq ?_
          refine AW.reg ?_
          refine SeqK.q (q_mvC rfl rfl) rfl rfl rfl ?_
          refine SeqK.q (q_mvC rfl rfl) rfl rfl rfl ?_
          refine SeqK.q (q_asC rfl rfl) rfl rfl rfl ?_
          refine SeqK.q (q_asC rfl rfl) rfl rfl rfl ?_
          refine SeqK.q (q_asC rfl rfl) rfl rfl rfl ?_
          refine SeqK.nil ?_
          refine AW.ret ?_
          exact fin_w (x := .tup [_, _, _]) (_) (.tmp rfl (.tmp rfl (.tmp rfl .nil))) rfl (fun _ _ h => h) (.inr ⟨by omega, by omega, k, by rw [hE, show okL (m : Int).toNat l = okL m (l.take i) by simp [show i = l.length by simp at h39; omega]]; rfl, by simpa [show i = l.length by simp at h39; omega] using M⟩)
  ·
    have hcase : True := trivial
    refine AW.reg ?_
    refine SeqK.q (q_mvC rfl rfl) rfl rfl rfl ?_
    refine SeqK.callE rfl rfl rfl rfl Fx.fn23 rfl (new_no H n hn) (fun _ _ h => by rw [h.1]; rfl) (fun x15 H15 q15 => ?_)
    obtain ⟨rfl, hH⟩ := q15
    replace hH := hH.symm
    subst hH
    refine SeqK.q (q_mvT rfl rfl) rfl rfl rfl ?_
    refine SeqK.q (q_extract _ rfl rfl rfl) rfl rfl rfl ?_
    refine SeqK.q (q_extract _ rfl rfl rfl) rfl rfl rfl ?_
    refine SeqK.q (q_asC rfl rfl) rfl rfl rfl ?_
    refine SeqK.q (q_asC rfl rfl) rfl rfl rfl ?_
    refine SeqK.nil ?_
    refine AW.seq ?_
    refine AW.seq ?_
    refine AW.reg ?_
    refine SeqK.q (q_mvC rfl rfl) rfl rfl rfl ?_
    refine SeqK.q (q_lss rfl rfl rfl) rfl rfl rfl ?_
    refine SeqK.qD (q_mvC rfl rfl) rfl rfl rfl (fun g20 => ?_) (fun g20 => ?_)
    ·
      refine SeqK.off rfl rfl rfl rfl rfl rfl ?_
      refine SeqK.off rfl rfl rfl rfl rfl rfl ?_
      refine SeqK.q (q_pkT rfl rfl rfl) rfl rfl rfl ?_
      refine SeqK.nil ?_
      refine AW.condT rfl ?_
      refine AW.seq ?_
      refine AW.reg ?_
      refine SeqK.q (q_mvC rfl rfl) rfl rfl rfl ?_
      refine SeqK.q (q_eqlN rfl rfl rfl Fx.nk25) rfl rfl rfl ?_
      refine SeqK.q (q_mvC rfl rfl) rfl rfl rfl ?_
      refine SeqK.on (q_mvC rfl rfl) rfl rfl rfl rfl rfl ?_
      refine SeqK.on (q_eql rfl rfl rfl) rfl rfl rfl rfl rfl ?_
      refine SeqK.q (q_pkT rfl rfl rfl) rfl rfl rfl ?_
      refine SeqK.q (q_asC rfl rfl) rfl rfl rfl ?_
      refine SeqK.q (q_asC rfl rfl) rfl rfl rfl ?_
      refine SeqK.q (q_asC rfl rfl) rfl rfl rfl ?_
      refine SeqK.nil ?_
      refine AW.ret ?_
      exact fin_x (x := .tup [_, _, _]) (_) (.tmp rfl (.tmp rfl (.tmp rfl .nil))) rfl (fun _ _ h => h) (.inl ⟨hn, rfl⟩)
    ·
      refine SeqK.on (q_mvC rfl rfl) rfl rfl rfl rfl rfl ?_
      refine SeqK.on (q_gtr rfl rfl rfl) rfl rfl rfl rfl rfl ?_
      refine SeqK.q (q_pkF rfl rfl rfl) rfl rfl rfl ?_
      refine SeqK.nil ?_
      refine AW.condD rfl (fun h23 => ?_) (fun h23 => ?_)
      ·
        refine AW.seq ?_
        refine AW.reg ?_
        refine SeqK.q (q_mvC rfl rfl) rfl rfl rfl ?_
        refine SeqK.q (q_eqlN rfl rfl rfl Fx.nk25) rfl rfl rfl ?_
        refine SeqK.q (q_mvC rfl rfl) rfl rfl rfl ?_
        refine SeqK.on (q_mvC rfl rfl) rfl rfl rfl rfl rfl ?_
        refine SeqK.on (q_eql rfl rfl rfl) rfl rfl rfl rfl rfl ?_
        refine SeqK.q (q_pkT rfl rfl rfl) rfl rfl rfl ?_
        refine SeqK.q (q_asC rfl rfl) rfl rfl rfl ?_
        refine SeqK.q (q_asC rfl rfl) rfl rfl rfl ?_
        refine SeqK.q (q_asC rfl rfl) rfl rfl rfl ?_
        refine SeqK.nil ?_
        refine AW.ret ?_
        exact fin_x (x := .tup [_, _, _]) (_) (.tmp rfl (.tmp rfl (.tmp rfl .nil))) rfl (fun _ _ h => h) (.inl ⟨hn, rfl⟩)
      ·
        exact (hn ⟨by omega, by omega⟩).elim

end Go.Proofs.Ytkpacejikoengaa.W
