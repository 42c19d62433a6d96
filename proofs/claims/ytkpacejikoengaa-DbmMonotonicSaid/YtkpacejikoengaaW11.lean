import Derived.Test.YtkpacejikoengaaW9
import Derived.Test.YtkpacejikoengaaW10
namespace Go.Proofs.Ytkpacejikoengaa.W
open Go.RowKit E M
set_option linter.unusedVariables false
set_option linter.unusedSimpArgs false
theorem okL_ok {n : Nat} {l : List Bd} : ∀ b ∈ okL n l, OkB n b := fun b hb => adE_0 (of_decide_eq_true (List.mem_filter.1 hb).2)
theorem built_no (H : Heap) (n : Int) (z : Nz) (l : List Bd) (hl : l.length ≤ 1000) (h : ¬ (0 ≤ n ∧ n ≤ 64)) : E.Spec Try.prog 13 [iC n, bdL z l] H fun x H' => x = .tup [.a (.t (.v (.pointer none))), .a (.t (.v (.slice none 0 0))), .a (.t (.v (.bool true)))] :=
  (built_any H n z l hl).mono fun x H' q => by
    rcases q with ⟨_, h1⟩ | ⟨h1, h2, _⟩
    · exact h1
    · exact absurd ⟨h1, h2⟩ h
theorem built_ok (H : Heap) (n : Nat) (z : Nz) (l : List Bd) (hl : l.length ≤ 1000) (h : n ≤ 64) : E.Spec Try.prog 13 [iC n, bdL z l] H fun x H' => ∃ k, x = .tup [.a (.bp k 0), bdL .ne (okL n l), .a (.t (.v (.bool true)))] ∧ Mat H' k n (okL n l) :=
  (built_any H n z l hl).mono fun x H' q => by
    rcases q with ⟨h1, _⟩ | ⟨_, _, k, h1, h2⟩
    · exact absurd ⟨by omega, by omega⟩ h1
    · exact ⟨k, by simpa using h1, by simpa using h2⟩

set_option maxRecDepth 20000 in
theorem matches_law (n : Int) (z : Nz) (l : List Bd) (H : Heap) : E.Spec Try.prog 3 [iC n, bdL z l] H fun x _ => x = bX true := by
  refine Spec.enter Try.func3 rfl ?_
  refine AW.wk (Wk.keep 111 [(0, .c (iC n)), (1, .c (bdL z l))] [] (H) rfl ⟨rfl, rfl, trivial⟩ trivial (fun _ _ h => h) rfl) ?_
  refine AW.seq ?_
  refine AW.reg ?_
  refine SeqK.q (q_asC rfl rfl) rfl rfl rfl ?_
  refine SeqK.nil ?_
  refine AW.seq ?_
  refine AW.seq ?_
  refine AW.reg ?_
  refine SeqK.callE rfl rfl rfl rfl Fx.fn11 rfl (awake_any _) (fun _ _ h => by rw [h]; rfl) (fun x16 H16 q16 => ?_)
  obtain rfl := q16
  refine SeqK.q (q_not rfl rfl) rfl rfl rfl ?_
  refine SeqK.nil ?_
  refine AW.condF rfl ?_
  refine AW.skip ?_
  refine AW.seq ?_
  refine AW.seq ?_
  refine AW.reg ?_
  refine SeqK.q (q_mvC rfl rfl) rfl rfl rfl ?_
  refine SeqK.q (q_mvC rfl rfl) rfl rfl rfl ?_
  refine SeqK.q (q_call _ rfl Fx.fn12 rfl (small_any n z l) rfl) rfl rfl rfl ?_
  refine SeqK.q (q_not rfl rfl) rfl rfl rfl ?_
  refine SeqK.nil ?_
  refine AW.cond _ rfl (fun h21 => ?_) (fun h21 => ?_)
  ·
    refine AW.seq ?_
    refine AW.reg ?_
    refine SeqK.q (q_asC rfl rfl) rfl rfl rfl ?_
    refine SeqK.nil ?_
    refine AW.ret ?_
    exact fin_x (x := .c _) (_) (.tmp rfl .nil) rfl (fun _ _ h => h) (rfl)
  ·
    have hsm : n ≤ 10 ∧ l.length ≤ 40 := by simpa using h21
    refine AW.skip ?_
    refine AW.seq ?_
    by_cases hn : 0 ≤ n ∧ n ≤ 64
    ·
      obtain ⟨m, rfl⟩ : ∃ m : Nat, n = m := ⟨n.toNat, by omega⟩
      have hm : m ≤ 64 := by omega
      have h40 : (okL m l).length ≤ 40 := Nat.le_trans okL_len hsm.2
      have h41 : (okL m l).length ≤ 41 := by omega
      have h100 : (okL m l).length ≤ 100000 := by omega
      refine AW.reg ?_
      refine SeqK.q (q_mvC rfl rfl) rfl rfl rfl ?_
      refine SeqK.q (q_mvC rfl rfl) rfl rfl rfl ?_
      refine SeqK.callE rfl rfl rfl rfl Fx.fn13 rfl (built_ok _ m z l (by omega) hm) (fun _ _ h => by obtain ⟨_, h, _⟩ := h; rw [h]; rfl) (fun x25 H25 q25 => ?_)
      obtain ⟨k, rfl, M⟩ := q25
      have IR := M.r
      refine SeqK.q (q_mvT rfl rfl) rfl rfl rfl ?_
      refine SeqK.q (q_extract _ rfl rfl rfl) rfl rfl rfl ?_
      refine SeqK.q (q_extract _ rfl rfl rfl) rfl rfl rfl ?_
      refine SeqK.q (q_extract _ rfl rfl rfl) rfl rfl rfl ?_
      refine SeqK.q (q_asC rfl rfl) rfl rfl rfl ?_
      refine SeqK.q (q_asC rfl rfl) rfl rfl rfl ?_
      refine SeqK.q (q_asC rfl rfl) rfl rfl rfl ?_
      refine SeqK.nil ?_
      refine AW.seq ?_
      refine AW.seq ?_
      refine AW.reg ?_
      refine SeqK.q (q_mvC rfl rfl) rfl rfl rfl ?_
      refine SeqK.q (q_eqlN rfl rfl rfl Fx.nk25) rfl rfl rfl ?_
      refine SeqK.q (q_mvC rfl rfl) rfl rfl rfl ?_
      refine SeqK.on (q_mvC rfl rfl) rfl rfl rfl rfl rfl ?_
      refine SeqK.on (q_not rfl rfl) rfl rfl rfl rfl rfl ?_
      refine SeqK.q (q_pkF rfl rfl rfl) rfl rfl rfl ?_
      refine SeqK.nil ?_
      refine AW.condF rfl ?_
      refine AW.skip ?_
      refine AW.seq ?_
      refine AW.reg ?_
      refine SeqK.q (q_mvC rfl rfl) rfl rfl rfl ?_
      refine SeqK.q (q_mvC rfl rfl) rfl rfl rfl ?_
      refine SeqK.callE rfl rfl rfl rfl Fx.fn14 rfl (solution_any _ m .ne (okL m l) (by omega) h41 okL_ok) (fun _ _ h => by obtain ⟨⟨_, h⟩, _⟩ := h; rw [h]; rfl) (fun x39 H39 q39 => ?_)
      obtain ⟨⟨y39, rfl⟩, hH⟩ := q39
      replace hH := hH.symm
      subst hH
      refine SeqK.q (q_mvT rfl rfl) rfl rfl rfl ?_
      refine SeqK.q (q_extract _ rfl rfl rfl) rfl rfl rfl ?_
      refine SeqK.q (q_extract _ rfl rfl rfl) rfl rfl rfl ?_
      refine SeqK.q (q_asC rfl rfl) rfl rfl rfl ?_
      refine SeqK.q (q_asC rfl rfl) rfl rfl rfl ?_
      refine SeqK.nil ?_
      refine AW.seq ?_
      refine AW.seq ?_
      refine AW.reg ?_
      refine SeqK.q (q_mvC rfl rfl) rfl rfl rfl ?_
      refine SeqK.r (g_call rfl Fx.fn15 rfl (sat_pure _ k m _ IR h100 rfl) rfl rfl rfl) rfl ?_
      refine SeqK.q (q_mvC rfl rfl) rfl rfl rfl ?_
      refine SeqK.q (q_neqB rfl Fx.un4 rfl rfl) rfl rfl rfl ?_
      refine SeqK.nil ?_
      refine AW.condD rfl (fun h45 => ?_) (fun h45 => ?_)
      ·
        exact absurd h45 (by simp)
      ·
        refine AW.skip ?_
        refine AW.seq ?_
        refine AW.seq ?_
        refine AW.reg ?_
        refine SeqK.q (q_asC rfl rfl) rfl rfl rfl ?_
        refine SeqK.nil ?_
        refine AW.block ?_
        refine AW.loop (fun (a : Nat) s => (a ≤ m + 3) ∧ s = ⟨111, sp [(0, .c (iC m)), (5, .c (.a (.bp k 0))), (6, .c (bdL .ne (okL m l))), (9, bX (satB (okL m l))), (10, iX .i64 (((a : Nat) : Int) - 1))], lv [], H25⟩) (fun a => m + 3 - a) 0 ⟨_, Wk.keep 111 [(0, .c (iC m)), (5, .c (.a (.bp k 0))), (6, .c (bdL .ne (okL m l))), (9, bX (satB (okL m l))), (10, iX .i64 (((((0 : Nat)) : Nat) : Int) - 1))] [] (H25) rfl ⟨rfl, rfl, rfl, rfl, rfl, trivial⟩ trivial (fun _ _ h => h) rfl, by omega, rfl⟩ (fun a s hs => ?_)
        obtain ⟨ha, rfl⟩ := hs
        refine AW.seq ?_
        refine AW.seq ?_
        refine AW.reg ?_
        refine SeqK.q (q_mvC rfl rfl) rfl rfl rfl ?_
        refine SeqK.q (q_mvC rfl rfl) rfl rfl rfl ?_
        refine SeqK.q (q_add _ rfl rfl rfl (w64 (by omega) (by omega))) rfl rfl rfl ?_
        refine SeqK.q (q_leq rfl rfl rfl) rfl rfl rfl ?_
        refine SeqK.nil ?_
        refine AW.condD rfl (fun h49 => ?_) (fun h49 => ?_)
        ·
          refine AW.skip ?_
          refine AW.seq ?_
          refine AW.block ?_
          refine AW.seq ?_
          refine AW.reg ?_
          refine SeqK.q (q_asC rfl rfl) rfl rfl rfl ?_
          refine SeqK.nil ?_
          refine AW.block ?_
          refine AW.loop (fun (b : Nat) s => (b ≤ m + 3) ∧ s = ⟨111, sp [(0, .c (iC m)), (5, .c (.a (.bp k 0))), (6, .c (bdL .ne (okL m l))), (9, bX (satB (okL m l))), (10, iX .i64 (((a : Nat) : Int) - 1)), (11, iX .i64 (((b : Nat) : Int) - 1))], lv [], H25⟩) (fun b => m + 3 - b) 0 ⟨_, Wk.keep 111 [(0, .c (iC m)), (5, .c (.a (.bp k 0))), (6, .c (bdL .ne (okL m l))), (9, bX (satB (okL m l))), (10, iX .i64 (((a : Nat) : Int) - 1)), (11, iX .i64 (((((0 : Nat)) : Nat) : Int) - 1))] [] (H25) rfl ⟨rfl, rfl, rfl, rfl, rfl, rfl, trivial⟩ trivial (fun _ _ h => h) rfl, by omega, rfl⟩ (fun b s hs => ?_)
          obtain ⟨hbb, rfl⟩ := hs
          refine AW.seq ?_
          refine AW.seq ?_
          refine AW.reg ?_
          refine SeqK.q (q_mvC rfl rfl) rfl rfl rfl ?_
          refine SeqK.q (q_mvC rfl rfl) rfl rfl rfl ?_
          refine SeqK.q (q_add _ rfl rfl rfl (w64 (by omega) (by omega))) rfl rfl rfl ?_
          refine SeqK.q (q_leq rfl rfl rfl) rfl rfl rfl ?_
          refine SeqK.nil ?_
          refine AW.condD rfl (fun h55 => ?_) (fun h55 => ?_)
          ·
            refine AW.skip ?_
            refine AW.seq ?_
            refine AW.block ?_
            refine AW.seq ?_
            refine AW.reg ?_
            refine SeqK.q (q_mvC rfl rfl) rfl rfl rfl ?_
            refine SeqK.q (q_mvC rfl rfl) rfl rfl rfl ?_
            refine SeqK.q (q_mvC rfl rfl) rfl rfl rfl ?_
            refine SeqK.callE rfl rfl rfl rfl Fx.fn16 rfl (bound_any _ k m (okL m l) _ _ IR h100) (fun _ _ h => by obtain ⟨⟨_, _, h, _⟩, _⟩ := h; rw [h]; rfl) (fun x62 H62 q62 => ?_)
            obtain ⟨⟨c, ok, rfl, hb⟩, hH⟩ := q62
            replace hH := hH.symm
            subst hH
            refine SeqK.q (q_mvT rfl rfl) rfl rfl rfl ?_
            refine SeqK.q (q_extract _ rfl rfl rfl) rfl rfl rfl ?_
            refine SeqK.q (q_extract _ rfl rfl rfl) rfl rfl rfl ?_
            refine SeqK.q (q_asC rfl rfl) rfl rfl rfl ?_
            refine SeqK.q (q_asC rfl rfl) rfl rfl rfl ?_
            refine SeqK.nil ?_
            refine AW.seq ?_
            refine AW.reg ?_
            refine SeqK.q (q_asC rfl rfl) rfl rfl rfl ?_
            refine SeqK.q (q_asC rfl rfl) rfl rfl rfl ?_
            refine SeqK.nil ?_
            refine AW.seq ?_
            refine AW.seq ?_
            refine AW.reg ?_
            refine SeqK.q (q_mvC rfl rfl) rfl rfl rfl ?_
            refine SeqK.qB (q_mvC rfl rfl) rfl rfl rfl (fun g66 => ?_) (fun g66 => ?_)
            ·
              refine SeqK.on (q_mvC rfl rfl) rfl rfl rfl rfl rfl ?_
              refine SeqK.on (q_geq rfl rfl rfl) rfl rfl rfl rfl rfl ?_
              refine SeqK.q (q_pkT rfl rfl rfl) rfl rfl rfl ?_
              refine SeqK.qD (q_mvC rfl rfl) rfl rfl rfl (fun g70 => ?_) (fun g70 => ?_)
              ·
                refine SeqK.on (q_mvC rfl rfl) rfl rfl rfl rfl rfl ?_
                refine SeqK.on (q_geq rfl rfl rfl) rfl rfl rfl rfl rfl ?_
                refine SeqK.q (q_pkT rfl rfl rfl) rfl rfl rfl ?_
                refine SeqK.qD (q_mvC rfl rfl) rfl rfl rfl (fun g74 => ?_) (fun g74 => ?_)
                ·
                  refine SeqK.on (q_mvC rfl rfl) rfl rfl rfl rfl rfl ?_
                  refine SeqK.on (q_mvC rfl rfl) rfl rfl rfl rfl rfl ?_
                  refine SeqK.on (q_leq rfl rfl rfl) rfl rfl rfl rfl rfl ?_
                  refine SeqK.q (q_pkT rfl rfl rfl) rfl rfl rfl ?_
                  refine SeqK.qD (q_mvC rfl rfl) rfl rfl rfl (fun g79 => ?_) (fun g79 => ?_)
                  ·
                    refine SeqK.on (q_mvC rfl rfl) rfl rfl rfl rfl rfl ?_
                    refine SeqK.on (q_mvC rfl rfl) rfl rfl rfl rfl rfl ?_
                    refine SeqK.on (q_leq rfl rfl rfl) rfl rfl rfl rfl rfl ?_
                    refine SeqK.q (q_pkT rfl rfl rfl) rfl rfl rfl ?_
                    refine SeqK.nil ?_
                    refine AW.condD rfl (fun h83 => ?_) (fun h83 => ?_)
                    ·
                      refine AW.reg ?_
                      refine SeqK.q (q_mvC rfl rfl) rfl rfl rfl ?_
                      refine SeqK.q (q_mvC rfl rfl) rfl rfl rfl ?_
                      refine SeqK.q (q_mvC rfl rfl) rfl rfl rfl ?_
                      refine SeqK.q (q_mvC rfl rfl) rfl rfl rfl ?_
                      refine SeqK.callE rfl rfl rfl rfl Fx.fn17 rfl (greatest_any _ m .ne (okL m l) _ _ (by omega) h41 okL_ok (satB_t.1 g66) (by omega) (by omega) (by omega) (by omega)) (fun _ _ h => by obtain ⟨⟨_, _, h, _⟩, _⟩ := h; rw [h]; rfl) (fun x89 H89 q89 => ?_)
                      obtain ⟨⟨c9, ok9, rfl, hbr⟩, hH⟩ := q89
                      replace hH := hH.symm
                      subst hH
                      obtain ⟨hc, ho⟩ := hb.uniq (.inr ⟨⟨by omega, by omega⟩, ⟨by omega, by omega⟩, satB_t.1 g66, hbr⟩)
                      subst hc ho
                      refine SeqK.q (q_mvT rfl rfl) rfl rfl rfl ?_
                      refine SeqK.q (q_extract _ rfl rfl rfl) rfl rfl rfl ?_
                      refine SeqK.q (q_extract _ rfl rfl rfl) rfl rfl rfl ?_
                      refine SeqK.q (q_asC rfl rfl) rfl rfl rfl ?_
                      refine SeqK.q (q_asC rfl rfl) rfl rfl rfl ?_
                      refine SeqK.nil ?_
                      refine AW.seq ?_
                      refine AW.reg ?_
                      refine SeqK.q (q_mvC rfl rfl) rfl rfl rfl ?_
                      refine SeqK.q (q_mvC rfl rfl) rfl rfl rfl ?_
                      refine SeqK.q (q_neqB rfl Fx.un4 rfl rfl) rfl rfl rfl ?_
                      refine SeqK.qD (q_mvC rfl rfl) rfl rfl rfl (fun g95 => ?_) (fun g95 => ?_)
                      ·
                        exact absurd g95 (by simp)
                      ·
                        refine SeqK.on (q_mvC rfl rfl) rfl rfl rfl rfl rfl ?_
                        refine SeqK.onB (q_mvC rfl rfl) rfl rfl rfl rfl rfl (fun g97 => ?_) (fun g97 => ?_)
                        ·
                          refine SeqK.on (q_mvC rfl rfl) rfl rfl rfl rfl rfl ?_
                          refine SeqK.on (q_mvC rfl rfl) rfl rfl rfl rfl rfl ?_
                          refine SeqK.on (q_neq rfl rfl rfl) rfl rfl rfl rfl rfl ?_
                          refine SeqK.on (q_pkT rfl rfl rfl) rfl rfl rfl rfl rfl ?_
                          refine SeqK.q (q_pkF rfl rfl rfl) rfl rfl rfl ?_
                          refine SeqK.qD (q_mvC rfl rfl) rfl rfl rfl (fun g103 => ?_) (fun g103 => ?_)
                          ·
                            first | (cases g97; done) | (exact absurd g103 (by simp [g97]))
                          ·
                            refine SeqK.on (q_mvC rfl rfl) rfl rfl rfl rfl rfl ?_
                            refine SeqK.on (q_not rfl rfl) rfl rfl rfl rfl rfl ?_
                            refine SeqK.onB (q_mvC rfl rfl) rfl rfl rfl rfl rfl (fun g106 => ?_) (fun g106 => ?_)
                            ·
                              refine SeqK.on (q_mvC rfl rfl) rfl rfl rfl rfl rfl ?_
                              refine SeqK.on (q_neq rfl rfl rfl) rfl rfl rfl rfl rfl ?_
                              refine SeqK.on (q_pkT rfl rfl rfl) rfl rfl rfl rfl rfl ?_
                              refine SeqK.q (q_pkF rfl rfl rfl) rfl rfl rfl ?_
                              refine SeqK.nil ?_
                              refine AW.condD rfl (fun h110 => ?_) (fun h110 => ?_)
                              ·
                                first | (exact absurd rfl h110) | (simp [g97] at g106; done) | (simp at g106; exact absurd (by simp [g106]) h110)
                              ·
                                refine AW.skip ?_
                                refine AW.reg ?_
                                refine SeqK.q (q_mvC rfl rfl) rfl rfl rfl ?_
                                refine SeqK.q (q_add _ rfl rfl rfl ((by rw [w64 (by omega) (by omega)]; omega : IntKind.i64.wrap _ = (((b + 1 : Nat) : Int) - 1)))) rfl rfl rfl ?_
                                refine SeqK.q (q_asC rfl rfl) rfl rfl rfl ?_
                                refine SeqK.nil ?_
                                exact ⟨b + 1, _, Wk.keep 111 [(0, .c (iC m)), (5, .c (.a (.bp k 0))), (6, .c (bdL .ne (okL m l))), (9, bX (satB (okL m l))), (10, iX .i64 (((a : Nat) : Int) - 1)), (11, iX .i64 ((((b + 1) : Nat) : Int) - 1))] [] (H25) rfl ⟨rfl, rfl, rfl, rfl, rfl, rfl, trivial⟩ trivial (fun _ _ h => h) rfl, by omega, by omega, rfl⟩
                            ·
                              refine SeqK.off rfl rfl rfl rfl rfl rfl ?_
                              refine SeqK.off rfl rfl rfl rfl rfl rfl ?_
                              refine SeqK.on (q_pkF rfl rfl rfl) rfl rfl rfl rfl rfl ?_
                              refine SeqK.q (q_pkF rfl rfl rfl) rfl rfl rfl ?_
                              refine SeqK.nil ?_
                              refine AW.condF rfl ?_
                              refine AW.skip ?_
                              refine AW.reg ?_
                              refine SeqK.q (q_mvC rfl rfl) rfl rfl rfl ?_
                              refine SeqK.q (q_add _ rfl rfl rfl ((by rw [w64 (by omega) (by omega)]; omega : IntKind.i64.wrap _ = (((b + 1 : Nat) : Int) - 1)))) rfl rfl rfl ?_
                              refine SeqK.q (q_asC rfl rfl) rfl rfl rfl ?_
                              refine SeqK.nil ?_
                              exact ⟨b + 1, _, Wk.keep 111 [(0, .c (iC m)), (5, .c (.a (.bp k 0))), (6, .c (bdL .ne (okL m l))), (9, bX (satB (okL m l))), (10, iX .i64 (((a : Nat) : Int) - 1)), (11, iX .i64 ((((b + 1) : Nat) : Int) - 1))] [] (H25) rfl ⟨rfl, rfl, rfl, rfl, rfl, rfl, trivial⟩ trivial (fun _ _ h => h) rfl, by omega, by omega, rfl⟩
                        ·
                          refine SeqK.off rfl rfl rfl rfl rfl rfl ?_
                          refine SeqK.off rfl rfl rfl rfl rfl rfl ?_
                          refine SeqK.off rfl rfl rfl rfl rfl rfl ?_
                          refine SeqK.on (q_pkF rfl rfl rfl) rfl rfl rfl rfl rfl ?_
                          refine SeqK.q (q_pkF rfl rfl rfl) rfl rfl rfl ?_
                          refine SeqK.q (q_mvC rfl rfl) rfl rfl rfl ?_
                          refine SeqK.on (q_mvC rfl rfl) rfl rfl rfl rfl rfl ?_
                          refine SeqK.on (q_not rfl rfl) rfl rfl rfl rfl rfl ?_
                          refine SeqK.onB (q_mvC rfl rfl) rfl rfl rfl rfl rfl (fun g106 => ?_) (fun g106 => ?_)
                          ·
                            refine SeqK.on (q_mvC rfl rfl) rfl rfl rfl rfl rfl ?_
                            refine SeqK.on (q_neq rfl rfl rfl) rfl rfl rfl rfl rfl ?_
                            refine SeqK.on (q_pkT rfl rfl rfl) rfl rfl rfl rfl rfl ?_
                            refine SeqK.q (q_pkF rfl rfl rfl) rfl rfl rfl ?_
                            refine SeqK.nil ?_
                            refine AW.condD rfl (fun h110 => ?_) (fun h110 => ?_)
                            ·
                              first | (exact absurd rfl h110) | (simp [g97] at g106; done) | (simp at g106; exact absurd (by simp [g106]) h110)
                            ·
                              refine AW.skip ?_
                              refine AW.reg ?_
                              refine SeqK.q (q_mvC rfl rfl) rfl rfl rfl ?_
                              refine SeqK.q (q_add _ rfl rfl rfl ((by rw [w64 (by omega) (by omega)]; omega : IntKind.i64.wrap _ = (((b + 1 : Nat) : Int) - 1)))) rfl rfl rfl ?_
                              refine SeqK.q (q_asC rfl rfl) rfl rfl rfl ?_
                              refine SeqK.nil ?_
                              exact ⟨b + 1, _, Wk.keep 111 [(0, .c (iC m)), (5, .c (.a (.bp k 0))), (6, .c (bdL .ne (okL m l))), (9, bX (satB (okL m l))), (10, iX .i64 (((a : Nat) : Int) - 1)), (11, iX .i64 ((((b + 1) : Nat) : Int) - 1))] [] (H25) rfl ⟨rfl, rfl, rfl, rfl, rfl, rfl, trivial⟩ trivial (fun _ _ h => h) rfl, by omega, by omega, rfl⟩
                          ·
                            refine SeqK.off rfl rfl rfl rfl rfl rfl ?_
                            refine SeqK.off rfl rfl rfl rfl rfl rfl ?_
                            refine SeqK.on (q_pkF rfl rfl rfl) rfl rfl rfl rfl rfl ?_
                            refine SeqK.q (q_pkF rfl rfl rfl) rfl rfl rfl ?_
                            refine SeqK.nil ?_
                            refine AW.condF rfl ?_
                            refine AW.skip ?_
                            refine AW.reg ?_
                            refine SeqK.q (q_mvC rfl rfl) rfl rfl rfl ?_
                            refine SeqK.q (q_add _ rfl rfl rfl ((by rw [w64 (by omega) (by omega)]; omega : IntKind.i64.wrap _ = (((b + 1 : Nat) : Int) - 1)))) rfl rfl rfl ?_
                            refine SeqK.q (q_asC rfl rfl) rfl rfl rfl ?_
                            refine SeqK.nil ?_
                            exact ⟨b + 1, _, Wk.keep 111 [(0, .c (iC m)), (5, .c (.a (.bp k 0))), (6, .c (bdL .ne (okL m l))), (9, bX (satB (okL m l))), (10, iX .i64 (((a : Nat) : Int) - 1)), (11, iX .i64 ((((b + 1) : Nat) : Int) - 1))] [] (H25) rfl ⟨rfl, rfl, rfl, rfl, rfl, rfl, trivial⟩ trivial (fun _ _ h => h) rfl, by omega, by omega, rfl⟩
                    ·
                      obtain ⟨hc, ho⟩ := hb.uniq (c' := 0) (ok' := false) (.inl ⟨(fun h => by omega), rfl, rfl⟩)
                      subst hc ho
                      refine AW.skip ?_
                      refine AW.seq ?_
                      refine AW.reg ?_
                      refine SeqK.q (q_mvC rfl rfl) rfl rfl rfl ?_
                      refine SeqK.q (q_mvC rfl rfl) rfl rfl rfl ?_
                      refine SeqK.q (q_neqB rfl Fx.un4 rfl rfl) rfl rfl rfl ?_
                      refine SeqK.qD (q_mvC rfl rfl) rfl rfl rfl (fun g95 => ?_) (fun g95 => ?_)
                      ·
                        exact absurd g95 (by simp)
                      ·
                        refine SeqK.on (q_mvC rfl rfl) rfl rfl rfl rfl rfl ?_
                        refine SeqK.onB (q_mvC rfl rfl) rfl rfl rfl rfl rfl (fun g97 => ?_) (fun g97 => ?_)
                        ·
                          refine SeqK.on (q_mvC rfl rfl) rfl rfl rfl rfl rfl ?_
                          refine SeqK.on (q_mvC rfl rfl) rfl rfl rfl rfl rfl ?_
                          refine SeqK.on (q_neq rfl rfl rfl) rfl rfl rfl rfl rfl ?_
                          refine SeqK.on (q_pkT rfl rfl rfl) rfl rfl rfl rfl rfl ?_
                          refine SeqK.q (q_pkF rfl rfl rfl) rfl rfl rfl ?_
                          refine SeqK.qD (q_mvC rfl rfl) rfl rfl rfl (fun g103 => ?_) (fun g103 => ?_)
                          ·
                            first | (cases g97; done) | (exact absurd g103 (by simp [g97]))
                          ·
                            refine SeqK.on (q_mvC rfl rfl) rfl rfl rfl rfl rfl ?_
                            refine SeqK.on (q_not rfl rfl) rfl rfl rfl rfl rfl ?_
                            refine SeqK.onB (q_mvC rfl rfl) rfl rfl rfl rfl rfl (fun g106 => ?_) (fun g106 => ?_)
                            ·
                              refine SeqK.on (q_mvC rfl rfl) rfl rfl rfl rfl rfl ?_
                              refine SeqK.on (q_neq rfl rfl rfl) rfl rfl rfl rfl rfl ?_
                              refine SeqK.on (q_pkT rfl rfl rfl) rfl rfl rfl rfl rfl ?_
                              refine SeqK.q (q_pkF rfl rfl rfl) rfl rfl rfl ?_
                              refine SeqK.nil ?_
                              refine AW.condD rfl (fun h110 => ?_) (fun h110 => ?_)
                              ·
                                first | (exact absurd rfl h110) | (simp [g97] at g106; done) | (simp at g106; exact absurd (by simp [g106]) h110)
                              ·
                                refine AW.skip ?_
                                refine AW.reg ?_
                                refine SeqK.q (q_mvC rfl rfl) rfl rfl rfl ?_
                                refine SeqK.q (q_add _ rfl rfl rfl ((by rw [w64 (by omega) (by omega)]; omega : IntKind.i64.wrap _ = (((b + 1 : Nat) : Int) - 1)))) rfl rfl rfl ?_
                                refine SeqK.q (q_asC rfl rfl) rfl rfl rfl ?_
                                refine SeqK.nil ?_
                                exact ⟨b + 1, _, Wk.keep 111 [(0, .c (iC m)), (5, .c (.a (.bp k 0))), (6, .c (bdL .ne (okL m l))), (9, bX (satB (okL m l))), (10, iX .i64 (((a : Nat) : Int) - 1)), (11, iX .i64 ((((b + 1) : Nat) : Int) - 1))] [] (H25) rfl ⟨rfl, rfl, rfl, rfl, rfl, rfl, trivial⟩ trivial (fun _ _ h => h) rfl, by omega, by omega, rfl⟩
                            ·
                              refine SeqK.off rfl rfl rfl rfl rfl rfl ?_
                              refine SeqK.off rfl rfl rfl rfl rfl rfl ?_
                              refine SeqK.on (q_pkF rfl rfl rfl) rfl rfl rfl rfl rfl ?_
                              refine SeqK.q (q_pkF rfl rfl rfl) rfl rfl rfl ?_
                              refine SeqK.nil ?_
                              refine AW.condF rfl ?_
                              refine AW.skip ?_
                              refine AW.reg ?_
                              refine SeqK.q (q_mvC rfl rfl) rfl rfl rfl ?_
                              refine SeqK.q (q_add _ rfl rfl rfl ((by rw [w64 (by omega) (by omega)]; omega : IntKind.i64.wrap _ = (((b + 1 : Nat) : Int) - 1)))) rfl rfl rfl ?_
                              refine SeqK.q (q_asC rfl rfl) rfl rfl rfl ?_
                              refine SeqK.nil ?_
                              exact ⟨b + 1, _, Wk.keep 111 [(0, .c (iC m)), (5, .c (.a (.bp k 0))), (6, .c (bdL .ne (okL m l))), (9, bX (satB (okL m l))), (10, iX .i64 (((a : Nat) : Int) - 1)), (11, iX .i64 ((((b + 1) : Nat) : Int) - 1))] [] (H25) rfl ⟨rfl, rfl, rfl, rfl, rfl, rfl, trivial⟩ trivial (fun _ _ h => h) rfl, by omega, by omega, rfl⟩
                        ·
                          refine SeqK.off rfl rfl rfl rfl rfl rfl ?_
                          refine SeqK.off rfl rfl rfl rfl rfl rfl ?_
                          refine SeqK.off rfl rfl rfl rfl rfl rfl ?_
                          refine SeqK.on (q_pkF rfl rfl rfl) rfl rfl rfl rfl rfl ?_
                          refine SeqK.q (q_pkF rfl rfl rfl) rfl rfl rfl ?_
                          refine SeqK.q (q_mvC rfl rfl) rfl rfl rfl ?_
                          refine SeqK.on (q_mvC rfl rfl) rfl rfl rfl rfl rfl ?_
                          refine SeqK.on (q_not rfl rfl) rfl rfl rfl rfl rfl ?_
                          refine SeqK.onB (q_mvC rfl rfl) rfl rfl rfl rfl rfl (fun g106 => ?_) (fun g106 => ?_)
                          ·
                            refine SeqK.on (q_mvC rfl rfl) rfl rfl rfl rfl rfl ?_
                            refine SeqK.on (q_neq rfl rfl rfl) rfl rfl rfl rfl rfl ?_
                            refine SeqK.on (q_pkT rfl rfl rfl) rfl rfl rfl rfl rfl ?_
                            refine SeqK.q (q_pkF rfl rfl rfl) rfl rfl rfl ?_
                            refine SeqK.nil ?_
                            refine AW.condD rfl (fun h110 => ?_) (fun h110 => ?_)
                            ·
                              first | (exact absurd rfl h110) | (simp [g97] at g106; done) | (simp at g106; exact absurd (by simp [g106]) h110)
                            ·
                              refine AW.skip ?_
                              refine AW.reg ?_
                              refine SeqK.q (q_mvC rfl rfl) rfl rfl rfl ?_
                              refine SeqK.q (q_add _ rfl rfl rfl ((by rw [w64 (by omega) (by omega)]; omega : IntKind.i64.wrap _ = (((b + 1 : Nat) : Int) - 1)))) rfl rfl rfl ?_
                              refine SeqK.q (q_asC rfl rfl) rfl rfl rfl ?_
                              refine SeqK.nil ?_
                              exact ⟨b + 1, _, Wk.keep 111 [(0, .c (iC m)), (5, .c (.a (.bp k 0))), (6, .c (bdL .ne (okL m l))), (9, bX (satB (okL m l))), (10, iX .i64 (((a : Nat) : Int) - 1)), (11, iX .i64 ((((b + 1) : Nat) : Int) - 1))] [] (H25) rfl ⟨rfl, rfl, rfl, rfl, rfl, rfl, trivial⟩ trivial (fun _ _ h => h) rfl, by omega, by omega, rfl⟩
                          ·
                            refine SeqK.off rfl rfl rfl rfl rfl rfl ?_
                            refine SeqK.off rfl rfl rfl rfl rfl rfl ?_
                            refine SeqK.on (q_pkF rfl rfl rfl) rfl rfl rfl rfl rfl ?_
                            refine SeqK.q (q_pkF rfl rfl rfl) rfl rfl rfl ?_
                            refine SeqK.nil ?_
                            refine AW.condF rfl ?_
                            refine AW.skip ?_
                            refine AW.reg ?_
                            refine SeqK.q (q_mvC rfl rfl) rfl rfl rfl ?_
                            refine SeqK.q (q_add _ rfl rfl rfl ((by rw [w64 (by omega) (by omega)]; omega : IntKind.i64.wrap _ = (((b + 1 : Nat) : Int) - 1)))) rfl rfl rfl ?_
                            refine SeqK.q (q_asC rfl rfl) rfl rfl rfl ?_
                            refine SeqK.nil ?_
                            exact ⟨b + 1, _, Wk.keep 111 [(0, .c (iC m)), (5, .c (.a (.bp k 0))), (6, .c (bdL .ne (okL m l))), (9, bX (satB (okL m l))), (10, iX .i64 (((a : Nat) : Int) - 1)), (11, iX .i64 ((((b + 1) : Nat) : Int) - 1))] [] (H25) rfl ⟨rfl, rfl, rfl, rfl, rfl, rfl, trivial⟩ trivial (fun _ _ h => h) rfl, by omega, by omega, rfl⟩
                  ·
                    obtain ⟨hc, ho⟩ := hb.uniq (c' := 0) (ok' := false) (.inl ⟨(fun h => by omega), rfl, rfl⟩)
                    subst hc ho
                    refine SeqK.off rfl rfl rfl rfl rfl rfl ?_
                    refine SeqK.off rfl rfl rfl rfl rfl rfl ?_
                    refine SeqK.off rfl rfl rfl rfl rfl rfl ?_
                    refine SeqK.q (q_pkF rfl rfl rfl) rfl rfl rfl ?_
                    refine SeqK.nil ?_
                    refine AW.condF rfl ?_
                    refine AW.skip ?_
                    refine AW.seq ?_
                    refine AW.reg ?_
                    refine SeqK.q (q_mvC rfl rfl) rfl rfl rfl ?_
                    refine SeqK.q (q_mvC rfl rfl) rfl rfl rfl ?_
                    refine SeqK.q (q_neqB rfl Fx.un4 rfl rfl) rfl rfl rfl ?_
                    refine SeqK.qD (q_mvC rfl rfl) rfl rfl rfl (fun g95 => ?_) (fun g95 => ?_)
                    ·
                      exact absurd g95 (by simp)
                    ·
                      refine SeqK.on (q_mvC rfl rfl) rfl rfl rfl rfl rfl ?_
                      refine SeqK.onB (q_mvC rfl rfl) rfl rfl rfl rfl rfl (fun g97 => ?_) (fun g97 => ?_)
                      ·
                        refine SeqK.on (q_mvC rfl rfl) rfl rfl rfl rfl rfl ?_
                        refine SeqK.on (q_mvC rfl rfl) rfl rfl rfl rfl rfl ?_
                        refine SeqK.on (q_neq rfl rfl rfl) rfl rfl rfl rfl rfl ?_
                        refine SeqK.on (q_pkT rfl rfl rfl) rfl rfl rfl rfl rfl ?_
                        refine SeqK.q (q_pkF rfl rfl rfl) rfl rfl rfl ?_
                        refine SeqK.qD (q_mvC rfl rfl) rfl rfl rfl (fun g103 => ?_) (fun g103 => ?_)
                        ·
                          first | (cases g97; done) | (exact absurd g103 (by simp [g97]))
                        ·
                          refine SeqK.on (q_mvC rfl rfl) rfl rfl rfl rfl rfl ?_
                          refine SeqK.on (q_not rfl rfl) rfl rfl rfl rfl rfl ?_
                          refine SeqK.onB (q_mvC rfl rfl) rfl rfl rfl rfl rfl (fun g106 => ?_) (fun g106 => ?_)
                          ·
                            refine SeqK.on (q_mvC rfl rfl) rfl rfl rfl rfl rfl ?_
                            refine SeqK.on (q_neq rfl rfl rfl) rfl rfl rfl rfl rfl ?_
                            refine SeqK.on (q_pkT rfl rfl rfl) rfl rfl rfl rfl rfl ?_
                            refine SeqK.q (q_pkF rfl rfl rfl) rfl rfl rfl ?_
                            refine SeqK.nil ?_
                            refine AW.condD rfl (fun h110 => ?_) (fun h110 => ?_)
                            ·
                              first | (exact absurd rfl h110) | (simp [g97] at g106; done) | (simp at g106; exact absurd (by simp [g106]) h110)
                            ·
                              refine AW.skip ?_
                              refine AW.reg ?_
                              refine SeqK.q (q_mvC rfl rfl) rfl rfl rfl ?_
                              refine SeqK.q (q_add _ rfl rfl rfl ((by rw [w64 (by omega) (by omega)]; omega : IntKind.i64.wrap _ = (((b + 1 : Nat) : Int) - 1)))) rfl rfl rfl ?_
                              refine SeqK.q (q_asC rfl rfl) rfl rfl rfl ?_
                              refine SeqK.nil ?_
                              exact ⟨b + 1, _, Wk.keep 111 [(0, .c (iC m)), (5, .c (.a (.bp k 0))), (6, .c (bdL .ne (okL m l))), (9, bX (satB (okL m l))), (10, iX .i64 (((a : Nat) : Int) - 1)), (11, iX .i64 ((((b + 1) : Nat) : Int) - 1))] [] (H25) rfl ⟨rfl, rfl, rfl, rfl, rfl, rfl, trivial⟩ trivial (fun _ _ h => h) rfl, by omega, by omega, rfl⟩
                          ·
                            refine SeqK.off rfl rfl rfl rfl rfl rfl ?_
                            refine SeqK.off rfl rfl rfl rfl rfl rfl ?_
                            refine SeqK.on (q_pkF rfl rfl rfl) rfl rfl rfl rfl rfl ?_
                            refine SeqK.q (q_pkF rfl rfl rfl) rfl rfl rfl ?_
                            refine SeqK.nil ?_
                            refine AW.condF rfl ?_
                            refine AW.skip ?_
                            refine AW.reg ?_
                            refine SeqK.q (q_mvC rfl rfl) rfl rfl rfl ?_
                            refine SeqK.q (q_add _ rfl rfl rfl ((by rw [w64 (by omega) (by omega)]; omega : IntKind.i64.wrap _ = (((b + 1 : Nat) : Int) - 1)))) rfl rfl rfl ?_
                            refine SeqK.q (q_asC rfl rfl) rfl rfl rfl ?_
                            refine SeqK.nil ?_
                            exact ⟨b + 1, _, Wk.keep 111 [(0, .c (iC m)), (5, .c (.a (.bp k 0))), (6, .c (bdL .ne (okL m l))), (9, bX (satB (okL m l))), (10, iX .i64 (((a : Nat) : Int) - 1)), (11, iX .i64 ((((b + 1) : Nat) : Int) - 1))] [] (H25) rfl ⟨rfl, rfl, rfl, rfl, rfl, rfl, trivial⟩ trivial (fun _ _ h => h) rfl, by omega, by omega, rfl⟩
                      ·
                        refine SeqK.off rfl rfl rfl rfl rfl rfl ?_
                        refine SeqK.off rfl rfl rfl rfl rfl rfl ?_
                        refine SeqK.off rfl rfl rfl rfl rfl rfl ?_
                        refine SeqK.on (q_pkF rfl rfl rfl) rfl rfl rfl rfl rfl ?_
                        refine SeqK.q (q_pkF rfl rfl rfl) rfl rfl rfl ?_
                        refine SeqK.q (q_mvC rfl rfl) rfl rfl rfl ?_
                        refine SeqK.on (q_mvC rfl rfl) rfl rfl rfl rfl rfl ?_
                        refine SeqK.on (q_not rfl rfl) rfl rfl rfl rfl rfl ?_
                        refine SeqK.onB (q_mvC rfl rfl) rfl rfl rfl rfl rfl (fun g106 => ?_) (fun g106 => ?_)
                        ·
                          refine SeqK.on (q_mvC rfl rfl) rfl rfl rfl rfl rfl ?_
                          refine SeqK.on (q_neq rfl rfl rfl) rfl rfl rfl rfl rfl ?_
                          refine SeqK.on (q_pkT rfl rfl rfl) rfl rfl rfl rfl rfl ?_
                          refine SeqK.q (q_pkF rfl rfl rfl) rfl rfl rfl ?_
                          refine SeqK.nil ?_
                          refine AW.condD rfl (fun h110 => ?_) (fun h110 => ?_)
                          ·
                            first | (exact absurd rfl h110) | (simp [g97] at g106; done) | (simp at g106; exact absurd (by simp [g106]) h110)
                          ·
                            refine AW.skip ?_
                            refine AW.reg ?_
                            refine SeqK.q (q_mvC rfl rfl) rfl rfl rfl ?_
                            refine SeqK.q (q_add _ rfl rfl rfl ((by rw [w64 (by omega) (by omega)]; omega : IntKind.i64.wrap _ = (((b + 1 : Nat) : Int) - 1)))) rfl rfl rfl ?_
                            refine SeqK.q (q_asC rfl rfl) rfl rfl rfl ?_
                            refine SeqK.nil ?_
                            exact ⟨b + 1, _, Wk.keep 111 [(0, .c (iC m)), (5, .c (.a (.bp k 0))), (6, .c (bdL .ne (okL m l))), (9, bX (satB (okL m l))), (10, iX .i64 (((a : Nat) : Int) - 1)), (11, iX .i64 ((((b + 1) : Nat) : Int) - 1))] [] (H25) rfl ⟨rfl, rfl, rfl, rfl, rfl, rfl, trivial⟩ trivial (fun _ _ h => h) rfl, by omega, by omega, rfl⟩
                        ·
                          refine SeqK.off rfl rfl rfl rfl rfl rfl ?_
                          refine SeqK.off rfl rfl rfl rfl rfl rfl ?_
                          refine SeqK.on (q_pkF rfl rfl rfl) rfl rfl rfl rfl rfl ?_
                          refine SeqK.q (q_pkF rfl rfl rfl) rfl rfl rfl ?_
                          refine SeqK.nil ?_
                          refine AW.condF rfl ?_
                          refine AW.skip ?_
                          refine AW.reg ?_
                          refine SeqK.q (q_mvC rfl rfl) rfl rfl rfl ?_
                          refine SeqK.q (q_add _ rfl rfl rfl ((by rw [w64 (by omega) (by omega)]; omega : IntKind.i64.wrap _ = (((b + 1 : Nat) : Int) - 1)))) rfl rfl rfl ?_
                          refine SeqK.q (q_asC rfl rfl) rfl rfl rfl ?_
                          refine SeqK.nil ?_
                          exact ⟨b + 1, _, Wk.keep 111 [(0, .c (iC m)), (5, .c (.a (.bp k 0))), (6, .c (bdL .ne (okL m l))), (9, bX (satB (okL m l))), (10, iX .i64 (((a : Nat) : Int) - 1)), (11, iX .i64 ((((b + 1) : Nat) : Int) - 1))] [] (H25) rfl ⟨rfl, rfl, rfl, rfl, rfl, rfl, trivial⟩ trivial (fun _ _ h => h) rfl, by omega, by omega, rfl⟩
                ·
                  obtain ⟨hc, ho⟩ := hb.uniq (c' := 0) (ok' := false) (.inl ⟨(fun h => by omega), rfl, rfl⟩)
                  subst hc ho
                  refine SeqK.off rfl rfl rfl rfl rfl rfl ?_
                  refine SeqK.off rfl rfl rfl rfl rfl rfl ?_
                  refine SeqK.off rfl rfl rfl rfl rfl rfl ?_
                  refine SeqK.q (q_pkF rfl rfl rfl) rfl rfl rfl ?_
                  refine SeqK.q (q_mvC rfl rfl) rfl rfl rfl ?_
                  refine SeqK.off rfl rfl rfl rfl rfl rfl ?_
                  refine SeqK.off rfl rfl rfl rfl rfl rfl ?_
                  refine SeqK.off rfl rfl rfl rfl rfl rfl ?_
                  refine SeqK.q (q_pkF rfl rfl rfl) rfl rfl rfl ?_
                  refine SeqK.nil ?_
                  refine AW.condF rfl ?_
                  refine AW.skip ?_
                  refine AW.seq ?_
                  refine AW.reg ?_
                  refine SeqK.q (q_mvC rfl rfl) rfl rfl rfl ?_
                  refine SeqK.q (q_mvC rfl rfl) rfl rfl rfl ?_
                  refine SeqK.q (q_neqB rfl Fx.un4 rfl rfl) rfl rfl rfl ?_
                  refine SeqK.qD (q_mvC rfl rfl) rfl rfl rfl (fun g95 => ?_) (fun g95 => ?_)
                  ·
                    exact absurd g95 (by simp)
                  ·
                    refine SeqK.on (q_mvC rfl rfl) rfl rfl rfl rfl rfl ?_
                    refine SeqK.onB (q_mvC rfl rfl) rfl rfl rfl rfl rfl (fun g97 => ?_) (fun g97 => ?_)
                    ·
                      refine SeqK.on (q_mvC rfl rfl) rfl rfl rfl rfl rfl ?_
                      refine SeqK.on (q_mvC rfl rfl) rfl rfl rfl rfl rfl ?_
                      refine SeqK.on (q_neq rfl rfl rfl) rfl rfl rfl rfl rfl ?_
                      refine SeqK.on (q_pkT rfl rfl rfl) rfl rfl rfl rfl rfl ?_
                      refine SeqK.q (q_pkF rfl rfl rfl) rfl rfl rfl ?_
                      refine SeqK.qD (q_mvC rfl rfl) rfl rfl rfl (fun g103 => ?_) (fun g103 => ?_)
                      ·
                        first | (cases g97; done) | (exact absurd g103 (by simp [g97]))
                      ·
                        refine SeqK.on (q_mvC rfl rfl) rfl rfl rfl rfl rfl ?_
                        refine SeqK.on (q_not rfl rfl) rfl rfl rfl rfl rfl ?_
                        refine SeqK.onB (q_mvC rfl rfl) rfl rfl rfl rfl rfl (fun g106 => ?_) (fun g106 => ?_)
                        ·
                          refine SeqK.on (q_mvC rfl rfl) rfl rfl rfl rfl rfl ?_
                          refine SeqK.on (q_neq rfl rfl rfl) rfl rfl rfl rfl rfl ?_
                          refine SeqK.on (q_pkT rfl rfl rfl) rfl rfl rfl rfl rfl ?_
                          refine SeqK.q (q_pkF rfl rfl rfl) rfl rfl rfl ?_
                          refine SeqK.nil ?_
                          refine AW.condD rfl (fun h110 => ?_) (fun h110 => ?_)
                          ·
                            first | (exact absurd rfl h110) | (simp [g97] at g106; done) | (simp at g106; exact absurd (by simp [g106]) h110)
                          ·
                            refine AW.skip ?_
                            refine AW.reg ?_
                            refine SeqK.q (q_mvC rfl rfl) rfl rfl rfl ?_
                            refine SeqK.q (q_add _ rfl rfl rfl ((by rw [w64 (by omega) (by omega)]; omega : IntKind.i64.wrap _ = (((b + 1 : Nat) : Int) - 1)))) rfl rfl rfl ?_
                            refine SeqK.q (q_asC rfl rfl) rfl rfl rfl ?_
                            refine SeqK.nil ?_
                            exact ⟨b + 1, _, Wk.keep 111 [(0, .c (iC m)), (5, .c (.a (.bp k 0))), (6, .c (bdL .ne (okL m l))), (9, bX (satB (okL m l))), (10, iX .i64 (((a : Nat) : Int) - 1)), (11, iX .i64 ((((b + 1) : Nat) : Int) - 1))] [] (H25) rfl ⟨rfl, rfl, rfl, rfl, rfl, rfl, trivial⟩ trivial (fun _ _ h => h) rfl, by omega, by omega, rfl⟩
                        ·
                          refine SeqK.off rfl rfl rfl rfl rfl rfl ?_
                          refine SeqK.off rfl rfl rfl rfl rfl rfl ?_
                          refine SeqK.on (q_pkF rfl rfl rfl) rfl rfl rfl rfl rfl ?_
                          refine SeqK.q (q_pkF rfl rfl rfl) rfl rfl rfl ?_
                          refine SeqK.nil ?_
                          refine AW.condF rfl ?_
                          refine AW.skip ?_
                          refine AW.reg ?_
                          refine SeqK.q (q_mvC rfl rfl) rfl rfl rfl ?_
                          refine SeqK.q (q_add _ rfl rfl rfl ((by rw [w64 (by omega) (by omega)]; omega : IntKind.i64.wrap _ = (((b + 1 : Nat) : Int) - 1)))) rfl rfl rfl ?_
                          refine SeqK.q (q_asC rfl rfl) rfl rfl rfl ?_
                          refine SeqK.nil ?_
                          exact ⟨b + 1, _, Wk.keep 111 [(0, .c (iC m)), (5, .c (.a (.bp k 0))), (6, .c (bdL .ne (okL m l))), (9, bX (satB (okL m l))), (10, iX .i64 (((a : Nat) : Int) - 1)), (11, iX .i64 ((((b + 1) : Nat) : Int) - 1))] [] (H25) rfl ⟨rfl, rfl, rfl, rfl, rfl, rfl, trivial⟩ trivial (fun _ _ h => h) rfl, by omega, by omega, rfl⟩
                    ·
                      refine SeqK.off rfl rfl rfl rfl rfl rfl ?_
                      refine SeqK.off rfl rfl rfl rfl rfl rfl ?_
                      refine SeqK.off rfl rfl rfl rfl rfl rfl ?_
                      refine SeqK.on (q_pkF rfl rfl rfl) rfl rfl rfl rfl rfl ?_
                      refine SeqK.q (q_pkF rfl rfl rfl) rfl rfl rfl ?_
                      refine SeqK.q (q_mvC rfl rfl) rfl rfl rfl ?_
                      refine SeqK.on (q_mvC rfl rfl) rfl rfl rfl rfl rfl ?_
                      refine SeqK.on (q_not rfl rfl) rfl rfl rfl rfl rfl ?_
                      refine SeqK.onB (q_mvC rfl rfl) rfl rfl rfl rfl rfl (fun g106 => ?_) (fun g106 => ?_)
                      ·
                        refine SeqK.on (q_mvC rfl rfl) rfl rfl rfl rfl rfl ?_
                        refine SeqK.on (q_neq rfl rfl rfl) rfl rfl rfl rfl rfl ?_
                        refine SeqK.on (q_pkT rfl rfl rfl) rfl rfl rfl rfl rfl ?_
                        refine SeqK.q (q_pkF rfl rfl rfl) rfl rfl rfl ?_
                        refine SeqK.nil ?_
                        refine AW.condD rfl (fun h110 => ?_) (fun h110 => ?_)
                        ·
                          first | (exact absurd rfl h110) | (simp [g97] at g106; done) | (simp at g106; exact absurd (by simp [g106]) h110)
                        ·
                          refine AW.skip ?_
                          refine AW.reg ?_
                          refine SeqK.q (q_mvC rfl rfl) rfl rfl rfl ?_
                          refine SeqK.q (q_add _ rfl rfl rfl ((by rw [w64 (by omega) (by omega)]; omega : IntKind.i64.wrap _ = (((b + 1 : Nat) : Int) - 1)))) rfl rfl rfl ?_
                          refine SeqK.q (q_asC rfl rfl) rfl rfl rfl ?_
                          refine SeqK.nil ?_
                          exact ⟨b + 1, _, Wk.keep 111 [(0, .c (iC m)), (5, .c (.a (.bp k 0))), (6, .c (bdL .ne (okL m l))), (9, bX (satB (okL m l))), (10, iX .i64 (((a : Nat) : Int) - 1)), (11, iX .i64 ((((b + 1) : Nat) : Int) - 1))] [] (H25) rfl ⟨rfl, rfl, rfl, rfl, rfl, rfl, trivial⟩ trivial (fun _ _ h => h) rfl, by omega, by omega, rfl⟩
                      ·
                        refine SeqK.off rfl rfl rfl rfl rfl rfl ?_
                        refine SeqK.off rfl rfl rfl rfl rfl rfl ?_
                        refine SeqK.on (q_pkF rfl rfl rfl) rfl rfl rfl rfl rfl ?_
                        refine SeqK.q (q_pkF rfl rfl rfl) rfl rfl rfl ?_
                        refine SeqK.nil ?_
                        refine AW.condF rfl ?_
                        refine AW.skip ?_
                        refine AW.reg ?_
                        refine SeqK.q (q_mvC rfl rfl) rfl rfl rfl ?_
                        refine SeqK.q (q_add _ rfl rfl rfl ((by rw [w64 (by omega) (by omega)]; omega : IntKind.i64.wrap _ = (((b + 1 : Nat) : Int) - 1)))) rfl rfl rfl ?_
                        refine SeqK.q (q_asC rfl rfl) rfl rfl rfl ?_
                        refine SeqK.nil ?_
                        exact ⟨b + 1, _, Wk.keep 111 [(0, .c (iC m)), (5, .c (.a (.bp k 0))), (6, .c (bdL .ne (okL m l))), (9, bX (satB (okL m l))), (10, iX .i64 (((a : Nat) : Int) - 1)), (11, iX .i64 ((((b + 1) : Nat) : Int) - 1))] [] (H25) rfl ⟨rfl, rfl, rfl, rfl, rfl, rfl, trivial⟩ trivial (fun _ _ h => h) rfl, by omega, by omega, rfl⟩
              ·
                obtain ⟨hc, ho⟩ := hb.uniq (c' := 0) (ok' := false) (.inl ⟨(fun h => by omega), rfl, rfl⟩)
                subst hc ho
                refine SeqK.off rfl rfl rfl rfl rfl rfl ?_
                refine SeqK.off rfl rfl rfl rfl rfl rfl ?_
                refine SeqK.q (q_pkF rfl rfl rfl) rfl rfl rfl ?_
                refine SeqK.q (q_mvC rfl rfl) rfl rfl rfl ?_
                refine SeqK.off rfl rfl rfl rfl rfl rfl ?_
                refine SeqK.off rfl rfl rfl rfl rfl rfl ?_
                refine SeqK.off rfl rfl rfl rfl rfl rfl ?_
                refine SeqK.q (q_pkF rfl rfl rfl) rfl rfl rfl ?_
                refine SeqK.q (q_mvC rfl rfl) rfl rfl rfl ?_
                refine SeqK.off rfl rfl rfl rfl rfl rfl ?_
                refine SeqK.off rfl rfl rfl rfl rfl rfl ?_
                refine SeqK.off rfl rfl rfl rfl rfl rfl ?_
                refine SeqK.q (q_pkF rfl rfl rfl) rfl rfl rfl ?_
                refine SeqK.nil ?_
                refine AW.condF rfl ?_
                refine AW.skip ?_
                refine AW.seq ?_
                refine AW.reg ?_
                refine SeqK.q (q_mvC rfl rfl) rfl rfl rfl ?_
                refine SeqK.q (q_mvC rfl rfl) rfl rfl rfl ?_
                refine SeqK.q (q_neqB rfl Fx.un4 rfl rfl) rfl rfl rfl ?_
                refine SeqK.qD (q_mvC rfl rfl) rfl rfl rfl (fun g95 => ?_) (fun g95 => ?_)
                ·
                  exact absurd g95 (by simp)
                ·
                  refine SeqK.on (q_mvC rfl rfl) rfl rfl rfl rfl rfl ?_
                  refine SeqK.onB (q_mvC rfl rfl) rfl rfl rfl rfl rfl (fun g97 => ?_) (fun g97 => ?_)
                  ·
                    refine SeqK.on (q_mvC rfl rfl) rfl rfl rfl rfl rfl ?_
                    refine SeqK.on (q_mvC rfl rfl) rfl rfl rfl rfl rfl ?_
                    refine SeqK.on (q_neq rfl rfl rfl) rfl rfl rfl rfl rfl ?_
                    refine SeqK.on (q_pkT rfl rfl rfl) rfl rfl rfl rfl rfl ?_
                    refine SeqK.q (q_pkF rfl rfl rfl) rfl rfl rfl ?_
                    refine SeqK.qD (q_mvC rfl rfl) rfl rfl rfl (fun g103 => ?_) (fun g103 => ?_)
                    ·
                      first | (cases g97; done) | (exact absurd g103 (by simp [g97]))
                    ·
                      refine SeqK.on (q_mvC rfl rfl) rfl rfl rfl rfl rfl ?_
                      refine SeqK.on (q_not rfl rfl) rfl rfl rfl rfl rfl ?_
                      refine SeqK.onB (q_mvC rfl rfl) rfl rfl rfl rfl rfl (fun g106 => ?_) (fun g106 => ?_)
                      ·
                        refine SeqK.on (q_mvC rfl rfl) rfl rfl rfl rfl rfl ?_
                        refine SeqK.on (q_neq rfl rfl rfl) rfl rfl rfl rfl rfl ?_
                        refine SeqK.on (q_pkT rfl rfl rfl) rfl rfl rfl rfl rfl ?_
                        refine SeqK.q (q_pkF rfl rfl rfl) rfl rfl rfl ?_
                        refine SeqK.nil ?_
                        refine AW.condD rfl (fun h110 => ?_) (fun h110 => ?_)
                        ·
                          first | (exact absurd rfl h110) | (simp [g97] at g106; done) | (simp at g106; exact absurd (by simp [g106]) h110)
                        ·
                          refine AW.skip ?_
                          refine AW.reg ?_
                          refine SeqK.q (q_mvC rfl rfl) rfl rfl rfl ?_
                          refine SeqK.q (q_add _ rfl rfl rfl ((by rw [w64 (by omega) (by omega)]; omega : IntKind.i64.wrap _ = (((b + 1 : Nat) : Int) - 1)))) rfl rfl rfl ?_
                          refine SeqK.q (q_asC rfl rfl) rfl rfl rfl ?_
                          refine SeqK.nil ?_
                          exact ⟨b + 1, _, Wk.keep 111 [(0, .c (iC m)), (5, .c (.a (.bp k 0))), (6, .c (bdL .ne (okL m l))), (9, bX (satB (okL m l))), (10, iX .i64 (((a : Nat) : Int) - 1)), (11, iX .i64 ((((b + 1) : Nat) : Int) - 1))] [] (H25) rfl ⟨rfl, rfl, rfl, rfl, rfl, rfl, trivial⟩ trivial (fun _ _ h => h) rfl, by omega, by omega, rfl⟩
                      ·
                        refine SeqK.off rfl rfl rfl rfl rfl rfl ?_
                        refine SeqK.off rfl rfl rfl rfl rfl rfl ?_
                        refine SeqK.on (q_pkF rfl rfl rfl) rfl rfl rfl rfl rfl ?_
                        refine SeqK.q (q_pkF rfl rfl rfl) rfl rfl rfl ?_
                        refine SeqK.nil ?_
                        refine AW.condF rfl ?_
                        refine AW.skip ?_
                        refine AW.reg ?_
                        refine SeqK.q (q_mvC rfl rfl) rfl rfl rfl ?_
                        refine SeqK.q (q_add _ rfl rfl rfl ((by rw [w64 (by omega) (by omega)]; omega : IntKind.i64.wrap _ = (((b + 1 : Nat) : Int) - 1)))) rfl rfl rfl ?_
                        refine SeqK.q (q_asC rfl rfl) rfl rfl rfl ?_
                        refine SeqK.nil ?_
                        exact ⟨b + 1, _, Wk.keep 111 [(0, .c (iC m)), (5, .c (.a (.bp k 0))), (6, .c (bdL .ne (okL m l))), (9, bX (satB (okL m l))), (10, iX .i64 (((a : Nat) : Int) - 1)), (11, iX .i64 ((((b + 1) : Nat) : Int) - 1))] [] (H25) rfl ⟨rfl, rfl, rfl, rfl, rfl, rfl, trivial⟩ trivial (fun _ _ h => h) rfl, by omega, by omega, rfl⟩
                  ·
                    refine SeqK.off rfl rfl rfl rfl rfl rfl ?_
                    refine SeqK.off rfl rfl rfl rfl rfl rfl ?_
                    refine SeqK.off rfl rfl rfl rfl rfl rfl ?_
                    refine SeqK.on (q_pkF rfl rfl rfl) rfl rfl rfl rfl rfl ?_
                    refine SeqK.q (q_pkF rfl rfl rfl) rfl rfl rfl ?_
                    refine SeqK.q (q_mvC rfl rfl) rfl rfl rfl ?_
                    refine SeqK.on (q_mvC rfl rfl) rfl rfl rfl rfl rfl ?_
                    refine SeqK.on (q_not rfl rfl) rfl rfl rfl rfl rfl ?_
                    refine SeqK.onB (q_mvC rfl rfl) rfl rfl rfl rfl rfl (fun g106 => ?_) (fun g106 => ?_)
                    ·
                      refine SeqK.on (q_mvC rfl rfl) rfl rfl rfl rfl rfl ?_
                      refine SeqK.on (q_neq rfl rfl rfl) rfl rfl rfl rfl rfl ?_
                      refine SeqK.on (q_pkT rfl rfl rfl) rfl rfl rfl rfl rfl ?_
                      refine SeqK.q (q_pkF rfl rfl rfl) rfl rfl rfl ?_
                      refine SeqK.nil ?_
                      refine AW.condD rfl (fun h110 => ?_) (fun h110 => ?_)
                      ·
                        first | (exact absurd rfl h110) | (simp [g97] at g106; done) | (simp at g106; exact absurd (by simp [g106]) h110)
                      ·
                        refine AW.skip ?_
                        refine AW.reg ?_
                        refine SeqK.q (q_mvC rfl rfl) rfl rfl rfl ?_
                        refine SeqK.q (q_add _ rfl rfl rfl ((by rw [w64 (by omega) (by omega)]; omega : IntKind.i64.wrap _ = (((b + 1 : Nat) : Int) - 1)))) rfl rfl rfl ?_
                        refine SeqK.q (q_asC rfl rfl) rfl rfl rfl ?_
                        refine SeqK.nil ?_
                        exact ⟨b + 1, _, Wk.keep 111 [(0, .c (iC m)), (5, .c (.a (.bp k 0))), (6, .c (bdL .ne (okL m l))), (9, bX (satB (okL m l))), (10, iX .i64 (((a : Nat) : Int) - 1)), (11, iX .i64 ((((b + 1) : Nat) : Int) - 1))] [] (H25) rfl ⟨rfl, rfl, rfl, rfl, rfl, rfl, trivial⟩ trivial (fun _ _ h => h) rfl, by omega, by omega, rfl⟩
                    ·
                      refine SeqK.off rfl rfl rfl rfl rfl rfl ?_
                      refine SeqK.off rfl rfl rfl rfl rfl rfl ?_
                      refine SeqK.on (q_pkF rfl rfl rfl) rfl rfl rfl rfl rfl ?_
                      refine SeqK.q (q_pkF rfl rfl rfl) rfl rfl rfl ?_
                      refine SeqK.nil ?_
                      refine AW.condF rfl ?_
                      refine AW.skip ?_
                      refine AW.reg ?_
                      refine SeqK.q (q_mvC rfl rfl) rfl rfl rfl ?_
                      refine SeqK.q (q_add _ rfl rfl rfl ((by rw [w64 (by omega) (by omega)]; omega : IntKind.i64.wrap _ = (((b + 1 : Nat) : Int) - 1)))) rfl rfl rfl ?_
                      refine SeqK.q (q_asC rfl rfl) rfl rfl rfl ?_
                      refine SeqK.nil ?_
                      exact ⟨b + 1, _, Wk.keep 111 [(0, .c (iC m)), (5, .c (.a (.bp k 0))), (6, .c (bdL .ne (okL m l))), (9, bX (satB (okL m l))), (10, iX .i64 (((a : Nat) : Int) - 1)), (11, iX .i64 ((((b + 1) : Nat) : Int) - 1))] [] (H25) rfl ⟨rfl, rfl, rfl, rfl, rfl, rfl, trivial⟩ trivial (fun _ _ h => h) rfl, by omega, by omega, rfl⟩
            ·
              obtain ⟨hc, ho⟩ := hb.uniq (c' := 0) (ok' := false) (.inl ⟨(fun h => by rw [satB_yes h.2.2] at g66; cases g66), rfl, rfl⟩)
              subst hc ho
              refine SeqK.off rfl rfl rfl rfl rfl rfl ?_
              refine SeqK.off rfl rfl rfl rfl rfl rfl ?_
              refine SeqK.q (q_pkF rfl rfl rfl) rfl rfl rfl ?_
              refine SeqK.q (q_mvC rfl rfl) rfl rfl rfl ?_
              refine SeqK.off rfl rfl rfl rfl rfl rfl ?_
              refine SeqK.off rfl rfl rfl rfl rfl rfl ?_
              refine SeqK.q (q_pkF rfl rfl rfl) rfl rfl rfl ?_
              refine SeqK.q (q_mvC rfl rfl) rfl rfl rfl ?_
              refine SeqK.off rfl rfl rfl rfl rfl rfl ?_
              refine SeqK.off rfl rfl rfl rfl rfl rfl ?_
              refine SeqK.off rfl rfl rfl rfl rfl rfl ?_
              refine SeqK.q (q_pkF rfl rfl rfl) rfl rfl rfl ?_
              refine SeqK.q (q_mvC rfl rfl) rfl rfl rfl ?_
              refine SeqK.off rfl rfl rfl rfl rfl rfl ?_
              refine SeqK.off rfl rfl rfl rfl rfl rfl ?_
              refine SeqK.off rfl rfl rfl rfl rfl rfl ?_
              refine SeqK.q (q_pkF rfl rfl rfl) rfl rfl rfl ?_
              refine SeqK.nil ?_
              refine AW.condF rfl ?_
              refine AW.skip ?_
              refine AW.seq ?_
              refine AW.reg ?_
              refine SeqK.q (q_mvC rfl rfl) rfl rfl rfl ?_
              refine SeqK.q (q_mvC rfl rfl) rfl rfl rfl ?_
              refine SeqK.q (q_neqB rfl Fx.un4 rfl rfl) rfl rfl rfl ?_
              refine SeqK.qD (q_mvC rfl rfl) rfl rfl rfl (fun g95 => ?_) (fun g95 => ?_)
              ·
                exact absurd g95 (by simp)
              ·
                refine SeqK.on (q_mvC rfl rfl) rfl rfl rfl rfl rfl ?_
                refine SeqK.onB (q_mvC rfl rfl) rfl rfl rfl rfl rfl (fun g97 => ?_) (fun g97 => ?_)
                ·
                  refine SeqK.on (q_mvC rfl rfl) rfl rfl rfl rfl rfl ?_
                  refine SeqK.on (q_mvC rfl rfl) rfl rfl rfl rfl rfl ?_
                  refine SeqK.on (q_neq rfl rfl rfl) rfl rfl rfl rfl rfl ?_
                  refine SeqK.on (q_pkT rfl rfl rfl) rfl rfl rfl rfl rfl ?_
                  refine SeqK.q (q_pkF rfl rfl rfl) rfl rfl rfl ?_
                  refine SeqK.qD (q_mvC rfl rfl) rfl rfl rfl (fun g103 => ?_) (fun g103 => ?_)
                  ·
                    first | (cases g97; done) | (exact absurd g103 (by simp [g97]))
                  ·
                    refine SeqK.on (q_mvC rfl rfl) rfl rfl rfl rfl rfl ?_
                    refine SeqK.on (q_not rfl rfl) rfl rfl rfl rfl rfl ?_
                    refine SeqK.onB (q_mvC rfl rfl) rfl rfl rfl rfl rfl (fun g106 => ?_) (fun g106 => ?_)
                    ·
                      refine SeqK.on (q_mvC rfl rfl) rfl rfl rfl rfl rfl ?_
                      refine SeqK.on (q_neq rfl rfl rfl) rfl rfl rfl rfl rfl ?_
                      refine SeqK.on (q_pkT rfl rfl rfl) rfl rfl rfl rfl rfl ?_
                      refine SeqK.q (q_pkF rfl rfl rfl) rfl rfl rfl ?_
                      refine SeqK.nil ?_
                      refine AW.condD rfl (fun h110 => ?_) (fun h110 => ?_)
                      ·
                        first | (exact absurd rfl h110) | (simp [g97] at g106; done) | (simp at g106; exact absurd (by simp [g106]) h110)
                      ·
                        refine AW.skip ?_
                        refine AW.reg ?_
                        refine SeqK.q (q_mvC rfl rfl) rfl rfl rfl ?_
                        refine SeqK.q (q_add _ rfl rfl rfl ((by rw [w64 (by omega) (by omega)]; omega : IntKind.i64.wrap _ = (((b + 1 : Nat) : Int) - 1)))) rfl rfl rfl ?_
                        refine SeqK.q (q_asC rfl rfl) rfl rfl rfl ?_
                        refine SeqK.nil ?_
                        exact ⟨b + 1, _, Wk.keep 111 [(0, .c (iC m)), (5, .c (.a (.bp k 0))), (6, .c (bdL .ne (okL m l))), (9, bX (satB (okL m l))), (10, iX .i64 (((a : Nat) : Int) - 1)), (11, iX .i64 ((((b + 1) : Nat) : Int) - 1))] [] (H25) rfl ⟨rfl, rfl, rfl, rfl, rfl, rfl, trivial⟩ trivial (fun _ _ h => h) rfl, by omega, by omega, rfl⟩
                    ·
                      refine SeqK.off rfl rfl rfl rfl rfl rfl ?_
                      refine SeqK.off rfl rfl rfl rfl rfl rfl ?_
                      refine SeqK.on (q_pkF rfl rfl rfl) rfl rfl rfl rfl rfl ?_
                      refine SeqK.q (q_pkF rfl rfl rfl) rfl rfl rfl ?_
                      refine SeqK.nil ?_
                      refine AW.condF rfl ?_
                      refine AW.skip ?_
                      refine AW.reg ?_
                      refine SeqK.q (q_mvC rfl rfl) rfl rfl rfl ?_
                      refine SeqK.q (q_add _ rfl rfl rfl ((by rw [w64 (by omega) (by omega)]; omega : IntKind.i64.wrap _ = (((b + 1 : Nat) : Int) - 1)))) rfl rfl rfl ?_
                      refine SeqK.q (q_asC rfl rfl) rfl rfl rfl ?_
                      refine SeqK.nil ?_
                      exact ⟨b + 1, _, Wk.keep 111 [(0, .c (iC m)), (5, .c (.a (.bp k 0))), (6, .c (bdL .ne (okL m l))), (9, bX (satB (okL m l))), (10, iX .i64 (((a : Nat) : Int) - 1)), (11, iX .i64 ((((b + 1) : Nat) : Int) - 1))] [] (H25) rfl ⟨rfl, rfl, rfl, rfl, rfl, rfl, trivial⟩ trivial (fun _ _ h => h) rfl, by omega, by omega, rfl⟩
                ·
                  refine SeqK.off rfl rfl rfl rfl rfl rfl ?_
                  refine SeqK.off rfl rfl rfl rfl rfl rfl ?_
                  refine SeqK.off rfl rfl rfl rfl rfl rfl ?_
                  refine SeqK.on (q_pkF rfl rfl rfl) rfl rfl rfl rfl rfl ?_
                  refine SeqK.q (q_pkF rfl rfl rfl) rfl rfl rfl ?_
                  refine SeqK.q (q_mvC rfl rfl) rfl rfl rfl ?_
                  refine SeqK.on (q_mvC rfl rfl) rfl rfl rfl rfl rfl ?_
                  refine SeqK.on (q_not rfl rfl) rfl rfl rfl rfl rfl ?_
                  refine SeqK.onB (q_mvC rfl rfl) rfl rfl rfl rfl rfl (fun g106 => ?_) (fun g106 => ?_)
                  ·
                    refine SeqK.on (q_mvC rfl rfl) rfl rfl rfl rfl rfl ?_
                    refine SeqK.on (q_neq rfl rfl rfl) rfl rfl rfl rfl rfl ?_
                    refine SeqK.on (q_pkT rfl rfl rfl) rfl rfl rfl rfl rfl ?_
                    refine SeqK.q (q_pkF rfl rfl rfl) rfl rfl rfl ?_
                    refine SeqK.nil ?_
                    refine AW.condD rfl (fun h110 => ?_) (fun h110 => ?_)
                    ·
                      first | (exact absurd rfl h110) | (simp [g97] at g106; done) | (simp at g106; exact absurd (by simp [g106]) h110)
                    ·
                      refine AW.skip ?_
                      refine AW.reg ?_
                      refine SeqK.q (q_mvC rfl rfl) rfl rfl rfl ?_
                      refine SeqK.q (q_add _ rfl rfl rfl ((by rw [w64 (by omega) (by omega)]; omega : IntKind.i64.wrap _ = (((b + 1 : Nat) : Int) - 1)))) rfl rfl rfl ?_
                      refine SeqK.q (q_asC rfl rfl) rfl rfl rfl ?_
                      refine SeqK.nil ?_
                      exact ⟨b + 1, _, Wk.keep 111 [(0, .c (iC m)), (5, .c (.a (.bp k 0))), (6, .c (bdL .ne (okL m l))), (9, bX (satB (okL m l))), (10, iX .i64 (((a : Nat) : Int) - 1)), (11, iX .i64 ((((b + 1) : Nat) : Int) - 1))] [] (H25) rfl ⟨rfl, rfl, rfl, rfl, rfl, rfl, trivial⟩ trivial (fun _ _ h => h) rfl, by omega, by omega, rfl⟩
                  ·
                    refine SeqK.off rfl rfl rfl rfl rfl rfl ?_
                    refine SeqK.off rfl rfl rfl rfl rfl rfl ?_
                    refine SeqK.on (q_pkF rfl rfl rfl) rfl rfl rfl rfl rfl ?_
                    refine SeqK.q (q_pkF rfl rfl rfl) rfl rfl rfl ?_
                    refine SeqK.nil ?_
                    refine AW.condF rfl ?_
                    refine AW.skip ?_
                    refine AW.reg ?_
                    refine SeqK.q (q_mvC rfl rfl) rfl rfl rfl ?_
                    refine SeqK.q (q_add _ rfl rfl rfl ((by rw [w64 (by omega) (by omega)]; omega : IntKind.i64.wrap _ = (((b + 1 : Nat) : Int) - 1)))) rfl rfl rfl ?_
                    refine SeqK.q (q_asC rfl rfl) rfl rfl rfl ?_
                    refine SeqK.nil ?_
                    exact ⟨b + 1, _, Wk.keep 111 [(0, .c (iC m)), (5, .c (.a (.bp k 0))), (6, .c (bdL .ne (okL m l))), (9, bX (satB (okL m l))), (10, iX .i64 (((a : Nat) : Int) - 1)), (11, iX .i64 ((((b + 1) : Nat) : Int) - 1))] [] (H25) rfl ⟨rfl, rfl, rfl, rfl, rfl, rfl, trivial⟩ trivial (fun _ _ h => h) rfl, by omega, by omega, rfl⟩
          ·
            refine AW.exit ?_
            refine eth_e ?_
            refine eth_e ?_
            refine exit_here ?_
            refine AW.reg ?_
            refine SeqK.q (q_mvC rfl rfl) rfl rfl rfl ?_
            refine SeqK.q (q_add _ rfl rfl rfl ((by rw [w64 (by omega) (by omega)]; omega : IntKind.i64.wrap _ = (((a + 1 : Nat) : Int) - 1)))) rfl rfl rfl ?_
            refine SeqK.q (q_asC rfl rfl) rfl rfl rfl ?_
            refine SeqK.nil ?_
            exact ⟨a + 1, _, Wk.keep 111 [(0, .c (iC m)), (5, .c (.a (.bp k 0))), (6, .c (bdL .ne (okL m l))), (9, bX (satB (okL m l))), (10, iX .i64 ((((a + 1) : Nat) : Int) - 1))] [] (H25) rfl ⟨rfl, rfl, rfl, rfl, rfl, trivial⟩ trivial (fun _ _ h => h) rfl, by omega, by omega, rfl⟩
        ·
          refine AW.exit ?_
          refine eth_e ?_
          refine eth_e ?_
          refine exit_here ?_
          refine AW.seq ?_
          refine AW.reg ?_
          refine SeqK.q (q_asC rfl rfl) rfl rfl rfl ?_
          refine SeqK.nil ?_
          refine AW.ret ?_
          exact fin_x (x := .c _) (_) (.tmp rfl .nil) rfl (fun _ _ h => h) (rfl)
    ·
      have hcase : True := trivial
      refine AW.reg ?_
      refine SeqK.q (q_mvC rfl rfl) rfl rfl rfl ?_
      refine SeqK.q (q_mvC rfl rfl) rfl rfl rfl ?_
      refine SeqK.callE rfl rfl rfl rfl Fx.fn13 rfl (built_no _ n z l (by omega) hn) (fun _ _ h => by rw [h]; rfl) (fun x25 H25 q25 => ?_)
      obtain rfl := q25
      refine SeqK.q (q_mvT rfl rfl) rfl rfl rfl ?_
      refine SeqK.q (q_extract _ rfl rfl rfl) rfl rfl rfl ?_
      refine SeqK.q (q_extract _ rfl rfl rfl) rfl rfl rfl ?_
      refine SeqK.q (q_extract _ rfl rfl rfl) rfl rfl rfl ?_
      refine SeqK.q (q_asC rfl rfl) rfl rfl rfl ?_
      refine SeqK.q (q_asC rfl rfl) rfl rfl rfl ?_
      refine SeqK.q (q_asC rfl rfl) rfl rfl rfl ?_
      refine SeqK.nil ?_
      refine AW.seq ?_
      refine AW.seq ?_
      refine AW.reg ?_
      refine SeqK.q (q_mvC rfl rfl) rfl rfl rfl ?_
      refine SeqK.q (q_eqlN rfl rfl rfl Fx.nk25) rfl rfl rfl ?_
      refine SeqK.q (q_mvC rfl rfl) rfl rfl rfl ?_
      refine SeqK.off rfl rfl rfl rfl rfl rfl ?_
      refine SeqK.off rfl rfl rfl rfl rfl rfl ?_
      refine SeqK.q (q_pkT rfl rfl rfl) rfl rfl rfl ?_
      refine SeqK.nil ?_
      refine AW.condT rfl ?_
      refine AW.seq ?_
      refine AW.reg ?_
      refine SeqK.q (q_mvC rfl rfl) rfl rfl rfl ?_
      refine SeqK.q (q_asC rfl rfl) rfl rfl rfl ?_
      refine SeqK.nil ?_
      refine AW.ret ?_
      exact fin_x (x := .c _) (_) (.tmp rfl .nil) rfl (fun _ _ h => h) (rfl)

end Go.Proofs.Ytkpacejikoengaa.W
