import Derived.Test.YtkpacejikoengaaW10
namespace Go.Proofs.Ytkpacejikoengaa.W
open Go.RowKit E M
set_option linter.unusedVariables false
set_option linter.unusedSimpArgs false
theorem un0 (xs : List Int) : ¬ M.Sat (chB 0 xs ++ [⟨(xs.length : Nat), 0, 0 - xs.sum - 1⟩]) := by
  rw [show 0 - xs.sum - 1 = -xs.sum - 1 by omega]; exact chB_unsat xs
abbrev i16T (n : Int) : List T := [.v (.int .i16 n)]
theorem take_sum {xs : List Int} {i : Nat} (h : i < xs.length) : (xs.take (i + 1)).sum = (xs.take i).sum + xs[i] := by
  rw [List.take_add_one, List.getElem?_eq_getElem h, M.sum_append]; simp
theorem chB_next {xs : List Int} {i : Nat} (h : i < xs.length) : chB 0 (xs.take (i + 1)) = chB 0 (xs.take i) ++ [⟨(i : Nat), (i : Nat) + 1, xs[i]⟩] := by
  rw [List.take_add_one, List.getElem?_eq_getElem h]
  show chB 0 (xs.take i ++ [xs[i]]) = _
  rw [chB_snoc, List.length_take, Nat.min_eq_left (by omega), Nat.zero_add]; rfl

set_option maxRecDepth 20000 in
theorem chain_law (z : Nz) (xs : List Int) (hb : ∀ c ∈ xs, -32768 ≤ c ∧ c ≤ 32767) (H : Heap) : E.Spec Try.prog 9 [.a (.t (.sl z 1 (xs.map i16T)))] H fun x _ => x = bX true := by
  refine Spec.enter Try.func9 rfl ?_
  refine AW.wk (Wk.keep 90 [(0, .c (.a (.t (.sl z 1 (xs.map i16T)))))] [] (H) rfl ⟨rfl, trivial⟩ trivial (fun _ _ h => h) rfl) ?_
  refine AW.seq ?_
  refine AW.reg ?_
  refine SeqK.q (q_asC rfl rfl) rfl rfl rfl ?_
  refine SeqK.nil ?_
  refine AW.seq ?_
  refine AW.seq ?_
  refine AW.reg ?_
  refine SeqK.callE rfl rfl rfl rfl Fx.fn11 rfl (awake_any _) (fun _ _ h => by rw [h]; rfl) (fun x11 H11 q11 => ?_)
  obtain rfl := q11
  refine SeqK.q (q_not rfl rfl) rfl rfl rfl ?_
  refine SeqK.nil ?_
  refine AW.condF rfl ?_
  refine AW.skip ?_
  refine AW.seq ?_
  refine AW.reg ?_
  refine SeqK.q (q_mvC rfl rfl) rfl rfl rfl ?_
  refine SeqK.q (q_len rfl Fx.un48 rfl) rfl rfl rfl ?_
  refine SeqK.q (q_asC rfl rfl) rfl rfl rfl ?_
  refine SeqK.nil ?_
  refine AW.seq ?_
  refine AW.seq ?_
  refine AW.wk (Wk.keep 90 [(0, .c (.a (.t (.sl z 1 (xs.map i16T))))), (3, iX .i64 ((xs.length : Nat) : Int))] [] (H11) rfl ⟨rfl, by show iX .i64 ((xs.map i16T).length : Nat) = _; rw [List.length_map], trivial⟩ trivial (fun _ _ h => h) rfl) ?_
  refine AW.reg ?_
  refine SeqK.q (q_mvC rfl rfl) rfl rfl rfl ?_
  refine SeqK.q (q_lss rfl rfl rfl) rfl rfl rfl ?_
  refine SeqK.qD (q_mvC rfl rfl) rfl rfl rfl (fun g17 => ?_) (fun g17 => ?_)
  ·
    refine SeqK.off rfl rfl rfl rfl rfl rfl ?_
    refine SeqK.off rfl rfl rfl rfl rfl rfl ?_
    refine SeqK.q (q_pkT rfl rfl rfl) rfl rfl rfl ?_
    refine SeqK.nil ?_
    refine AW.condT rfl ?_
    refine AW.seq ?_
    refine AW.reg ?_
    refine SeqK.q (q_asC rfl rfl) rfl rfl rfl ?_
    refine SeqK.nil ?_
    refine AW.ret ?_
    exact fin_x (x := .c _) (_) (.tmp rfl .nil) rfl (fun _ _ h => h) (rfl)
  ·
    refine SeqK.on (q_mvC rfl rfl) rfl rfl rfl rfl rfl ?_
    refine SeqK.on (q_gtr rfl rfl rfl) rfl rfl rfl rfl rfl ?_
    refine SeqK.q (q_pkF rfl rfl rfl) rfl rfl rfl ?_
    refine SeqK.nil ?_
    refine AW.condD rfl (fun h20 => ?_) (fun h20 => ?_)
    ·
      refine AW.seq ?_
      refine AW.reg ?_
      refine SeqK.q (q_asC rfl rfl) rfl rfl rfl ?_
      refine SeqK.nil ?_
      refine AW.ret ?_
      exact fin_x (x := .c _) (_) (.tmp rfl .nil) rfl (fun _ _ h => h) (rfl)
    ·
      have hn1 : 1 ≤ xs.length := by omega
      have hn2 : xs.length ≤ 64 := by omega
      refine AW.skip ?_
      refine AW.seq ?_
      refine AW.reg ?_
      refine SeqK.q (q_mvC rfl rfl) rfl rfl rfl ?_
      refine SeqK.callE rfl rfl rfl rfl Fx.fn23 rfl (new_ok _ xs.length hn2) (fun _ _ h => by obtain ⟨_, h, _⟩ := h; rw [h]; rfl) (fun x23 H23 q23 => ?_)
      obtain ⟨k, rfl, M, _⟩ := q23
      refine SeqK.q (q_mvT rfl rfl) rfl rfl rfl ?_
      refine SeqK.q (q_extract _ rfl rfl rfl) rfl rfl rfl ?_
      refine SeqK.q (q_extract _ rfl rfl rfl) rfl rfl rfl ?_
      refine SeqK.q (q_asC rfl rfl) rfl rfl rfl ?_
      refine SeqK.q (q_asC rfl rfl) rfl rfl rfl ?_
      refine SeqK.nil ?_
      refine AW.seq ?_
      refine AW.seq ?_
      refine AW.reg ?_
      refine SeqK.q (q_mvC rfl rfl) rfl rfl rfl ?_
      refine SeqK.q (q_eqlN rfl rfl rfl Fx.nk25) rfl rfl rfl ?_
      refine SeqK.q (q_mvC rfl rfl) rfl rfl rfl ?_
      refine SeqK.on (q_mvC rfl rfl) rfl rfl rfl rfl rfl ?_
      refine SeqK.on (q_neq rfl rfl rfl) rfl rfl rfl rfl rfl ?_
      refine SeqK.q (q_pkF rfl rfl rfl) rfl rfl rfl ?_
      refine SeqK.nil ?_
      refine AW.condF rfl ?_
      refine AW.skip ?_
      refine AW.seq ?_
      refine AW.reg ?_
      refine SeqK.q (q_asC rfl rfl) rfl rfl rfl ?_
      refine SeqK.nil ?_
      refine AW.seq ?_
      refine AW.seq ?_
      refine AW.reg ?_
      refine SeqK.q (q_mvC rfl rfl) rfl rfl rfl ?_
      refine SeqK.q (q_len rfl Fx.un48 rfl) rfl rfl rfl ?_
      refine SeqK.q (q_mvC rfl rfl) rfl rfl rfl ?_
      refine SeqK.nil ?_
      refine AW.block ?_
      refine AW.loop (fun (i : Nat) s => ∃ (Hx : Heap) (sum : Int), (i ≤ xs.length ∧ Mat Hx k xs.length (chB 0 (xs.take i)) ∧ sum = (xs.take i).sum ∧ -(32768 * (i : Int)) ≤ sum ∧ sum ≤ 32768 * (i : Int)) ∧ s = ⟨90, sp [(3, iX .i64 ((xs.length : Nat) : Int)), (4, .c (.a (.bp k 0))), (6, iX .i64 sum), (32, .c (.a (.t (.sl z 1 (xs.map i16T))))), (33, iX .i64 ((xs.map i16T).length : Nat)), (34, iX .i64 ((i : Nat) : Int))], lv [], Hx⟩) (fun i => xs.length - i) 0 ⟨_, Wk.keep 90 [(3, iX .i64 ((xs.length : Nat) : Int)), (4, .c (.a (.bp k 0))), (6, iX .i64 (0)), (32, .c (.a (.t (.sl z 1 (xs.map i16T))))), (33, iX .i64 ((xs.map i16T).length : Nat)), (34, iX .i64 ((((0 : Nat)) : Nat) : Int))] [] ((H23)) rfl ⟨rfl, rfl, rfl, rfl, rfl, rfl, trivial⟩ trivial (fun _ _ h => h) rfl, H23, 0, ⟨Nat.zero_le _, M, rfl, by omega, by omega⟩, rfl⟩ (fun i s hs => ?_)
      obtain ⟨Hx, sum, ⟨hi, M, hsum, hs1, hs2⟩, rfl⟩ := hs
      refine AW.seq ?_
      refine AW.reg ?_
      refine SeqK.q (q_lss rfl rfl rfl) rfl rfl rfl ?_
      refine SeqK.nil ?_
      refine AW.seq ?_
      refine AW.condD rfl (fun h35 => ?_) (fun h35 => ?_)
      ·
        have hka : i < xs.length := by simp at h35; omega
        have hbi := hb _ (List.getElem_mem hka)
        refine AW.skip ?_
        refine AW.seq ?_
        refine AW.block ?_
        refine AW.seq ?_
        refine AW.reg ?_
        refine SeqK.q (q_mvC rfl rfl) rfl rfl rfl ?_
        refine SeqK.q (q_index _ rfl Fx.sl48 rfl rfl (by omega) (idx_map hka)) rfl rfl rfl ?_
        refine SeqK.q (q_load (.a _) rfl Fx.ty51 rfl rfl rfl) rfl rfl rfl ?_
        refine SeqK.q (q_asC rfl rfl) rfl rfl rfl ?_
        refine SeqK.q (q_asC rfl rfl) rfl rfl rfl ?_
        refine SeqK.nil ?_
        refine AW.seq ?_
        refine AW.seq ?_
        refine AW.reg ?_
        refine SeqK.q (q_mvC rfl rfl) rfl rfl rfl ?_
        refine SeqK.q (q_mvC rfl rfl) rfl rfl rfl ?_
        refine SeqK.q (q_mvC rfl rfl) rfl rfl rfl ?_
        refine SeqK.q (q_add _ rfl rfl rfl (w64 (by omega) (by omega))) rfl rfl rfl ?_
        refine SeqK.q (q_mvC rfl rfl) rfl rfl rfl ?_
        refine SeqK.q (q_conv _ rfl Fx.un2 rfl (w64 (by omega) (by omega)) ⟨_, Fx.un51⟩) rfl rfl rfl ?_
        refine SeqK.callE rfl rfl rfl rfl Fx.fn22 rfl (add_in _ k xs.length _ ⟨(i : Nat), (i : Nat) + 1, xs[i]⟩ M (by simp only [chB_len, List.length_take]; omega) ⟨by show (0 : Int) ≤ (i : Nat); omega, by show ((i : Nat) : Int) ≤ _; omega, by show (0 : Int) ≤ (i : Nat) + 1; omega, by show ((i : Nat) : Int) + 1 ≤ _; omega, by show _ ≤ xs[i]; omega, by show xs[i] ≤ _; omega⟩) (fun _ _ h => by rw [h.1]; rfl) (fun x45 H45 q45 => ?_)
        obtain ⟨rfl, M, _⟩ := q45
        rw [← chB_next hka] at M
        refine SeqK.q (q_neq rfl rfl rfl) rfl rfl rfl ?_
        refine SeqK.nil ?_
        refine AW.condF rfl ?_
        refine AW.skip ?_
        refine AW.reg ?_
        refine SeqK.q (q_mvC rfl rfl) rfl rfl rfl ?_
        refine SeqK.q (q_mvC rfl rfl) rfl rfl rfl ?_
        refine SeqK.q (q_conv _ rfl Fx.un2 rfl (w64 (by omega) (by omega)) ⟨_, Fx.un51⟩) rfl rfl rfl ?_
        refine SeqK.q (q_add _ rfl rfl rfl (w64 (by omega) (by omega))) rfl rfl rfl ?_
        refine SeqK.q (q_asC rfl rfl) rfl rfl rfl ?_
        refine SeqK.nil ?_
        refine AW.reg ?_
        refine SeqK.q (q_add _ rfl rfl rfl (w64 (by omega) (by omega))) rfl rfl rfl ?_
        refine SeqK.q (q_mvC rfl rfl) rfl rfl rfl ?_
        refine SeqK.nil ?_
        exact ⟨i + 1, _, Wk.keep 90 [(3, iX .i64 ((xs.length : Nat) : Int)), (4, .c (.a (.bp k 0))), (6, iX .i64 (_)), (32, .c (.a (.t (.sl z 1 (xs.map i16T))))), (33, iX .i64 ((xs.map i16T).length : Nat)), (34, iX .i64 (((i + 1) : Nat) : Int))] [] ((_)) rfl ⟨rfl, rfl, rfl, rfl, rfl, rfl, trivial⟩ trivial (fun _ _ h => h) rfl, by omega, _, _, ⟨by omega, M, by rw [take_sum hka, hsum], by omega, by omega⟩, rfl⟩
      ·
        refine AW.exit ?_
        refine eth_e ?_
        refine eth_e ?_
        refine exit_here ?_
        refine AW.seq ?_
        obtain rfl : i = xs.length := by simp at h35; omega
        have M : Mat Hx k xs.length (chB 0 xs) := by rw [List.take_length] at M; exact M
        have hse : sum = xs.sum := by rw [hsum, List.take_length]
        subst hse
        refine AW.reg ?_
        refine SeqK.q (q_mvC rfl rfl) rfl rfl rfl ?_
        refine SeqK.q (q_mvC rfl rfl) rfl rfl rfl ?_
        refine SeqK.callE rfl rfl rfl rfl Fx.fn16 rfl (bound_any _ k xs.length _ 0 xs.length M.r (by rw [chB_len]; omega)) (fun _ _ h => by obtain ⟨⟨_, _, h, _⟩, _⟩ := h; rw [h]; rfl) (fun x55 H55 q55 => ?_)
        obtain ⟨⟨c, ok, rfl, hbr⟩, hH⟩ := q55
        replace hH := hH.symm
        subst hH
        obtain ⟨rfl, rfl⟩ := hbr.uniq (c' := xs.sum) (ok' := true) (.inr ⟨by omega, by omega, ⟨_, chB_sol xs⟩, chB_br xs⟩)
        refine SeqK.q (q_mvT rfl rfl) rfl rfl rfl ?_
        refine SeqK.q (q_extract _ rfl rfl rfl) rfl rfl rfl ?_
        refine SeqK.q (q_extract _ rfl rfl rfl) rfl rfl rfl ?_
        refine SeqK.q (q_asC rfl rfl) rfl rfl rfl ?_
        refine SeqK.q (q_asC rfl rfl) rfl rfl rfl ?_
        refine SeqK.nil ?_
        refine AW.seq ?_
        refine AW.seq ?_
        refine AW.reg ?_
        refine SeqK.q (q_mvC rfl rfl) rfl rfl rfl ?_
        refine SeqK.q (q_mvC rfl rfl) rfl rfl rfl ?_
        refine SeqK.q (q_neq rfl rfl rfl) rfl rfl rfl ?_
        refine SeqK.qD (q_mvC rfl rfl) rfl rfl rfl (fun g61 => ?_) (fun g61 => ?_)
        ·
          exact (g61 rfl).elim
        ·
          refine SeqK.on (q_mvC rfl rfl) rfl rfl rfl rfl rfl ?_
          refine SeqK.on (q_not rfl rfl) rfl rfl rfl rfl rfl ?_
          refine SeqK.q (q_pkF rfl rfl rfl) rfl rfl rfl ?_
          refine SeqK.q (q_mvC rfl rfl) rfl rfl rfl ?_
          refine SeqK.on (q_mvC rfl rfl) rfl rfl rfl rfl rfl ?_
          refine SeqK.rOn (g_call rfl Fx.fn15 rfl (sat_pure _ k xs.length _ M.r (by rw [chB_len]; omega) (satB_yes ⟨_, chB_sol xs⟩)) rfl rfl rfl) rfl rfl rfl ?_
          refine SeqK.on (q_not rfl rfl) rfl rfl rfl rfl rfl ?_
          refine SeqK.q (q_pkF rfl rfl rfl) rfl rfl rfl ?_
          refine SeqK.nil ?_
          refine AW.condF rfl ?_
          refine AW.skip ?_
          refine AW.seq ?_
          refine AW.reg ?_
          refine SeqK.q (q_mvC rfl rfl) rfl rfl rfl ?_
          refine SeqK.q (q_mvC rfl rfl) rfl rfl rfl ?_
          refine SeqK.q (q_mvC rfl rfl) rfl rfl rfl ?_
          refine SeqK.q (q_neg _ rfl rfl (w64 (by omega) (by omega))) rfl rfl rfl ?_
          refine SeqK.q (q_sub _ rfl rfl rfl (w64 (by omega) (by omega))) rfl rfl rfl ?_
          refine SeqK.callE rfl rfl rfl rfl Fx.fn22 rfl (add_in _ k xs.length _ ⟨(xs.length : Nat), 0, 0 - xs.sum - 1⟩ M (by simp only [chB_len, List.length_take]; omega) ⟨by show (0 : Int) ≤ (xs.length : Nat); omega, by show ((xs.length : Nat) : Int) ≤ _; omega, Int.le_refl _, by show (0 : Int) ≤ _; omega, by show _ ≤ 0 - xs.sum - 1; omega, by show 0 - xs.sum - 1 ≤ _; omega⟩) (fun _ _ h => by rw [h.1]; rfl) (fun x75 H75 q75 => ?_)
          obtain ⟨rfl, M, _⟩ := q75
          have hun := un0 xs
          refine SeqK.q (q_eql rfl rfl rfl) rfl rfl rfl ?_
          refine SeqK.q (q_mvC rfl rfl) rfl rfl rfl ?_
          refine SeqK.on (q_mvC rfl rfl) rfl rfl rfl rfl rfl ?_
          refine SeqK.rOn (g_call rfl Fx.fn15 rfl (sat_pure _ k xs.length _ M.r (by simp [chB_len]; omega) (satB_no hun)) rfl rfl rfl) rfl rfl rfl ?_
          refine SeqK.on (q_not rfl rfl) rfl rfl rfl rfl rfl ?_
          refine SeqK.q (q_pkT rfl rfl rfl) rfl rfl rfl ?_
          refine SeqK.q (q_mvC rfl rfl) rfl rfl rfl ?_
          refine SeqK.on (q_mvC rfl rfl) rfl rfl rfl rfl rfl ?_
          refine SeqK.callOn rfl rfl rfl rfl rfl rfl Fx.fn20 rfl (cycle_any _ k xs.length _ M.r (by simp [chB_len]; omega)) (fun _ _ h => ne_loc h) (fun x84 H84 q84 => ?_)
          obtain ⟨z9, E, rfl, hH, hc⟩ := q84
          replace hH := hH.symm
          subst hH
          have hE : E.length = xs.length + 1 := by
            rcases hc with ⟨_, _, h⟩ | ⟨cs, h1, h2⟩
            · exact absurd h hun
            · rw [h1, List.length_map]; exact ring_len (n := xs.length) (by simp [chB_len]) (chB_ring xs _) h2
          refine SeqK.on (q_len rfl Fx.un36 rfl) rfl rfl rfl rfl rfl ?_
          refine SeqK.on (q_mvC rfl rfl) rfl rfl rfl rfl rfl ?_
          refine SeqK.on (q_add _ rfl rfl rfl (w64 (by omega) (by omega))) rfl rfl rfl rfl rfl ?_
          refine SeqK.on (q_eql rfl rfl rfl) rfl rfl rfl rfl rfl ?_
          refine SeqK.q (q_pkT rfl rfl rfl) rfl rfl rfl ?_
          refine SeqK.q (q_asC rfl rfl) rfl rfl rfl ?_
          refine SeqK.nil ?_
          refine AW.ret ?_
          exact fin_x (x := .c _) (_) (.tmp rfl .nil) rfl (fun _ _ h => h) (by rw [hE]; exact congrArg (fun b => X.c (.a (.t (.v (.bool b))))) (decide_eq_true (by omega)))

end Go.Proofs.Ytkpacejikoengaa.W
