import Derived.Test.YtkpacejikoengaaW18
import Derived.Test.YtkpacejikoengaaW7
namespace Go.Proofs.Ytkpacejikoengaa.W
open Go.RowKit E M
set_option linter.unusedVariables false
set_option linter.unusedSimpArgs false
section
variable {eq : Bool} {k : Int} {l : List Cf} {n : Int}
theorem ij1 (h : l.length = 1) (h0 : 0 < l.length) : ijF n l = if l[0].n = 1 then (l[0].v, n) else (n, l[0].v) := by
  match l, h with
  | [a], _ => rfl
theorem ij2 (h : l.length = 2) (h0 : 0 < l.length) (h1 : 1 < l.length) (hm : ∀ x ∈ l, okC n x) (hne : l[0].n ≠ l[1].n) : ijF n l = if l[0].n = 1 then (l[0].v, l[1].v) else (l[1].v, l[0].v) := by
  match l, h with
  | [a, b], _ =>
    have ha := (hm a (by simp)).2.2
    have hb := (hm b (by simp)).2.2
    simp only [List.getElem_cons_zero, List.getElem_cons_succ] at hne ⊢
    unfold ijF
    simp only [List.foldl]
    rcases ha with ha | ha <;> rcases hb with hb | hb <;> simp_all
theorem ng_nn (h0 : 0 < l.length) (h1 : 1 < l.length) (h : l[0].n = l[1].n) : ¬ Good eq k l n := fun g => (g.two h0 h1).2 h
end

set_option maxRecDepth 20000 in
theorem refof_any (H : Heap) (z : Nz) (eq : Bool) (k n : Int) (l : List Cf) (hl : l.length ≤ 10) : E.Spec Try.prog 25 [.g [.t (.v (.int .i64 k)), .t (.sl z 2 (l.map cfT)), .t (.v (.bool eq))], iC n] H fun x H' => (∃ (b : Bd) (ok : Bool), x = .tup [bdC b, .a (.t (.v (.bool ok)))] ∧ OfS eq k l n b ok) ∧ H' = H := by
  refine Spec.enter Try.func25 rfl ?_
  refine AW.wk (Wk.keep 149 [(0, .c (.g [.t (.v (.int .i64 k)), .t (.sl z 2 (l.map cfT)), .t (.v (.bool eq))])), (1, .c (iC n))] [] (H) rfl ⟨rfl, rfl, trivial⟩ trivial (fun _ _ h => h) rfl) ?_
  refine AW.seq ?_
  refine AW.reg ?_
  refine SeqK.r (b_box (r := [_, _, _]) rfl rfl rfl rfl rfl rfl) rfl ?_
  refine SeqK.r (b_alloc (r := [_, _, _]) rfl rfl Fx.ze41 rfl rfl rfl rfl) rfl ?_
  refine SeqK.q (q_asC rfl rfl) rfl rfl rfl ?_
  refine SeqK.nil ?_
  refine AW.seq ?_
  refine AW.reg ?_
  refine SeqK.q (q_fieldL _ rfl Fx.fl57_0 rfl rfl) rfl rfl rfl ?_
  refine SeqK.q (q_fieldL _ rfl Fx.fl55_0 rfl rfl) rfl rfl rfl ?_
  refine SeqK.r (b_load (r := .a _) rfl Fx.ty2 rfl rfl rfl rfl rfl rfl) rfl ?_
  refine SeqK.q (q_asC rfl rfl) rfl rfl rfl ?_
  refine SeqK.nil ?_
  refine AW.seq ?_
  refine AW.reg ?_
  refine SeqK.q (q_fieldL _ rfl Fx.fl57_0 rfl rfl) rfl rfl rfl ?_
  refine SeqK.q (q_fieldL _ rfl Fx.fl55_1 rfl rfl) rfl rfl rfl ?_
  refine SeqK.r (b_load (r := .a _) rfl Fx.ty53 rfl rfl rfl rfl rfl rfl) rfl ?_
  refine SeqK.q (q_asC rfl rfl) rfl rfl rfl ?_
  refine SeqK.nil ?_
  refine AW.seq ?_
  refine AW.seq ?_
  refine AW.reg ?_
  refine SeqK.q (q_fieldL _ rfl Fx.fl57_1 rfl rfl) rfl rfl rfl ?_
  refine SeqK.r (b_load (r := .a _) rfl Fx.ty4 rfl rfl rfl rfl rfl rfl) rfl ?_
  refine SeqK.qB (q_mvC rfl rfl) rfl rfl rfl (fun g17 => ?_) (fun g17 => ?_)
  ·
    refine SeqK.off rfl rfl rfl rfl rfl rfl ?_
    refine SeqK.off rfl rfl rfl rfl rfl rfl ?_
    refine SeqK.off rfl rfl rfl rfl rfl rfl ?_
    refine SeqK.off rfl rfl rfl rfl rfl rfl ?_
    refine SeqK.q (q_pkT rfl rfl rfl) rfl rfl rfl ?_
    refine SeqK.q (q_mvC rfl rfl) rfl rfl rfl ?_
    refine SeqK.off rfl rfl rfl rfl rfl rfl ?_
    refine SeqK.off rfl rfl rfl rfl rfl rfl ?_
    refine SeqK.off rfl rfl rfl rfl rfl rfl ?_
    refine SeqK.q (q_pkT rfl rfl rfl) rfl rfl rfl ?_
    refine SeqK.q (q_mvC rfl rfl) rfl rfl rfl ?_
    refine SeqK.off rfl rfl rfl rfl rfl rfl ?_
    refine SeqK.off rfl rfl rfl rfl rfl rfl ?_
    refine SeqK.off rfl rfl rfl rfl rfl rfl ?_
    refine SeqK.q (q_pkT rfl rfl rfl) rfl rfl rfl ?_
    refine SeqK.q (q_mvC rfl rfl) rfl rfl rfl ?_
    refine SeqK.off rfl rfl rfl rfl rfl rfl ?_
    refine SeqK.off rfl rfl rfl rfl rfl rfl ?_
    refine SeqK.off rfl rfl rfl rfl rfl rfl ?_
    refine SeqK.q (q_pkT rfl rfl rfl) rfl rfl rfl ?_
    refine SeqK.nil ?_
    refine AW.condT rfl ?_
    refine AW.seq ?_
    refine AW.reg ?_
    refine SeqK.q (q_build2 (zs := [_, _, _]) (r := [_, _, _]) [(0, 1), (1, 1), (2, 1)] _ rfl Fx.ze41 rfl Fx.bp41 rfl rfl rfl rfl) rfl rfl rfl ?_
    refine SeqK.r (b_store (r := [_, _, _]) rfl rfl Fx.ty41 rfl rfl rfl rfl rfl rfl) rfl ?_
    refine SeqK.q (q_asC rfl rfl) rfl rfl rfl ?_
    refine SeqK.nil ?_
    refine AW.ret ?_
    exact fin_x (x := .tup [_, _]) (H) (.cellL rfl rfl Fx.ty41 rfl rfl (.tmp rfl .nil)) rfl (fun _ _ h => h) (⟨⟨⟨0, 0, 0⟩, false, rfl, .inl ⟨rfl, rfl, by first | exact ng_e (by assumption) | exact ng_lo (by omega) | exact ng_hi (by omega) | exact ng_l1 (by assumption) | exact ng_l2 (by assumption)⟩⟩, rfl⟩)
  ·
    refine SeqK.on (q_mvC rfl rfl) rfl rfl rfl rfl rfl ?_
    refine SeqK.on (q_call _ rfl Fx.fn31 rfl (limit_any) rfl) rfl rfl rfl rfl rfl ?_
    refine SeqK.on (q_neg _ rfl rfl (w64 (by omega) (by omega))) rfl rfl rfl rfl rfl ?_
    refine SeqK.on (q_lss rfl rfl rfl) rfl rfl rfl rfl rfl ?_
    refine SeqK.q (q_pkF rfl rfl rfl) rfl rfl rfl ?_
    refine SeqK.qD (q_mvC rfl rfl) rfl rfl rfl (fun g23 => ?_) (fun g23 => ?_)
    ·
      refine SeqK.off rfl rfl rfl rfl rfl rfl ?_
      refine SeqK.off rfl rfl rfl rfl rfl rfl ?_
      refine SeqK.off rfl rfl rfl rfl rfl rfl ?_
      refine SeqK.q (q_pkT rfl rfl rfl) rfl rfl rfl ?_
      refine SeqK.q (q_mvC rfl rfl) rfl rfl rfl ?_
      refine SeqK.off rfl rfl rfl rfl rfl rfl ?_
      refine SeqK.off rfl rfl rfl rfl rfl rfl ?_
      refine SeqK.off rfl rfl rfl rfl rfl rfl ?_
      refine SeqK.q (q_pkT rfl rfl rfl) rfl rfl rfl ?_
      refine SeqK.q (q_mvC rfl rfl) rfl rfl rfl ?_
      refine SeqK.off rfl rfl rfl rfl rfl rfl ?_
      refine SeqK.off rfl rfl rfl rfl rfl rfl ?_
      refine SeqK.off rfl rfl rfl rfl rfl rfl ?_
      refine SeqK.q (q_pkT rfl rfl rfl) rfl rfl rfl ?_
      refine SeqK.nil ?_
      refine AW.condT rfl ?_
      refine AW.seq ?_
      refine AW.reg ?_
      refine SeqK.q (q_build2 (zs := [_, _, _]) (r := [_, _, _]) [(0, 1), (1, 1), (2, 1)] _ rfl Fx.ze41 rfl Fx.bp41 rfl rfl rfl rfl) rfl rfl rfl ?_
      refine SeqK.r (b_store (r := [_, _, _]) rfl rfl Fx.ty41 rfl rfl rfl rfl rfl rfl) rfl ?_
      refine SeqK.q (q_asC rfl rfl) rfl rfl rfl ?_
      refine SeqK.nil ?_
      refine AW.ret ?_
      exact fin_x (x := .tup [_, _]) (H) (.cellL rfl rfl Fx.ty41 rfl rfl (.tmp rfl .nil)) rfl (fun _ _ h => h) (⟨⟨⟨0, 0, 0⟩, false, rfl, .inl ⟨rfl, rfl, by first | exact ng_e (by assumption) | exact ng_lo (by omega) | exact ng_hi (by omega) | exact ng_l1 (by assumption) | exact ng_l2 (by assumption)⟩⟩, rfl⟩)
    ·
      refine SeqK.on (q_mvC rfl rfl) rfl rfl rfl rfl rfl ?_
      refine SeqK.on (q_call _ rfl Fx.fn31 rfl (limit_any) rfl) rfl rfl rfl rfl rfl ?_
      refine SeqK.on (q_gtr rfl rfl rfl) rfl rfl rfl rfl rfl ?_
      refine SeqK.q (q_pkF rfl rfl rfl) rfl rfl rfl ?_
      refine SeqK.qD (q_mvC rfl rfl) rfl rfl rfl (fun g28 => ?_) (fun g28 => ?_)
      ·
        refine SeqK.off rfl rfl rfl rfl rfl rfl ?_
        refine SeqK.off rfl rfl rfl rfl rfl rfl ?_
        refine SeqK.off rfl rfl rfl rfl rfl rfl ?_
        refine SeqK.q (q_pkT rfl rfl rfl) rfl rfl rfl ?_
        refine SeqK.q (q_mvC rfl rfl) rfl rfl rfl ?_
        refine SeqK.off rfl rfl rfl rfl rfl rfl ?_
        refine SeqK.off rfl rfl rfl rfl rfl rfl ?_
        refine SeqK.off rfl rfl rfl rfl rfl rfl ?_
        refine SeqK.q (q_pkT rfl rfl rfl) rfl rfl rfl ?_
        refine SeqK.nil ?_
        refine AW.condT rfl ?_
        refine AW.seq ?_
        refine AW.reg ?_
        refine SeqK.q (q_build2 (zs := [_, _, _]) (r := [_, _, _]) [(0, 1), (1, 1), (2, 1)] _ rfl Fx.ze41 rfl Fx.bp41 rfl rfl rfl rfl) rfl rfl rfl ?_
        refine SeqK.r (b_store (r := [_, _, _]) rfl rfl Fx.ty41 rfl rfl rfl rfl rfl rfl) rfl ?_
        refine SeqK.q (q_asC rfl rfl) rfl rfl rfl ?_
        refine SeqK.nil ?_
        refine AW.ret ?_
        exact fin_x (x := .tup [_, _]) (H) (.cellL rfl rfl Fx.ty41 rfl rfl (.tmp rfl .nil)) rfl (fun _ _ h => h) (⟨⟨⟨0, 0, 0⟩, false, rfl, .inl ⟨rfl, rfl, by first | exact ng_e (by assumption) | exact ng_lo (by omega) | exact ng_hi (by omega) | exact ng_l1 (by assumption) | exact ng_l2 (by assumption)⟩⟩, rfl⟩)
      ·
        refine SeqK.on (q_mvC rfl rfl) rfl rfl rfl rfl rfl ?_
        refine SeqK.on (q_len rfl Fx.un53 rfl) rfl rfl rfl rfl rfl ?_
        refine SeqK.on (q_lss rfl rfl rfl) rfl rfl rfl rfl rfl ?_
        refine SeqK.q (q_pkF rfl rfl rfl) rfl rfl rfl ?_
        refine SeqK.qD (q_mvC rfl rfl) rfl rfl rfl (fun g33 => ?_) (fun g33 => ?_)
        ·
          refine SeqK.off rfl rfl rfl rfl rfl rfl ?_
          refine SeqK.off rfl rfl rfl rfl rfl rfl ?_
          refine SeqK.off rfl rfl rfl rfl rfl rfl ?_
          refine SeqK.q (q_pkT rfl rfl rfl) rfl rfl rfl ?_
          refine SeqK.nil ?_
          refine AW.condT rfl ?_
          refine AW.seq ?_
          refine AW.reg ?_
          refine SeqK.q (q_build2 (zs := [_, _, _]) (r := [_, _, _]) [(0, 1), (1, 1), (2, 1)] _ rfl Fx.ze41 rfl Fx.bp41 rfl rfl rfl rfl) rfl rfl rfl ?_
          refine SeqK.r (b_store (r := [_, _, _]) rfl rfl Fx.ty41 rfl rfl rfl rfl rfl rfl) rfl ?_
          refine SeqK.q (q_asC rfl rfl) rfl rfl rfl ?_
          refine SeqK.nil ?_
          refine AW.ret ?_
          exact fin_x (x := .tup [_, _]) (H) (.cellL rfl rfl Fx.ty41 rfl rfl (.tmp rfl .nil)) rfl (fun _ _ h => h) (⟨⟨⟨0, 0, 0⟩, false, rfl, .inl ⟨rfl, rfl, by first | exact ng_e (by assumption) | exact ng_lo (by omega) | exact ng_hi (by omega) | exact ng_l1 (by assumption) | exact ng_l2 (by assumption)⟩⟩, rfl⟩)
        ·
          refine SeqK.on (q_mvC rfl rfl) rfl rfl rfl rfl rfl ?_
          refine SeqK.on (q_len rfl Fx.un53 rfl) rfl rfl rfl rfl rfl ?_
          refine SeqK.on (q_gtr rfl rfl rfl) rfl rfl rfl rfl rfl ?_
          refine SeqK.q (q_pkF rfl rfl rfl) rfl rfl rfl ?_
          refine SeqK.nil ?_
          refine AW.condD rfl (fun h37 => ?_) (fun h37 => ?_)
          ·
            refine AW.seq ?_
            refine AW.reg ?_
            refine SeqK.q (q_build2 (zs := [_, _, _]) (r := [_, _, _]) [(0, 1), (1, 1), (2, 1)] _ rfl Fx.ze41 rfl Fx.bp41 rfl rfl rfl rfl) rfl rfl rfl ?_
            refine SeqK.r (b_store (r := [_, _, _]) rfl rfl Fx.ty41 rfl rfl rfl rfl rfl rfl) rfl ?_
            refine SeqK.q (q_asC rfl rfl) rfl rfl rfl ?_
            refine SeqK.nil ?_
            refine AW.ret ?_
            exact fin_x (x := .tup [_, _]) (H) (.cellL rfl rfl Fx.ty41 rfl rfl (.tmp rfl .nil)) rfl (fun _ _ h => h) (⟨⟨⟨0, 0, 0⟩, false, rfl, .inl ⟨rfl, rfl, by first | exact ng_e (by assumption) | exact ng_lo (by omega) | exact ng_hi (by omega) | exact ng_l1 (by assumption) | exact ng_l2 (by assumption)⟩⟩, rfl⟩)
          ·
            refine AW.skip ?_
            refine AW.seq ?_
            refine AW.seq ?_
            refine AW.reg ?_
            refine SeqK.q (q_asC rfl rfl) rfl rfl rfl ?_
            refine SeqK.nil ?_
            refine AW.block ?_
            refine AW.loop (fun (i : Nat) s => (i ≤ l.length ∧ ∀ (v : Nat) (h : v < l.length), v < i → okC n l[v]) ∧ s = ⟨149, sp [(1, .c (iC n)), (4, .lp 4 0), (6, .c (iC k)), (7, .c (.a (.t (.sl z 2 (l.map cfT))))), (8, iX .i64 ((i : Nat) : Int))], lv [(4, .box [.t (.v (.int .i64 0)), .t (.v (.int .i64 0)), .t (.v (.int .i64 0))])], H⟩) (fun i => l.length - i) 0 ⟨_, Wk.keep 149 [(1, .c (iC n)), (4, .lp 4 0), (6, .c (iC k)), (7, .c (.a (.t (.sl z 2 (l.map cfT))))), (8, iX .i64 ((((0 : Nat)) : Nat) : Int))] [(4, .box [.t (.v (.int .i64 0)), .t (.v (.int .i64 0)), .t (.v (.int .i64 0))])] (H) rfl ⟨rfl, rfl, rfl, rfl, rfl, trivial⟩ ⟨rfl, trivial⟩ (fun _ _ h => h) rfl, ⟨Nat.zero_le _, fun v h hv => absurd hv (Nat.not_lt_zero v)⟩, rfl⟩ (fun i s hs => ?_)
            obtain ⟨⟨hi, hall⟩, rfl⟩ := hs
            refine AW.seq ?_
            refine AW.seq ?_
            refine AW.reg ?_
            refine SeqK.q (q_mvC rfl rfl) rfl rfl rfl ?_
            refine SeqK.q (q_mvC rfl rfl) rfl rfl rfl ?_
            refine SeqK.q (q_len rfl Fx.un53 rfl) rfl rfl rfl ?_
            refine SeqK.q (q_lss rfl rfl rfl) rfl rfl rfl ?_
            refine SeqK.nil ?_
            refine AW.condD rfl (fun h42 => ?_) (fun h42 => ?_)
            ·
              have hka : i < l.length := by simp at h42; omega
              refine AW.skip ?_
              refine AW.seq ?_
              refine AW.block ?_
              refine AW.seq ?_
              refine AW.reg ?_
              refine SeqK.q (q_mvC rfl rfl) rfl rfl rfl ?_
              refine SeqK.q (q_mvC rfl rfl) rfl rfl rfl ?_
              refine SeqK.q (q_index _ rfl Fx.sl53 rfl rfl (by omega) (idx_map hka)) rfl rfl rfl ?_
              refine SeqK.q (q_fieldP _ rfl Fx.fl82_0 rfl rfl) rfl rfl rfl ?_
              refine SeqK.q (q_load (.a _) rfl Fx.ty3 rfl rfl rfl) rfl rfl rfl ?_
              refine SeqK.q (q_lss rfl rfl rfl) rfl rfl rfl ?_
              refine SeqK.qD (q_mvC rfl rfl) rfl rfl rfl (fun g51 => ?_) (fun g51 => ?_)
              ·
                refine SeqK.off rfl rfl rfl rfl rfl rfl ?_
                refine SeqK.off rfl rfl rfl rfl rfl rfl ?_
                refine SeqK.off rfl rfl rfl rfl rfl rfl ?_
                refine SeqK.off rfl rfl rfl rfl rfl rfl ?_
                refine SeqK.off rfl rfl rfl rfl rfl rfl ?_
                refine SeqK.off rfl rfl rfl rfl rfl rfl ?_
                refine SeqK.off rfl rfl rfl rfl rfl rfl ?_
                refine SeqK.q (q_pkT rfl rfl rfl) rfl rfl rfl ?_
                refine SeqK.q (q_mvC rfl rfl) rfl rfl rfl ?_
                refine SeqK.off rfl rfl rfl rfl rfl rfl ?_
                refine SeqK.off rfl rfl rfl rfl rfl rfl ?_
                refine SeqK.off rfl rfl rfl rfl rfl rfl ?_
                refine SeqK.off rfl rfl rfl rfl rfl rfl ?_
                refine SeqK.off rfl rfl rfl rfl rfl rfl ?_
                refine SeqK.off rfl rfl rfl rfl rfl rfl ?_
                refine SeqK.off rfl rfl rfl rfl rfl rfl ?_
                refine SeqK.offU rfl rfl rfl rfl rfl ?_
                refine SeqK.offU rfl rfl rfl rfl rfl ?_
                refine SeqK.offU rfl rfl rfl rfl rfl ?_
                refine SeqK.offU rfl rfl rfl rfl rfl ?_
                refine SeqK.offU rfl rfl rfl rfl rfl ?_
                refine SeqK.offU rfl rfl rfl rfl rfl ?_
                refine SeqK.off rfl rfl rfl rfl rfl rfl ?_
                refine SeqK.q (q_pkT rfl rfl rfl) rfl rfl rfl ?_
                refine SeqK.nil ?_
                refine AW.condT rfl ?_
                refine AW.seq ?_
                refine AW.reg ?_
                refine SeqK.q (q_build2 (zs := [_, _, _]) (r := [_, _, _]) [(0, 1), (1, 1), (2, 1)] _ rfl Fx.ze41 rfl Fx.bp41 rfl rfl rfl rfl) rfl rfl rfl ?_
                refine SeqK.r (b_store (r := [_, _, _]) rfl rfl Fx.ty41 rfl rfl rfl rfl rfl rfl) rfl ?_
                refine SeqK.q (q_asC rfl rfl) rfl rfl rfl ?_
                refine SeqK.nil ?_
                refine AW.ret ?_
                exact fin_x (x := .tup [_, _]) (H) (.cellL rfl rfl Fx.ty41 rfl rfl (.tmp rfl .nil)) rfl (fun _ _ h => h) (⟨⟨⟨0, 0, 0⟩, false, rfl, .inl ⟨rfl, rfl, by first | exact ng_c hka (fun h => by have := h.1; have := h.2.1; omega) | exact ng_c hka (fun h => by rcases h.2.2 with h9 | h9 <;> omega)⟩⟩, rfl⟩)
              ·
                refine SeqK.on (q_mvC rfl rfl) rfl rfl rfl rfl rfl ?_
                refine SeqK.on (q_mvC rfl rfl) rfl rfl rfl rfl rfl ?_
                refine SeqK.on (q_index _ rfl Fx.sl53 rfl rfl (by omega) (idx_map hka)) rfl rfl rfl rfl rfl ?_
                refine SeqK.on (q_fieldP _ rfl Fx.fl82_0 rfl rfl) rfl rfl rfl rfl rfl ?_
                refine SeqK.on (q_load (.a _) rfl Fx.ty3 rfl rfl rfl) rfl rfl rfl rfl rfl ?_
                refine SeqK.on (q_mvC rfl rfl) rfl rfl rfl rfl rfl ?_
                refine SeqK.on (q_geq rfl rfl rfl) rfl rfl rfl rfl rfl ?_
                refine SeqK.q (q_pkF rfl rfl rfl) rfl rfl rfl ?_
                refine SeqK.qD (q_mvC rfl rfl) rfl rfl rfl (fun g60 => ?_) (fun g60 => ?_)
                ·
                  refine SeqK.off rfl rfl rfl rfl rfl rfl ?_
                  refine SeqK.off rfl rfl rfl rfl rfl rfl ?_
                  refine SeqK.off rfl rfl rfl rfl rfl rfl ?_
                  refine SeqK.off rfl rfl rfl rfl rfl rfl ?_
                  refine SeqK.off rfl rfl rfl rfl rfl rfl ?_
                  refine SeqK.off rfl rfl rfl rfl rfl rfl ?_
                  refine SeqK.off rfl rfl rfl rfl rfl rfl ?_
                  refine SeqK.offU rfl rfl rfl rfl rfl ?_
                  refine SeqK.offU rfl rfl rfl rfl rfl ?_
                  refine SeqK.offU rfl rfl rfl rfl rfl ?_
                  refine SeqK.offU rfl rfl rfl rfl rfl ?_
                  refine SeqK.offU rfl rfl rfl rfl rfl ?_
                  refine SeqK.offU rfl rfl rfl rfl rfl ?_
                  refine SeqK.off rfl rfl rfl rfl rfl rfl ?_
                  refine SeqK.q (q_pkT rfl rfl rfl) rfl rfl rfl ?_
                  refine SeqK.nil ?_
                  refine AW.condT rfl ?_
                  refine AW.seq ?_
                  refine AW.reg ?_
                  refine SeqK.q (q_build2 (zs := [_, _, _]) (r := [_, _, _]) [(0, 1), (1, 1), (2, 1)] _ rfl Fx.ze41 rfl Fx.bp41 rfl rfl rfl rfl) rfl rfl rfl ?_
                  refine SeqK.r (b_store (r := [_, _, _]) rfl rfl Fx.ty41 rfl rfl rfl rfl rfl rfl) rfl ?_
                  refine SeqK.q (q_asC rfl rfl) rfl rfl rfl ?_
                  refine SeqK.nil ?_
                  refine AW.ret ?_
                  exact fin_x (x := .tup [_, _]) (H) (.cellL rfl rfl Fx.ty41 rfl rfl (.tmp rfl .nil)) rfl (fun _ _ h => h) (⟨⟨⟨0, 0, 0⟩, false, rfl, .inl ⟨rfl, rfl, by first | exact ng_c hka (fun h => by have := h.1; have := h.2.1; omega) | exact ng_c hka (fun h => by rcases h.2.2 with h9 | h9 <;> omega)⟩⟩, rfl⟩)
                ·
                  refine SeqK.on (q_mvC rfl rfl) rfl rfl rfl rfl rfl ?_
                  refine SeqK.on (q_mvC rfl rfl) rfl rfl rfl rfl rfl ?_
                  refine SeqK.on (q_index _ rfl Fx.sl53 rfl rfl (by omega) (idx_map hka)) rfl rfl rfl rfl rfl ?_
                  refine SeqK.on (q_fieldP _ rfl Fx.fl82_1 rfl rfl) rfl rfl rfl rfl rfl ?_
                  refine SeqK.on (q_load (.a _) rfl Fx.ty2 rfl rfl rfl) rfl rfl rfl rfl rfl ?_
                  refine SeqK.on (q_neq rfl rfl rfl) rfl rfl rfl rfl rfl ?_
                  refine SeqK.onD (q_mvC rfl rfl) rfl rfl rfl rfl rfl (fun g67 => ?_) (fun g67 => ?_)
                  ·
                    refine SeqK.on (q_mvC rfl rfl) rfl rfl rfl rfl rfl ?_
                    refine SeqK.on (q_mvC rfl rfl) rfl rfl rfl rfl rfl ?_
                    refine SeqK.on (q_index _ rfl Fx.sl53 rfl rfl (by omega) (idx_map hka)) rfl rfl rfl rfl rfl ?_
                    refine SeqK.on (q_fieldP _ rfl Fx.fl82_1 rfl rfl) rfl rfl rfl rfl rfl ?_
                    refine SeqK.on (q_load (.a _) rfl Fx.ty2 rfl rfl rfl) rfl rfl rfl rfl rfl ?_
                    refine SeqK.on (q_neq rfl rfl rfl) rfl rfl rfl rfl rfl ?_
                    refine SeqK.on (q_pkT rfl rfl rfl) rfl rfl rfl rfl rfl ?_
                    refine SeqK.q (q_pkF rfl rfl rfl) rfl rfl rfl ?_
                    refine SeqK.nil ?_
                    refine AW.condD rfl (fun h75 => ?_) (fun h75 => ?_)
                    ·
                      refine AW.seq ?_
                      refine AW.reg ?_
                      refine SeqK.q (q_build2 (zs := [_, _, _]) (r := [_, _, _]) [(0, 1), (1, 1), (2, 1)] _ rfl Fx.ze41 rfl Fx.bp41 rfl rfl rfl rfl) rfl rfl rfl ?_
                      refine SeqK.r (b_store (r := [_, _, _]) rfl rfl Fx.ty41 rfl rfl rfl rfl rfl rfl) rfl ?_
                      refine SeqK.q (q_asC rfl rfl) rfl rfl rfl ?_
                      refine SeqK.nil ?_
                      refine AW.ret ?_
                      exact fin_x (x := .tup [_, _]) (H) (.cellL rfl rfl Fx.ty41 rfl rfl (.tmp rfl .nil)) rfl (fun _ _ h => h) (⟨⟨⟨0, 0, 0⟩, false, rfl, .inl ⟨rfl, rfl, by first | exact ng_c hka (fun h => by have := h.1; have := h.2.1; omega) | exact ng_c hka (fun h => by rcases h.2.2 with h9 | h9 <;> omega)⟩⟩, rfl⟩)
                    ·
                      refine AW.skip ?_
                      refine AW.reg ?_
                      refine SeqK.q (q_mvC rfl rfl) rfl rfl rfl ?_
                      refine SeqK.q (q_add _ rfl rfl rfl (w64 (by omega) (by omega))) rfl rfl rfl ?_
                      refine SeqK.q (q_asC rfl rfl) rfl rfl rfl ?_
                      refine SeqK.nil ?_
                      exact ⟨i + 1, _, Wk.keep 149 [(1, .c (iC n)), (4, .lp 4 0), (6, .c (iC k)), (7, .c (.a (.t (.sl z 2 (l.map cfT))))), (8, iX .i64 (((i + 1) : Nat) : Int))] [(4, .box [.t (.v (.int .i64 0)), .t (.v (.int .i64 0)), .t (.v (.int .i64 0))])] (H) rfl ⟨rfl, rfl, rfl, rfl, rfl, trivial⟩ ⟨rfl, trivial⟩ (fun _ _ h => h) rfl, by omega, ⟨by omega, fun v h hv => by
                        by_cases e : v = i
                        · subst e; refine ⟨by omega, by omega, ?_⟩; omega
                        · exact hall v h (by omega)⟩, rfl⟩
                  ·
                    refine SeqK.off rfl rfl rfl rfl rfl rfl ?_
                    refine SeqK.off rfl rfl rfl rfl rfl rfl ?_
                    refine SeqK.off rfl rfl rfl rfl rfl rfl ?_
                    refine SeqK.off rfl rfl rfl rfl rfl rfl ?_
                    refine SeqK.off rfl rfl rfl rfl rfl rfl ?_
                    refine SeqK.off rfl rfl rfl rfl rfl rfl ?_
                    refine SeqK.on (q_pkF rfl rfl rfl) rfl rfl rfl rfl rfl ?_
                    refine SeqK.q (q_pkF rfl rfl rfl) rfl rfl rfl ?_
                    refine SeqK.nil ?_
                    refine AW.condF rfl ?_
                    refine AW.skip ?_
                    refine AW.reg ?_
                    refine SeqK.q (q_mvC rfl rfl) rfl rfl rfl ?_
                    refine SeqK.q (q_add _ rfl rfl rfl (w64 (by omega) (by omega))) rfl rfl rfl ?_
                    refine SeqK.q (q_asC rfl rfl) rfl rfl rfl ?_
                    refine SeqK.nil ?_
                    exact ⟨i + 1, _, Wk.keep 149 [(1, .c (iC n)), (4, .lp 4 0), (6, .c (iC k)), (7, .c (.a (.t (.sl z 2 (l.map cfT))))), (8, iX .i64 (((i + 1) : Nat) : Int))] [(4, .box [.t (.v (.int .i64 0)), .t (.v (.int .i64 0)), .t (.v (.int .i64 0))])] (H) rfl ⟨rfl, rfl, rfl, rfl, rfl, trivial⟩ ⟨rfl, trivial⟩ (fun _ _ h => h) rfl, by omega, ⟨by omega, fun v h hv => by
                      by_cases e : v = i
                      · subst e; refine ⟨by omega, by omega, ?_⟩; omega
                      · exact hall v h (by omega)⟩, rfl⟩
            ·
              refine AW.exit ?_
              refine eth_e ?_
              refine eth_e ?_
              refine exit_here ?_
              refine AW.seq ?_
              refine AW.seq ?_
              obtain rfl : i = l.length := by simp at h42; omega
              have hb1 : 1 ≤ l.length := by simp at g33; omega
              have hb2 : l.length ≤ 2 := by simp at h37; omega
              have hmem : ∀ x ∈ l, okC n x := fun x hx => by obtain ⟨v, hv, rfl⟩ := List.getElem_of_mem hx; exact hall v hv hv
              have h00 : 0 < l.length := hb1
              refine AW.reg ?_
              refine SeqK.q (q_mvC rfl rfl) rfl rfl rfl ?_
              refine SeqK.q (q_len rfl Fx.un53 rfl) rfl rfl rfl ?_
              refine SeqK.q (q_eql rfl rfl rfl) rfl rfl rfl ?_
              refine SeqK.nil ?_
              refine AW.condD rfl (fun h79 => ?_) (fun h79 => ?_)
              ·
                refine AW.seq ?_
                refine AW.seq ?_
                have hl1 : l.length = 1 := by simp at h79; omega
                have hgood : Good eq k l n := ⟨g17, by omega, by omega, hb1, hb2, hmem, fun _ h1 => by omega⟩
                refine AW.reg ?_
                refine SeqK.q (q_mvC rfl rfl) rfl rfl rfl ?_
                refine SeqK.q (q_index _ rfl Fx.sl53 rfl rfl (by omega) (idx_map (k := 0) h00)) rfl rfl rfl ?_
                refine SeqK.q (q_fieldP _ rfl Fx.fl82_1 rfl rfl) rfl rfl rfl ?_
                refine SeqK.q (q_load (.a _) rfl Fx.ty2 rfl rfl rfl) rfl rfl rfl ?_
                refine SeqK.q (q_eql rfl rfl rfl) rfl rfl rfl ?_
                refine SeqK.nil ?_
                refine AW.condD rfl (fun h84 => ?_) (fun h84 => ?_)
                ·
                  refine AW.seq ?_
                  refine AW.reg ?_
                  refine SeqK.q (q_mvC rfl rfl) rfl rfl rfl ?_
                  refine SeqK.q (q_index _ rfl Fx.sl53 rfl rfl (by omega) (idx_map (k := 0) h00)) rfl rfl rfl ?_
                  refine SeqK.q (q_fieldP _ rfl Fx.fl82_0 rfl rfl) rfl rfl rfl ?_
                  refine SeqK.q (q_load (.a _) rfl Fx.ty3 rfl rfl rfl) rfl rfl rfl ?_
                  refine SeqK.q (q_mvC rfl rfl) rfl rfl rfl ?_
                  refine SeqK.q (q_mvC rfl rfl) rfl rfl rfl ?_
                  refine SeqK.q (q_neg _ rfl rfl ((by rw [w64 (by omega) (by omega)]; omega : IntKind.i64.wrap _ = -k))) rfl rfl rfl ?_
                  refine SeqK.q (q_build2 (zs := [_, _, _]) (r := [_, _, _]) [(0, 1), (1, 1), (2, 1)] _ rfl Fx.ze41 rfl Fx.bp41 rfl rfl rfl rfl) rfl rfl rfl ?_
                  refine SeqK.r (b_store (r := [_, _, _]) rfl rfl Fx.ty41 rfl rfl rfl rfl rfl rfl) rfl ?_
                  refine SeqK.q (q_asC rfl rfl) rfl rfl rfl ?_
                  refine SeqK.nil ?_
                  refine AW.ret ?_
                  exact fin_x (x := .tup [_, _]) (H) (.cellL rfl rfl Fx.ty41 rfl rfl (.tmp rfl .nil)) rfl (fun _ _ h => h) (⟨⟨⟨l[0].v, n, -k⟩, true, rfl, .inr ⟨rfl, hgood, by rw [ij1 hl1 h00, if_pos h84]⟩⟩, rfl⟩)
                ·
                  refine AW.skip ?_
                  refine AW.seq ?_
                  refine AW.reg ?_
                  refine SeqK.q (q_mvC rfl rfl) rfl rfl rfl ?_
                  refine SeqK.q (q_mvC rfl rfl) rfl rfl rfl ?_
                  refine SeqK.q (q_index _ rfl Fx.sl53 rfl rfl (by omega) (idx_map (k := 0) h00)) rfl rfl rfl ?_
                  refine SeqK.q (q_fieldP _ rfl Fx.fl82_0 rfl rfl) rfl rfl rfl ?_
                  refine SeqK.q (q_load (.a _) rfl Fx.ty3 rfl rfl rfl) rfl rfl rfl ?_
                  refine SeqK.q (q_mvC rfl rfl) rfl rfl rfl ?_
                  refine SeqK.q (q_neg _ rfl rfl ((by rw [w64 (by omega) (by omega)]; omega : IntKind.i64.wrap _ = -k))) rfl rfl rfl ?_
                  refine SeqK.q (q_build2 (zs := [_, _, _]) (r := [_, _, _]) [(0, 1), (1, 1), (2, 1)] _ rfl Fx.ze41 rfl Fx.bp41 rfl rfl rfl rfl) rfl rfl rfl ?_
                  refine SeqK.r (b_store (r := [_, _, _]) rfl rfl Fx.ty41 rfl rfl rfl rfl rfl rfl) rfl ?_
                  refine SeqK.q (q_asC rfl rfl) rfl rfl rfl ?_
                  refine SeqK.nil ?_
                  refine AW.ret ?_
                  exact fin_x (x := .tup [_, _]) (H) (.cellL rfl rfl Fx.ty41 rfl rfl (.tmp rfl .nil)) rfl (fun _ _ h => h) (⟨⟨⟨n, l[0].v, -k⟩, true, rfl, .inr ⟨rfl, hgood, by rw [ij1 hl1 h00, if_neg h84]⟩⟩, rfl⟩)
              ·
                refine AW.skip ?_
                refine AW.seq ?_
                refine AW.seq ?_
                have hl2 : l.length = 2 := by simp at h79; omega
                have h01 : 1 < l.length := by omega
                refine AW.draw Fx.mo ?_
                refine LexK.q (q_mvC rfl rfl) rfl rfl rfl ?_
                refine LexK.q (q_index _ rfl Fx.sl53 rfl rfl (by omega) (idx_map (k := 0) h00)) rfl rfl rfl ?_
                refine LexK.q (q_fieldP _ rfl Fx.fl82_1 rfl rfl) rfl rfl rfl ?_
                refine LexK.q (q_load (.a _) rfl Fx.ty2 rfl rfl rfl) rfl rfl rfl ?_
                refine LexK.q (q_mvC rfl rfl) rfl rfl rfl ?_
                refine LexK.q (q_index _ rfl Fx.sl53 rfl rfl (by omega) (idx_map (k := 1) h01)) rfl rfl rfl ?_
                refine LexK.q (q_fieldP _ rfl Fx.fl82_1 rfl rfl) rfl rfl rfl ?_
                refine LexK.q (q_load (.a _) rfl Fx.ty2 rfl rfl rfl) rfl rfl rfl ?_
                refine LexK.q (q_eql rfl rfl rfl) rfl rfl rfl ?_
                refine LexK.qD (q_mvC rfl rfl) rfl rfl rfl (fun g110 => ?_) (fun g110 => ?_)
                ·
                  refine LexK.off rfl rfl rfl rfl rfl rfl ?_
                  refine LexK.off rfl rfl rfl rfl rfl rfl ?_
                  refine LexK.off rfl rfl rfl rfl rfl rfl ?_
                  refine LexK.off rfl rfl rfl rfl rfl rfl ?_
                  refine LexK.off rfl rfl rfl rfl rfl rfl ?_
                  refine LexK.off rfl rfl rfl rfl rfl rfl ?_
                  refine LexK.off rfl rfl rfl rfl rfl rfl ?_
                  refine LexK.off rfl rfl rfl rfl rfl rfl ?_
                  refine LexK.off rfl rfl rfl rfl rfl rfl ?_
                  refine LexK.q (q_pkT rfl rfl rfl) rfl rfl rfl ?_
                  refine LexK.nil (by kernel_rfl) ?_
                  refine AW.condT rfl ?_
                  refine AW.seq ?_
                  refine AW.reg ?_
                  refine SeqK.q (q_build2 (zs := [_, _, _]) (r := [_, _, _]) [(0, 1), (1, 1), (2, 1)] _ rfl Fx.ze41 rfl Fx.bp41 rfl rfl rfl rfl) rfl rfl rfl ?_
                  refine SeqK.r (b_store (r := [_, _, _]) rfl rfl Fx.ty41 rfl rfl rfl rfl rfl rfl) rfl ?_
                  refine SeqK.q (q_asC rfl rfl) rfl rfl rfl ?_
                  refine SeqK.nil ?_
                  refine AW.ret ?_
                  exact fin_x (x := .tup [_, _]) (H) (.cellL rfl rfl Fx.ty41 rfl rfl (.tmp rfl .nil)) rfl (fun _ _ h => h) (⟨⟨⟨0, 0, 0⟩, false, rfl, .inl ⟨rfl, rfl, by first | exact ng_nn h00 h01 (by assumption) | exact ng_v h00 h01 (by assumption)⟩⟩, rfl⟩)
                ·
                  refine LexK.on (q_mvC rfl rfl) rfl rfl rfl rfl rfl ?_
                  refine LexK.on (q_index _ rfl Fx.sl53 rfl rfl (by omega) (idx_map (k := 0) h00)) rfl rfl rfl rfl rfl ?_
                  refine LexK.on (q_fieldP _ rfl Fx.fl82_0 rfl rfl) rfl rfl rfl rfl rfl ?_
                  refine LexK.on (q_load (.a _) rfl Fx.ty3 rfl rfl rfl) rfl rfl rfl rfl rfl ?_
                  refine LexK.on (q_mvC rfl rfl) rfl rfl rfl rfl rfl ?_
                  refine LexK.on (q_index _ rfl Fx.sl53 rfl rfl (by omega) (idx_map (k := 1) h01)) rfl rfl rfl rfl rfl ?_
                  refine LexK.on (q_fieldP _ rfl Fx.fl82_0 rfl rfl) rfl rfl rfl rfl rfl ?_
                  refine LexK.on (q_load (.a _) rfl Fx.ty3 rfl rfl rfl) rfl rfl rfl rfl rfl ?_
                  refine LexK.on (q_eql rfl rfl rfl) rfl rfl rfl rfl rfl ?_
                  refine LexK.q (q_pkF rfl rfl rfl) rfl rfl rfl ?_
                  refine LexK.nil (by kernel_rfl) ?_
                  refine AW.condD rfl (fun h120 => ?_) (fun h120 => ?_)
                  ·
                    refine AW.seq ?_
                    refine AW.reg ?_
                    refine SeqK.q (q_build2 (zs := [_, _, _]) (r := [_, _, _]) [(0, 1), (1, 1), (2, 1)] _ rfl Fx.ze41 rfl Fx.bp41 rfl rfl rfl rfl) rfl rfl rfl ?_
                    refine SeqK.r (b_store (r := [_, _, _]) rfl rfl Fx.ty41 rfl rfl rfl rfl rfl rfl) rfl ?_
                    refine SeqK.q (q_asC rfl rfl) rfl rfl rfl ?_
                    refine SeqK.nil ?_
                    refine AW.ret ?_
                    exact fin_x (x := .tup [_, _]) (H) (.cellL rfl rfl Fx.ty41 rfl rfl (.tmp rfl .nil)) rfl (fun _ _ h => h) (⟨⟨⟨0, 0, 0⟩, false, rfl, .inl ⟨rfl, rfl, by first | exact ng_nn h00 h01 (by assumption) | exact ng_v h00 h01 (by assumption)⟩⟩, rfl⟩)
                  ·
                    refine AW.skip ?_
                    refine AW.seq ?_
                    refine AW.seq ?_
                    have hgood : Good eq k l n := ⟨g17, by omega, by omega, hb1, hb2, hmem, fun _ _ => ⟨h120, g110⟩⟩
                    have hij := ij2 hl2 h00 h01 hmem g110
                    refine AW.reg ?_
                    refine SeqK.q (q_mvC rfl rfl) rfl rfl rfl ?_
                    refine SeqK.q (q_index _ rfl Fx.sl53 rfl rfl (by omega) (idx_map (k := 0) h00)) rfl rfl rfl ?_
                    refine SeqK.q (q_fieldP _ rfl Fx.fl82_1 rfl rfl) rfl rfl rfl ?_
                    refine SeqK.q (q_load (.a _) rfl Fx.ty2 rfl rfl rfl) rfl rfl rfl ?_
                    refine SeqK.q (q_eql rfl rfl rfl) rfl rfl rfl ?_
                    refine SeqK.nil ?_
                    refine AW.condD rfl (fun h126 => ?_) (fun h126 => ?_)
                    ·
                      refine AW.seq ?_
                      refine AW.draw Fx.mo ?_
                      refine LexK.q (q_mvC rfl rfl) rfl rfl rfl ?_
                      refine LexK.q (q_index _ rfl Fx.sl53 rfl rfl (by omega) (idx_map (k := 0) h00)) rfl rfl rfl ?_
                      refine LexK.q (q_fieldP _ rfl Fx.fl82_0 rfl rfl) rfl rfl rfl ?_
                      refine LexK.q (q_load (.a _) rfl Fx.ty3 rfl rfl rfl) rfl rfl rfl ?_
                      refine LexK.q (q_mvC rfl rfl) rfl rfl rfl ?_
                      refine LexK.q (q_index _ rfl Fx.sl53 rfl rfl (by omega) (idx_map (k := 1) h01)) rfl rfl rfl ?_
                      refine LexK.q (q_fieldP _ rfl Fx.fl82_0 rfl rfl) rfl rfl rfl ?_
                      refine LexK.q (q_load (.a _) rfl Fx.ty3 rfl rfl rfl) rfl rfl rfl ?_
                      refine LexK.q (q_mvC rfl rfl) rfl rfl rfl ?_
                      refine LexK.q (q_neg _ rfl rfl ((by rw [w64 (by omega) (by omega)]; omega : IntKind.i64.wrap _ = -k))) rfl rfl rfl ?_
                      refine LexK.q (q_build2 (zs := [_, _, _]) (r := [_, _, _]) [(0, 1), (1, 1), (2, 1)] _ rfl Fx.ze41 rfl Fx.bp41 rfl rfl rfl rfl) rfl rfl rfl ?_
                      refine LexK.r (b_store (r := [_, _, _]) rfl rfl Fx.ty41 rfl rfl rfl rfl rfl rfl) rfl ?_
                      refine LexK.q (q_asC rfl rfl) rfl rfl rfl ?_
                      refine LexK.nil (by kernel_rfl) ?_
                      refine AW.ret ?_
                      exact fin_x (x := .tup [_, _]) (H) (.cellL rfl rfl Fx.ty41 rfl rfl (.tmp rfl .nil)) rfl (fun _ _ h => h) (⟨⟨⟨l[0].v, l[1].v, -k⟩, true, rfl, .inr ⟨rfl, hgood, by rw [hij, if_pos h126]⟩⟩, rfl⟩)
                    ·
                      refine AW.skip ?_
                      refine AW.seq ?_
                      refine AW.draw Fx.mo ?_
                      refine LexK.q (q_mvC rfl rfl) rfl rfl rfl ?_
                      refine LexK.q (q_index _ rfl Fx.sl53 rfl rfl (by omega) (idx_map (k := 1) h01)) rfl rfl rfl ?_
                      refine LexK.q (q_fieldP _ rfl Fx.fl82_0 rfl rfl) rfl rfl rfl ?_
                      refine LexK.q (q_load (.a _) rfl Fx.ty3 rfl rfl rfl) rfl rfl rfl ?_
                      refine LexK.q (q_mvC rfl rfl) rfl rfl rfl ?_
                      refine LexK.q (q_index _ rfl Fx.sl53 rfl rfl (by omega) (idx_map (k := 0) h00)) rfl rfl rfl ?_
                      refine LexK.q (q_fieldP _ rfl Fx.fl82_0 rfl rfl) rfl rfl rfl ?_
                      refine LexK.q (q_load (.a _) rfl Fx.ty3 rfl rfl rfl) rfl rfl rfl ?_
                      refine LexK.q (q_mvC rfl rfl) rfl rfl rfl ?_
                      refine LexK.q (q_neg _ rfl rfl ((by rw [w64 (by omega) (by omega)]; omega : IntKind.i64.wrap _ = -k))) rfl rfl rfl ?_
                      refine LexK.q (q_build2 (zs := [_, _, _]) (r := [_, _, _]) [(0, 1), (1, 1), (2, 1)] _ rfl Fx.ze41 rfl Fx.bp41 rfl rfl rfl rfl) rfl rfl rfl ?_
                      refine LexK.r (b_store (r := [_, _, _]) rfl rfl Fx.ty41 rfl rfl rfl rfl rfl rfl) rfl ?_
                      refine LexK.q (q_asC rfl rfl) rfl rfl rfl ?_
                      refine LexK.nil (by kernel_rfl) ?_
                      refine AW.ret ?_
                      exact fin_x (x := .tup [_, _]) (H) (.cellL rfl rfl Fx.ty41 rfl rfl (.tmp rfl .nil)) rfl (fun _ _ h => h) (⟨⟨⟨l[1].v, l[0].v, -k⟩, true, rfl, .inr ⟨rfl, hgood, by rw [hij, if_neg h126]⟩⟩, rfl⟩)

end Go.Proofs.Ytkpacejikoengaa.W
