import Derived.Test.YtkpacejikoengaaW19
namespace Go.Proofs.Ytkpacejikoengaa.W
open Go.RowKit E M
set_option linter.unusedVariables false
set_option linter.unusedSimpArgs false
abbrev agg3 (a b c : Int) : Value := .agg #[.int .i64 a, .int .i64 b, .int .i64 c]
theorem p41_0 (a b c : Int) (w : World) : (part 3 #[.int .i64 a, .int .i64 b, .int .i64 c] 0).run Try.prog w = .ok (.int .i64 a) w := by kernel_rfl
theorem p41_1 (a b c : Int) (w : World) : (part 3 #[.int .i64 a, .int .i64 b, .int .i64 c] 1).run Try.prog w = .ok (.int .i64 b) w := by kernel_rfl
theorem p41_2 (a b c : Int) (w : World) : (part 2 #[.int .i64 a, .int .i64 b, .int .i64 c] 2).run Try.prog w = .ok (.int .i64 c) w := by kernel_rfl
theorem eq41 (a b c : Int) (w : World) : (Op.equalIn 10000 41 (agg3 a b c) (agg3 a b c)).run Try.prog w = .ok true w := by
  have h3 : ∀ (x : Int), (Op.equalIn 9999 3 (.int .i64 x) (.int .i64 x)).run Try.prog w = .ok true w := fun x => by
    rw [run_equalIn_int w 9998 3 .i64 .i64 x x Try.underlying3]; simp
  have h2 : ∀ (x : Int), (Op.equalIn 9999 2 (.int .i64 x) (.int .i64 x)).run Try.prog w = .ok true w := fun x => by
    rw [run_equalIn_int w 9998 2 .i64 .i64 x x Try.underlying2]; simp
  rw [show (10000 : Nat) = 9999 + 1 from rfl, run_equalIn_agg w 9999 41 _ _ (by kernel_rfl) (by kernel_rfl)]
  simp only [Program.fieldsOf, Try.underlying41, Op.eqFields, Sem.run_bind, p41_0, p41_1, p41_2, h3, h2, Result.andThen_ok]
  simp [Sem.run_bind, p41_0, p41_1, p41_2, h3, h2]
theorem q_eqG {o : Oper} {s : S} {x y : Operand} {u : TypeId} {a b c : Int} (ho : o.op = .binOp .eql 41 x y u) (hx : s.eval x = .c (.g [A.t (.v (.int .i64 a)), A.t (.v (.int .i64 b)), A.t (.v (.int .i64 c))])) (hy : s.eval y = .c (.g [A.t (.v (.int .i64 a)), A.t (.v (.int .i64 b)), A.t (.v (.int .i64 c))])) : QV Try.prog o s (bX true) :=
  .of_same (fun _ => nolp) fun cx w act hm hrep => by
    have ha := hrep x (by rw [ho]; simp [Op.operands])
    have hb := hrep y (by rw [ho]; simp [Op.operands])
    rw [hx] at ha
    rw [hy] at hb
    have key : ∀ {v : Value}, RepX cx (.c (.g [A.t (.v (.int .i64 a)), A.t (.v (.int .i64 b)), A.t (.v (.int .i64 c))])) v → v = agg3 a b c := fun {v} h => by
      obtain ⟨us, rfl, h2⟩ := h
      obtain ⟨us⟩ := us
      match us, h2 with
      | [u0, u1, u2], h2 =>
        have e0 := h2.2 0 _ _ rfl rfl
        have e1 := h2.2 1 _ _ rfl rfl
        have e2 := h2.2 2 _ _ rfl rfl
        cases e0 with | t e0 => cases e1 with | t e1 => cases e2 with | t e2 =>
        cases e0; cases e1; cases e2; rfl
      | [], h2 => have := h2.1; simp at this
      | [_], h2 => have := h2.1; simp at this
      | [_, _], h2 => have := h2.1; simp at this
      | _ :: _ :: _ :: _ :: _, h2 => have := h2.1; simp at this
    have ha := key ha
    have hb := key hb
    refine ⟨.bool true, ?_, tv_rep rfl⟩
    simp only [execOp, ho, ha, hb, Sem.run_bind, run_eqGuard_agg (P := Try.prog) w .eql 41 x y _ _ (by kernel_rfl), Result.andThen_ok, run_eql_struct, eq41]
    rfl

set_option maxRecDepth 20000 in
theorem of_law (z : Nz) (eq : Bool) (k n : Int) (l : List Cf) (H : Heap) : E.Spec Try.prog 10 [.g [.t (.v (.int .i64 k)), .t (.sl z 2 (l.map cfT)), .t (.v (.bool eq))], iC n] H fun x _ => x = bX true := by
  refine Spec.enter Try.func10 rfl ?_
  refine AW.wk (Wk.keep 43 [(0, .c (.g [.t (.v (.int .i64 k)), .t (.sl z 2 (l.map cfT)), .t (.v (.bool eq))])), (1, .c (iC n))] [] (H) rfl ⟨rfl, rfl, trivial⟩ trivial (fun _ _ h => h) rfl) ?_
  refine AW.seq ?_
  refine AW.reg ?_
  refine SeqK.r (b_box (r := [_, _, _]) rfl rfl rfl rfl rfl rfl) rfl ?_
  refine SeqK.q (q_asC rfl rfl) rfl rfl rfl ?_
  refine SeqK.nil ?_
  refine AW.seq ?_
  refine AW.seq ?_
  refine AW.reg ?_
  refine SeqK.callE rfl rfl rfl rfl Fx.fn11 rfl (awake_any _) (fun _ _ h => by rw [h]; rfl) (fun x11 H11 q11 => ?_)
  obtain rfl := q11
  refine SeqK.q (q_not rfl rfl) rfl rfl rfl ?_
  refine SeqK.nil ?_
  refine AW.condF rfl ?_
  refine AW.skip ?_
  refine AW.seq ?_
  refine AW.seq ?_
  refine AW.reg ?_
  refine SeqK.q (q_fieldL _ rfl Fx.fl57_0 rfl rfl) rfl rfl rfl ?_
  refine SeqK.q (q_fieldL _ rfl Fx.fl55_1 rfl rfl) rfl rfl rfl ?_
  refine SeqK.r (b_load (r := .a _) rfl Fx.ty53 rfl rfl rfl rfl rfl rfl) rfl ?_
  refine SeqK.q (q_len rfl Fx.un53 rfl) rfl rfl rfl ?_
  refine SeqK.q (q_gtr rfl rfl rfl) rfl rfl rfl ?_
  refine SeqK.nil ?_
  refine AW.condD rfl (fun h17 => ?_) (fun h17 => ?_)
  ·
    refine AW.seq ?_
    refine AW.reg ?_
    refine SeqK.q (q_asC rfl rfl) rfl rfl rfl ?_
    refine SeqK.nil ?_
    refine AW.ret ?_
    exact fin_x (x := .c _) (_) (.tmp rfl .nil) rfl (fun _ _ h => h) (rfl)
  ·
    have hl10 : l.length ≤ 10 := by simp at h17; omega
    refine AW.skip ?_
    refine AW.seq ?_
    refine AW.reg ?_
    refine SeqK.r (b_load (r := .g [_, _, _]) rfl Fx.ty57 rfl rfl rfl rfl rfl rfl) rfl ?_
    refine SeqK.q (q_mvC rfl rfl) rfl rfl rfl ?_
    refine SeqK.callE rfl rfl rfl rfl Fx.fn24 rfl (of_any _ z eq k n l hl10) (fun _ _ h => by obtain ⟨⟨_, _, h, _⟩, _⟩ := h; rw [h]; rfl) (fun x21 H21 q21 => ?_)
    obtain ⟨⟨b1, ok1, rfl, ho1⟩, hH⟩ := q21
    replace hH := hH.symm
    subst hH
    refine SeqK.q (q_mvT rfl rfl) rfl rfl rfl ?_
    refine SeqK.q (q_extract _ rfl rfl rfl) rfl rfl rfl ?_
    refine SeqK.q (q_extract _ rfl rfl rfl) rfl rfl rfl ?_
    refine SeqK.q (q_extract _ rfl rfl rfl) rfl rfl rfl ?_
    refine SeqK.q (q_extract _ rfl rfl rfl) rfl rfl rfl ?_
    refine SeqK.q (q_asC rfl rfl) rfl rfl rfl ?_
    refine SeqK.q (q_asC rfl rfl) rfl rfl rfl ?_
    refine SeqK.q (q_asC rfl rfl) rfl rfl rfl ?_
    refine SeqK.q (q_asC rfl rfl) rfl rfl rfl ?_
    refine SeqK.nil ?_
    refine AW.seq ?_
    refine AW.reg ?_
    refine SeqK.r (b_load (r := .g [_, _, _]) rfl Fx.ty57 rfl rfl rfl rfl rfl rfl) rfl ?_
    refine SeqK.q (q_mvC rfl rfl) rfl rfl rfl ?_
    refine SeqK.callE rfl rfl rfl rfl Fx.fn25 rfl (refof_any _ z eq k n l hl10) (fun _ _ h => by obtain ⟨⟨_, _, h, _⟩, _⟩ := h; rw [h]; rfl) (fun x29 H29 q29 => ?_)
    obtain ⟨⟨b2, ok2, rfl, ho2⟩, hH⟩ := q29
    replace hH := hH.symm
    subst hH
    obtain ⟨e1, e2⟩ := ho1.uniq ho2
    subst e1 e2
    refine SeqK.q (q_mvT rfl rfl) rfl rfl rfl ?_
    refine SeqK.q (q_extract _ rfl rfl rfl) rfl rfl rfl ?_
    refine SeqK.q (q_extract _ rfl rfl rfl) rfl rfl rfl ?_
    refine SeqK.r (b_alloc (r := [_, _, _]) rfl rfl Fx.ze41 rfl rfl rfl rfl) rfl ?_
    refine SeqK.r (b_store (r := [_, _, _]) rfl rfl Fx.ty41 rfl rfl rfl rfl rfl rfl) rfl ?_
    refine SeqK.q (q_asC rfl rfl) rfl rfl rfl ?_
    refine SeqK.nil ?_
    refine AW.seq ?_
    refine AW.reg ?_
    refine SeqK.q (q_mvC rfl rfl) rfl rfl rfl ?_
    refine SeqK.q (q_mvC rfl rfl) rfl rfl rfl ?_
    refine SeqK.q (q_eqlB rfl Fx.un4 rfl rfl) rfl rfl rfl ?_
    refine SeqK.qD (q_mvC rfl rfl) rfl rfl rfl (fun g35 => ?_) (fun g35 => ?_)
    ·
      refine SeqK.on (q_mvC rfl rfl) rfl rfl rfl rfl rfl ?_
      refine SeqK.on (q_mvC rfl rfl) rfl rfl rfl rfl rfl ?_
      refine SeqK.on (q_mvC rfl rfl) rfl rfl rfl rfl rfl ?_
      refine SeqK.on (q_build2 (zs := [_, _, _]) (r := [_, _, _]) [(0, 1), (1, 1), (2, 1)] _ rfl Fx.ze41 rfl Fx.bp41 rfl rfl rfl rfl) rfl rfl rfl rfl rfl ?_
      refine SeqK.rOn (b_load (r := .g [_, _, _]) rfl Fx.ty41 rfl rfl rfl rfl rfl rfl) rfl rfl rfl ?_
      refine SeqK.on (q_eqG rfl rfl rfl) rfl rfl rfl rfl rfl ?_
      refine SeqK.q (q_pkT rfl rfl rfl) rfl rfl rfl ?_
      refine SeqK.q (q_asC rfl rfl) rfl rfl rfl ?_
      refine SeqK.nil ?_
      refine AW.ret ?_
      exact fin_x (x := .c _) (_) (.tmp rfl .nil) rfl (fun _ _ h => h) (rfl)
    ·
      exact (g35 rfl).elim

end Go.Proofs.Ytkpacejikoengaa.W
