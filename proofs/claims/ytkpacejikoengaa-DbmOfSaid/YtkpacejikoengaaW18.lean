import Derived.Test.YtkpacejikoengaaW10
namespace Go.Proofs.Ytkpacejikoengaa.W
open Go.RowKit E M
set_option linter.unusedVariables false
set_option linter.unusedSimpArgs false
structure Cf where
  v : Int
  n : Int
abbrev cfT (x : Cf) : List T := [.v (.int .i64 x.v), .v (.int .i64 x.n)]
abbrev okC (n : Int) (x : Cf) : Prop := 0 ≤ x.v ∧ x.v < n ∧ (x.n = 1 ∨ x.n = -1)
def ijF (n : Int) (l : List Cf) : Int × Int := l.foldl (fun p x => if x.n = 1 then (x.v, p.2) else (p.1, x.v)) (n, n)
theorem ijF_snoc {n : Int} {l : List Cf} {i : Nat} (h : i < l.length) : ijF n (l.take (i + 1)) = if l[i].n = 1 then (l[i].v, (ijF n (l.take i)).2) else ((ijF n (l.take i)).1, l[i].v) := by
  unfold ijF
  rw [List.take_add_one, List.getElem?_eq_getElem h, List.foldl_append]; rfl
structure Good (eq : Bool) (k : Int) (l : List Cf) (n : Int) : Prop where
  e : eq = false
  lo : -1125899906842624 ≤ k
  hi : k ≤ 1125899906842624
  l1 : 1 ≤ l.length
  l2 : l.length ≤ 2
  all : ∀ x ∈ l, okC n x
  two : ∀ (h0 : 0 < l.length) (h1 : 1 < l.length), l[0].v ≠ l[1].v ∧ l[0].n ≠ l[1].n
def OfS (eq : Bool) (k : Int) (l : List Cf) (n : Int) (b : Bd) (ok : Bool) : Prop :=
  (ok = false ∧ b = ⟨0, 0, 0⟩ ∧ ¬ Good eq k l n) ∨ (ok = true ∧ Good eq k l n ∧ b = ⟨(ijF n l).1, (ijF n l).2, -k⟩)
theorem OfS.uniq {eq : Bool} {k : Int} {l : List Cf} {n : Int} {b b' : Bd} {ok ok' : Bool} (h : OfS eq k l n b ok) (h' : OfS eq k l n b' ok') : b = b' ∧ ok = ok' := by
  rcases h with ⟨h1, h2, h3⟩ | ⟨h1, h2, h3⟩ <;> rcases h' with ⟨g1, g2, g3⟩ | ⟨g1, g2, g3⟩
  · exact ⟨h2.trans g2.symm, h1.trans g1.symm⟩
  · exact absurd g2 h3
  · exact absurd h2 g3
  · exact ⟨h3.trans g3.symm, h1.trans g1.symm⟩
theorem wr1 : IntKind.i64.wrap (0 - 1) = -1 := by decide
theorem wr2 : IntKind.i64.wrap (0 - (-1)) = 1 := by decide
section
variable {eq : Bool} {k : Int} {l : List Cf} {n : Int}
theorem ng_e (h : eq = true) : ¬ Good eq k l n := fun g => by have := g.e; rw [h] at this; cases this
theorem ng_lo (h : k < -1125899906842624) : ¬ Good eq k l n := fun g => by have := g.lo; omega
theorem ng_hi (h : 1125899906842624 < k) : ¬ Good eq k l n := fun g => by have := g.hi; omega
theorem ng_l1 (h : (((l.map cfT).length : Nat) : Int) < 1) : ¬ Good eq k l n := fun g => by have := g.l1; rw [List.length_map] at h; omega
theorem ng_l2 (h : 2 < (((l.map cfT).length : Nat) : Int)) : ¬ Good eq k l n := fun g => by have := g.l2; rw [List.length_map] at h; omega
theorem ng_v (h0 : 0 < l.length) (h1 : 1 < l.length) (h : l[0].v = l[1].v) : ¬ Good eq k l n := fun g => (g.two h0 h1).1 h
theorem ng_n (h0 : 0 < l.length) (h1 : 1 < l.length) (h : l[0].n ≠ IntKind.i64.wrap ((0 : Int) - l[1].n)) : ¬ Good eq k l n := fun g => by
  have a := (g.all _ (List.getElem_mem h0)).2.2
  have b := (g.all _ (List.getElem_mem h1)).2.2
  have c := (g.two h0 h1).2
  apply h
  rcases b with b | b <;> rcases a with a | a <;> rw [a, b] at c ⊢ <;> first | exact absurd rfl c | exact wr1.symm | exact wr2.symm
theorem ng_c {i : Nat} (hi : i < l.length) (h : ¬ okC n l[i]) : ¬ Good eq k l n := fun g => h (g.all _ (List.getElem_mem hi))
theorem good_of (h1 : eq = false) (h2 : ¬ k < -1125899906842624) (h3 : ¬ 1125899906842624 < k) (h4 : 1 ≤ l.length) (h5 : l.length ≤ 2) (h6 : ∀ (i : Nat) (h : i < l.length), okC n l[i])
    (h7 : ∀ (h0 : 0 < l.length) (h1 : 1 < l.length), l[0].v ≠ l[1].v ∧ l[0].n = IntKind.i64.wrap ((0 : Int) - l[1].n)) : Good eq k l n :=
  ⟨h1, by omega, by omega, h4, h5, fun x hx => by obtain ⟨i, hi, rfl⟩ := List.getElem_of_mem hx; exact h6 i hi, fun h0 h1 => ⟨(h7 h0 h1).1, fun e => by
    have a := (h7 h0 h1).2
    rcases (h6 1 h1).2.2 with b | b <;> rw [e, b] at a <;> first | (rw [wr1] at a; cases a) | (rw [wr2] at a; cases a)⟩⟩
end

set_option maxRecDepth 20000 in
theorem of_any (H : Heap) (z : Nz) (eq : Bool) (k n : Int) (l : List Cf) (hl : l.length ≤ 10) : E.Spec Try.prog 24 [.g [.t (.v (.int .i64 k)), .t (.sl z 2 (l.map cfT)), .t (.v (.bool eq))], iC n] H fun x H' => (∃ (b : Bd) (ok : Bool), x = .tup [iC b.i, iC b.j, iC b.c, .a (.t (.v (.bool ok)))] ∧ OfS eq k l n b ok) ∧ H' = H := by
  refine Spec.enter Try.func24 rfl ?_
  refine AW.wk (Wk.keep 101 [(0, .c (.g [.t (.v (.int .i64 k)), .t (.sl z 2 (l.map cfT)), .t (.v (.bool eq))])), (1, .c (iC n))] [] (H) rfl ⟨rfl, rfl, trivial⟩ trivial (fun _ _ h => h) rfl) ?_
  refine AW.seq ?_
  refine AW.reg ?_
  refine SeqK.r (b_box (r := [_, _, _]) rfl rfl rfl rfl rfl rfl) rfl ?_
  refine SeqK.q (q_asC rfl rfl) rfl rfl rfl ?_
  refine SeqK.q (q_asC rfl rfl) rfl rfl rfl ?_
  refine SeqK.q (q_asC rfl rfl) rfl rfl rfl ?_
  refine SeqK.q (q_asC rfl rfl) rfl rfl rfl ?_
  refine SeqK.nil ?_
  refine AW.seq ?_
  refine AW.draw Fx.mo ?_
  refine LexK.q (q_fieldL _ rfl Fx.fl57_0 rfl rfl) rfl rfl rfl ?_
  refine LexK.q (q_fieldL _ rfl Fx.fl55_1 rfl rfl) rfl rfl rfl ?_
  refine LexK.r (b_load (r := .a _) rfl Fx.ty53 rfl rfl rfl rfl rfl rfl) rfl ?_
  refine LexK.q (q_fieldL _ rfl Fx.fl57_0 rfl rfl) rfl rfl rfl ?_
  refine LexK.q (q_fieldL _ rfl Fx.fl55_0 rfl rfl) rfl rfl rfl ?_
  refine LexK.r (b_load (r := .a _) rfl Fx.ty2 rfl rfl rfl rfl rfl rfl) rfl ?_
  refine LexK.q (q_asC rfl rfl) rfl rfl rfl ?_
  refine LexK.q (q_asC rfl rfl) rfl rfl rfl ?_
  refine LexK.nil (by kernel_rfl) ?_
  refine AW.seq ?_
  refine AW.seq ?_
  refine AW.draw Fx.mo ?_
  refine LexK.q (q_fieldL _ rfl Fx.fl57_1 rfl rfl) rfl rfl rfl ?_
  refine LexK.r (b_load (r := .a _) rfl Fx.ty4 rfl rfl rfl rfl rfl rfl) rfl ?_
  refine LexK.qB (q_mvC rfl rfl) rfl rfl rfl (fun g20 => ?_) (fun g20 => ?_)
  ·
    refine LexK.off rfl rfl rfl rfl rfl rfl ?_
    refine LexK.off rfl rfl rfl rfl rfl rfl ?_
    refine LexK.q (q_pkT rfl rfl rfl) rfl rfl rfl ?_
    refine LexK.q (q_mvC rfl rfl) rfl rfl rfl ?_
    refine LexK.off rfl rfl rfl rfl rfl rfl ?_
    refine LexK.off rfl rfl rfl rfl rfl rfl ?_
    refine LexK.q (q_pkT rfl rfl rfl) rfl rfl rfl ?_
    refine LexK.q (q_mvC rfl rfl) rfl rfl rfl ?_
    refine LexK.off rfl rfl rfl rfl rfl rfl ?_
    refine LexK.off rfl rfl rfl rfl rfl rfl ?_
    refine LexK.off rfl rfl rfl rfl rfl rfl ?_
    refine LexK.q (q_pkT rfl rfl rfl) rfl rfl rfl ?_
    refine LexK.q (q_mvC rfl rfl) rfl rfl rfl ?_
    refine LexK.off rfl rfl rfl rfl rfl rfl ?_
    refine LexK.off rfl rfl rfl rfl rfl rfl ?_
    refine LexK.off rfl rfl rfl rfl rfl rfl ?_
    refine LexK.q (q_pkT rfl rfl rfl) rfl rfl rfl ?_
    refine LexK.q (q_mvC rfl rfl) rfl rfl rfl ?_
    refine LexK.off rfl rfl rfl rfl rfl rfl ?_
    refine LexK.off rfl rfl rfl rfl rfl rfl ?_
    refine LexK.off rfl rfl rfl rfl rfl rfl ?_
    refine LexK.off rfl rfl rfl rfl rfl rfl ?_
    refine LexK.offU rfl rfl rfl rfl rfl ?_
    refine LexK.offU rfl rfl rfl rfl rfl ?_
    refine LexK.offU rfl rfl rfl rfl rfl ?_
    refine LexK.offU rfl rfl rfl rfl rfl ?_
    refine LexK.offU rfl rfl rfl rfl rfl ?_
    refine LexK.offU rfl rfl rfl rfl rfl ?_
    refine LexK.offU rfl rfl rfl rfl rfl ?_
    refine LexK.offU rfl rfl rfl rfl rfl ?_
    refine LexK.offU rfl rfl rfl rfl rfl ?_
    refine LexK.offU rfl rfl rfl rfl rfl ?_
    refine LexK.offU rfl rfl rfl rfl rfl ?_
    refine LexK.offU rfl rfl rfl rfl rfl ?_
    refine LexK.offU rfl rfl rfl rfl rfl ?_
    refine LexK.offU rfl rfl rfl rfl rfl ?_
    refine LexK.offU rfl rfl rfl rfl rfl ?_
    refine LexK.offU rfl rfl rfl rfl rfl ?_
    refine LexK.offU rfl rfl rfl rfl rfl ?_
    refine LexK.offU rfl rfl rfl rfl rfl ?_
    refine LexK.offU rfl rfl rfl rfl rfl ?_
    refine LexK.offU rfl rfl rfl rfl rfl ?_
    refine LexK.offU rfl rfl rfl rfl rfl ?_
    refine LexK.off rfl rfl rfl rfl rfl rfl ?_
    refine LexK.q (q_pkT rfl rfl rfl) rfl rfl rfl ?_
    refine LexK.nil (by kernel_rfl) ?_
    refine AW.condT rfl ?_
    refine AW.seq ?_
    refine AW.reg ?_
    refine SeqK.q (q_asC rfl rfl) rfl rfl rfl ?_
    refine SeqK.q (q_asC rfl rfl) rfl rfl rfl ?_
    refine SeqK.q (q_asC rfl rfl) rfl rfl rfl ?_
    refine SeqK.q (q_asC rfl rfl) rfl rfl rfl ?_
    refine SeqK.nil ?_
    refine AW.ret ?_
    exact fin_x (x := .tup [_, _, _, _]) (H) (.tmp rfl (.tmp rfl (.tmp rfl (.tmp rfl .nil)))) rfl (fun _ _ h => h) (⟨⟨⟨0, 0, 0⟩, false, rfl, .inl ⟨rfl, rfl, by first | exact ng_e (by assumption) | exact ng_lo (by assumption) | exact ng_hi (by assumption) | exact ng_l1 (by assumption) | exact ng_l2 (by assumption) | exact ng_v (by assumption) (by assumption) (by assumption) | exact ng_n (by assumption) (by assumption) (by assumption) | exact ng_c hka (fun h => by have := h.1; have := h.2.1; omega) | exact ng_c hka (fun h => by rcases h.2.2 with h9 | h9 <;> first | exact absurd h9 (by assumption) | omega)⟩⟩, rfl⟩)
  ·
    refine LexK.on (q_mvC rfl rfl) rfl rfl rfl rfl rfl ?_
    refine LexK.on (q_lss rfl rfl rfl) rfl rfl rfl rfl rfl ?_
    refine LexK.q (q_pkF rfl rfl rfl) rfl rfl rfl ?_
    refine LexK.qD (q_mvC rfl rfl) rfl rfl rfl (fun g24 => ?_) (fun g24 => ?_)
    ·
      refine LexK.off rfl rfl rfl rfl rfl rfl ?_
      refine LexK.off rfl rfl rfl rfl rfl rfl ?_
      refine LexK.q (q_pkT rfl rfl rfl) rfl rfl rfl ?_
      refine LexK.q (q_mvC rfl rfl) rfl rfl rfl ?_
      refine LexK.off rfl rfl rfl rfl rfl rfl ?_
      refine LexK.off rfl rfl rfl rfl rfl rfl ?_
      refine LexK.off rfl rfl rfl rfl rfl rfl ?_
      refine LexK.q (q_pkT rfl rfl rfl) rfl rfl rfl ?_
      refine LexK.q (q_mvC rfl rfl) rfl rfl rfl ?_
      refine LexK.off rfl rfl rfl rfl rfl rfl ?_
      refine LexK.off rfl rfl rfl rfl rfl rfl ?_
      refine LexK.off rfl rfl rfl rfl rfl rfl ?_
      refine LexK.q (q_pkT rfl rfl rfl) rfl rfl rfl ?_
      refine LexK.q (q_mvC rfl rfl) rfl rfl rfl ?_
      refine LexK.off rfl rfl rfl rfl rfl rfl ?_
      refine LexK.off rfl rfl rfl rfl rfl rfl ?_
      refine LexK.off rfl rfl rfl rfl rfl rfl ?_
      refine LexK.off rfl rfl rfl rfl rfl rfl ?_
      refine LexK.offU rfl rfl rfl rfl rfl ?_
      refine LexK.offU rfl rfl rfl rfl rfl ?_
      refine LexK.offU rfl rfl rfl rfl rfl ?_
      refine LexK.offU rfl rfl rfl rfl rfl ?_
      refine LexK.offU rfl rfl rfl rfl rfl ?_
      refine LexK.offU rfl rfl rfl rfl rfl ?_
      refine LexK.offU rfl rfl rfl rfl rfl ?_
      refine LexK.offU rfl rfl rfl rfl rfl ?_
      refine LexK.offU rfl rfl rfl rfl rfl ?_
      refine LexK.offU rfl rfl rfl rfl rfl ?_
      refine LexK.offU rfl rfl rfl rfl rfl ?_
      refine LexK.offU rfl rfl rfl rfl rfl ?_
      refine LexK.offU rfl rfl rfl rfl rfl ?_
      refine LexK.offU rfl rfl rfl rfl rfl ?_
      refine LexK.offU rfl rfl rfl rfl rfl ?_
      refine LexK.offU rfl rfl rfl rfl rfl ?_
      refine LexK.offU rfl rfl rfl rfl rfl ?_
      refine LexK.offU rfl rfl rfl rfl rfl ?_
      refine LexK.offU rfl rfl rfl rfl rfl ?_
      refine LexK.offU rfl rfl rfl rfl rfl ?_
      refine LexK.offU rfl rfl rfl rfl rfl ?_
      refine LexK.off rfl rfl rfl rfl rfl rfl ?_
      refine LexK.q (q_pkT rfl rfl rfl) rfl rfl rfl ?_
      refine LexK.nil (by kernel_rfl) ?_
      refine AW.condT rfl ?_
      refine AW.seq ?_
      refine AW.reg ?_
      refine SeqK.q (q_asC rfl rfl) rfl rfl rfl ?_
      refine SeqK.q (q_asC rfl rfl) rfl rfl rfl ?_
      refine SeqK.q (q_asC rfl rfl) rfl rfl rfl ?_
      refine SeqK.q (q_asC rfl rfl) rfl rfl rfl ?_
      refine SeqK.nil ?_
      refine AW.ret ?_
      exact fin_x (x := .tup [_, _, _, _]) (H) (.tmp rfl (.tmp rfl (.tmp rfl (.tmp rfl .nil)))) rfl (fun _ _ h => h) (⟨⟨⟨0, 0, 0⟩, false, rfl, .inl ⟨rfl, rfl, by first | exact ng_e (by assumption) | exact ng_lo (by assumption) | exact ng_hi (by assumption) | exact ng_l1 (by assumption) | exact ng_l2 (by assumption) | exact ng_v (by assumption) (by assumption) (by assumption) | exact ng_n (by assumption) (by assumption) (by assumption) | exact ng_c hka (fun h => by have := h.1; have := h.2.1; omega) | exact ng_c hka (fun h => by rcases h.2.2 with h9 | h9 <;> first | exact absurd h9 (by assumption) | omega)⟩⟩, rfl⟩)
    ·
      refine LexK.on (q_mvC rfl rfl) rfl rfl rfl rfl rfl ?_
      refine LexK.on (q_gtr rfl rfl rfl) rfl rfl rfl rfl rfl ?_
      refine LexK.q (q_pkF rfl rfl rfl) rfl rfl rfl ?_
      refine LexK.qD (q_mvC rfl rfl) rfl rfl rfl (fun g28 => ?_) (fun g28 => ?_)
      ·
        refine LexK.off rfl rfl rfl rfl rfl rfl ?_
        refine LexK.off rfl rfl rfl rfl rfl rfl ?_
        refine LexK.off rfl rfl rfl rfl rfl rfl ?_
        refine LexK.q (q_pkT rfl rfl rfl) rfl rfl rfl ?_
        refine LexK.q (q_mvC rfl rfl) rfl rfl rfl ?_
        refine LexK.off rfl rfl rfl rfl rfl rfl ?_
        refine LexK.off rfl rfl rfl rfl rfl rfl ?_
        refine LexK.off rfl rfl rfl rfl rfl rfl ?_
        refine LexK.q (q_pkT rfl rfl rfl) rfl rfl rfl ?_
        refine LexK.q (q_mvC rfl rfl) rfl rfl rfl ?_
        refine LexK.off rfl rfl rfl rfl rfl rfl ?_
        refine LexK.off rfl rfl rfl rfl rfl rfl ?_
        refine LexK.off rfl rfl rfl rfl rfl rfl ?_
        refine LexK.off rfl rfl rfl rfl rfl rfl ?_
        refine LexK.offU rfl rfl rfl rfl rfl ?_
        refine LexK.offU rfl rfl rfl rfl rfl ?_
        refine LexK.offU rfl rfl rfl rfl rfl ?_
        refine LexK.offU rfl rfl rfl rfl rfl ?_
        refine LexK.offU rfl rfl rfl rfl rfl ?_
        refine LexK.offU rfl rfl rfl rfl rfl ?_
        refine LexK.offU rfl rfl rfl rfl rfl ?_
        refine LexK.offU rfl rfl rfl rfl rfl ?_
        refine LexK.offU rfl rfl rfl rfl rfl ?_
        refine LexK.offU rfl rfl rfl rfl rfl ?_
        refine LexK.offU rfl rfl rfl rfl rfl ?_
        refine LexK.offU rfl rfl rfl rfl rfl ?_
        refine LexK.offU rfl rfl rfl rfl rfl ?_
        refine LexK.offU rfl rfl rfl rfl rfl ?_
        refine LexK.offU rfl rfl rfl rfl rfl ?_
        refine LexK.offU rfl rfl rfl rfl rfl ?_
        refine LexK.offU rfl rfl rfl rfl rfl ?_
        refine LexK.offU rfl rfl rfl rfl rfl ?_
        refine LexK.offU rfl rfl rfl rfl rfl ?_
        refine LexK.offU rfl rfl rfl rfl rfl ?_
        refine LexK.offU rfl rfl rfl rfl rfl ?_
        refine LexK.off rfl rfl rfl rfl rfl rfl ?_
        refine LexK.q (q_pkT rfl rfl rfl) rfl rfl rfl ?_
        refine LexK.nil (by kernel_rfl) ?_
        refine AW.condT rfl ?_
        refine AW.seq ?_
        refine AW.reg ?_
        refine SeqK.q (q_asC rfl rfl) rfl rfl rfl ?_
        refine SeqK.q (q_asC rfl rfl) rfl rfl rfl ?_
        refine SeqK.q (q_asC rfl rfl) rfl rfl rfl ?_
        refine SeqK.q (q_asC rfl rfl) rfl rfl rfl ?_
        refine SeqK.nil ?_
        refine AW.ret ?_
        exact fin_x (x := .tup [_, _, _, _]) (H) (.tmp rfl (.tmp rfl (.tmp rfl (.tmp rfl .nil)))) rfl (fun _ _ h => h) (⟨⟨⟨0, 0, 0⟩, false, rfl, .inl ⟨rfl, rfl, by first | exact ng_e (by assumption) | exact ng_lo (by assumption) | exact ng_hi (by assumption) | exact ng_l1 (by assumption) | exact ng_l2 (by assumption) | exact ng_v (by assumption) (by assumption) (by assumption) | exact ng_n (by assumption) (by assumption) (by assumption) | exact ng_c hka (fun h => by have := h.1; have := h.2.1; omega) | exact ng_c hka (fun h => by rcases h.2.2 with h9 | h9 <;> first | exact absurd h9 (by assumption) | omega)⟩⟩, rfl⟩)
      ·
        refine LexK.on (q_mvC rfl rfl) rfl rfl rfl rfl rfl ?_
        refine LexK.on (q_len rfl Fx.un53 rfl) rfl rfl rfl rfl rfl ?_
        refine LexK.on (q_lss rfl rfl rfl) rfl rfl rfl rfl rfl ?_
        refine LexK.q (q_pkF rfl rfl rfl) rfl rfl rfl ?_
        refine LexK.qD (q_mvC rfl rfl) rfl rfl rfl (fun g33 => ?_) (fun g33 => ?_)
        ·
          refine LexK.off rfl rfl rfl rfl rfl rfl ?_
          refine LexK.off rfl rfl rfl rfl rfl rfl ?_
          refine LexK.off rfl rfl rfl rfl rfl rfl ?_
          refine LexK.q (q_pkT rfl rfl rfl) rfl rfl rfl ?_
          refine LexK.q (q_mvC rfl rfl) rfl rfl rfl ?_
          refine LexK.off rfl rfl rfl rfl rfl rfl ?_
          refine LexK.off rfl rfl rfl rfl rfl rfl ?_
          refine LexK.off rfl rfl rfl rfl rfl rfl ?_
          refine LexK.off rfl rfl rfl rfl rfl rfl ?_
          refine LexK.offU rfl rfl rfl rfl rfl ?_
          refine LexK.offU rfl rfl rfl rfl rfl ?_
          refine LexK.offU rfl rfl rfl rfl rfl ?_
          refine LexK.offU rfl rfl rfl rfl rfl ?_
          refine LexK.offU rfl rfl rfl rfl rfl ?_
          refine LexK.offU rfl rfl rfl rfl rfl ?_
          refine LexK.offU rfl rfl rfl rfl rfl ?_
          refine LexK.offU rfl rfl rfl rfl rfl ?_
          refine LexK.offU rfl rfl rfl rfl rfl ?_
          refine LexK.offU rfl rfl rfl rfl rfl ?_
          refine LexK.offU rfl rfl rfl rfl rfl ?_
          refine LexK.offU rfl rfl rfl rfl rfl ?_
          refine LexK.offU rfl rfl rfl rfl rfl ?_
          refine LexK.offU rfl rfl rfl rfl rfl ?_
          refine LexK.offU rfl rfl rfl rfl rfl ?_
          refine LexK.offU rfl rfl rfl rfl rfl ?_
          refine LexK.offU rfl rfl rfl rfl rfl ?_
          refine LexK.offU rfl rfl rfl rfl rfl ?_
          refine LexK.offU rfl rfl rfl rfl rfl ?_
          refine LexK.offU rfl rfl rfl rfl rfl ?_
          refine LexK.offU rfl rfl rfl rfl rfl ?_
          refine LexK.off rfl rfl rfl rfl rfl rfl ?_
          refine LexK.q (q_pkT rfl rfl rfl) rfl rfl rfl ?_
          refine LexK.nil (by kernel_rfl) ?_
          refine AW.condT rfl ?_
          refine AW.seq ?_
          refine AW.reg ?_
          refine SeqK.q (q_asC rfl rfl) rfl rfl rfl ?_
          refine SeqK.q (q_asC rfl rfl) rfl rfl rfl ?_
          refine SeqK.q (q_asC rfl rfl) rfl rfl rfl ?_
          refine SeqK.q (q_asC rfl rfl) rfl rfl rfl ?_
          refine SeqK.nil ?_
          refine AW.ret ?_
          exact fin_x (x := .tup [_, _, _, _]) (H) (.tmp rfl (.tmp rfl (.tmp rfl (.tmp rfl .nil)))) rfl (fun _ _ h => h) (⟨⟨⟨0, 0, 0⟩, false, rfl, .inl ⟨rfl, rfl, by first | exact ng_e (by assumption) | exact ng_lo (by assumption) | exact ng_hi (by assumption) | exact ng_l1 (by assumption) | exact ng_l2 (by assumption) | exact ng_v (by assumption) (by assumption) (by assumption) | exact ng_n (by assumption) (by assumption) (by assumption) | exact ng_c hka (fun h => by have := h.1; have := h.2.1; omega) | exact ng_c hka (fun h => by rcases h.2.2 with h9 | h9 <;> first | exact absurd h9 (by assumption) | omega)⟩⟩, rfl⟩)
        ·
          refine LexK.on (q_mvC rfl rfl) rfl rfl rfl rfl rfl ?_
          refine LexK.on (q_len rfl Fx.un53 rfl) rfl rfl rfl rfl rfl ?_
          refine LexK.on (q_gtr rfl rfl rfl) rfl rfl rfl rfl rfl ?_
          refine LexK.q (q_pkF rfl rfl rfl) rfl rfl rfl ?_
          refine LexK.qD (q_mvC rfl rfl) rfl rfl rfl (fun g38 => ?_) (fun g38 => ?_)
          ·
            refine LexK.off rfl rfl rfl rfl rfl rfl ?_
            refine LexK.off rfl rfl rfl rfl rfl rfl ?_
            refine LexK.off rfl rfl rfl rfl rfl rfl ?_
            refine LexK.off rfl rfl rfl rfl rfl rfl ?_
            refine LexK.offU rfl rfl rfl rfl rfl ?_
            refine LexK.offU rfl rfl rfl rfl rfl ?_
            refine LexK.offU rfl rfl rfl rfl rfl ?_
            refine LexK.offU rfl rfl rfl rfl rfl ?_
            refine LexK.offU rfl rfl rfl rfl rfl ?_
            refine LexK.offU rfl rfl rfl rfl rfl ?_
            refine LexK.offU rfl rfl rfl rfl rfl ?_
            refine LexK.offU rfl rfl rfl rfl rfl ?_
            refine LexK.offU rfl rfl rfl rfl rfl ?_
            refine LexK.offU rfl rfl rfl rfl rfl ?_
            refine LexK.offU rfl rfl rfl rfl rfl ?_
            refine LexK.offU rfl rfl rfl rfl rfl ?_
            refine LexK.offU rfl rfl rfl rfl rfl ?_
            refine LexK.offU rfl rfl rfl rfl rfl ?_
            refine LexK.offU rfl rfl rfl rfl rfl ?_
            refine LexK.offU rfl rfl rfl rfl rfl ?_
            refine LexK.offU rfl rfl rfl rfl rfl ?_
            refine LexK.offU rfl rfl rfl rfl rfl ?_
            refine LexK.offU rfl rfl rfl rfl rfl ?_
            refine LexK.offU rfl rfl rfl rfl rfl ?_
            refine LexK.offU rfl rfl rfl rfl rfl ?_
            refine LexK.off rfl rfl rfl rfl rfl rfl ?_
            refine LexK.q (q_pkT rfl rfl rfl) rfl rfl rfl ?_
            refine LexK.nil (by kernel_rfl) ?_
            refine AW.condT rfl ?_
            refine AW.seq ?_
            refine AW.reg ?_
            refine SeqK.q (q_asC rfl rfl) rfl rfl rfl ?_
            refine SeqK.q (q_asC rfl rfl) rfl rfl rfl ?_
            refine SeqK.q (q_asC rfl rfl) rfl rfl rfl ?_
            refine SeqK.q (q_asC rfl rfl) rfl rfl rfl ?_
            refine SeqK.nil ?_
            refine AW.ret ?_
            exact fin_x (x := .tup [_, _, _, _]) (H) (.tmp rfl (.tmp rfl (.tmp rfl (.tmp rfl .nil)))) rfl (fun _ _ h => h) (⟨⟨⟨0, 0, 0⟩, false, rfl, .inl ⟨rfl, rfl, by first | exact ng_e (by assumption) | exact ng_lo (by assumption) | exact ng_hi (by assumption) | exact ng_l1 (by assumption) | exact ng_l2 (by assumption) | exact ng_v (by assumption) (by assumption) (by assumption) | exact ng_n (by assumption) (by assumption) (by assumption) | exact ng_c hka (fun h => by have := h.1; have := h.2.1; omega) | exact ng_c hka (fun h => by rcases h.2.2 with h9 | h9 <;> first | exact absurd h9 (by assumption) | omega)⟩⟩, rfl⟩)
          ·
            refine LexK.on (q_mvC rfl rfl) rfl rfl rfl rfl rfl ?_
            refine LexK.on (q_len rfl Fx.un53 rfl) rfl rfl rfl rfl rfl ?_
            refine LexK.on (q_eql rfl rfl rfl) rfl rfl rfl rfl rfl ?_
            refine LexK.onD (q_mvC rfl rfl) rfl rfl rfl rfl rfl (fun g42 => ?_) (fun g42 => ?_)
            ·
              have hlen2 : l.length = 2 := by simp at g42; omega
              have h00 : 0 < l.length := by omega
              have h01 : 1 < l.length := by omega
              refine LexK.on (q_mvC rfl rfl) rfl rfl rfl rfl rfl ?_
              refine LexK.on (q_index _ rfl Fx.sl53 rfl rfl (by omega) (idx_map (k := 0) h00)) rfl rfl rfl rfl rfl ?_
              refine LexK.on (q_fieldP _ rfl Fx.fl82_0 rfl rfl) rfl rfl rfl rfl rfl ?_
              refine LexK.on (q_load (.a _) rfl Fx.ty3 rfl rfl rfl) rfl rfl rfl rfl rfl ?_
              refine LexK.on (q_mvC rfl rfl) rfl rfl rfl rfl rfl ?_
              refine LexK.on (q_index _ rfl Fx.sl53 rfl rfl (by omega) (idx_map (k := 1) h01)) rfl rfl rfl rfl rfl ?_
              refine LexK.on (q_fieldP _ rfl Fx.fl82_0 rfl rfl) rfl rfl rfl rfl rfl ?_
              refine LexK.on (q_load (.a _) rfl Fx.ty3 rfl rfl rfl) rfl rfl rfl rfl rfl ?_
              refine LexK.on (q_eql rfl rfl rfl) rfl rfl rfl rfl rfl ?_
              refine LexK.onD (q_mvC rfl rfl) rfl rfl rfl rfl rfl (fun g52 => ?_) (fun g52 => ?_)
              ·
                refine LexK.off rfl rfl rfl rfl rfl rfl ?_
                refine LexK.off rfl rfl rfl rfl rfl rfl ?_
                refine LexK.off rfl rfl rfl rfl rfl rfl ?_
                refine LexK.off rfl rfl rfl rfl rfl rfl ?_
                refine LexK.off rfl rfl rfl rfl rfl rfl ?_
                refine LexK.off rfl rfl rfl rfl rfl rfl ?_
                refine LexK.off rfl rfl rfl rfl rfl rfl ?_
                refine LexK.off rfl rfl rfl rfl rfl rfl ?_
                refine LexK.off rfl rfl rfl rfl rfl rfl ?_
                refine LexK.off rfl rfl rfl rfl rfl rfl ?_
                refine LexK.on (q_pkT rfl rfl rfl) rfl rfl rfl rfl rfl ?_
                refine LexK.on (q_pkT rfl rfl rfl) rfl rfl rfl rfl rfl ?_
                refine LexK.q (q_pkF rfl rfl rfl) rfl rfl rfl ?_
                refine LexK.nil (by kernel_rfl) ?_
                refine AW.condT rfl ?_
                refine AW.seq ?_
                refine AW.reg ?_
                refine SeqK.q (q_asC rfl rfl) rfl rfl rfl ?_
                refine SeqK.q (q_asC rfl rfl) rfl rfl rfl ?_
                refine SeqK.q (q_asC rfl rfl) rfl rfl rfl ?_
                refine SeqK.q (q_asC rfl rfl) rfl rfl rfl ?_
                refine SeqK.nil ?_
                refine AW.ret ?_
                exact fin_x (x := .tup [_, _, _, _]) (H) (.tmp rfl (.tmp rfl (.tmp rfl (.tmp rfl .nil)))) rfl (fun _ _ h => h) (⟨⟨⟨0, 0, 0⟩, false, rfl, .inl ⟨rfl, rfl, by first | exact ng_e (by assumption) | exact ng_lo (by assumption) | exact ng_hi (by assumption) | exact ng_l1 (by assumption) | exact ng_l2 (by assumption) | exact ng_v (by assumption) (by assumption) (by assumption) | exact ng_n (by assumption) (by assumption) (by assumption) | exact ng_c hka (fun h => by have := h.1; have := h.2.1; omega) | exact ng_c hka (fun h => by rcases h.2.2 with h9 | h9 <;> first | exact absurd h9 (by assumption) | omega)⟩⟩, rfl⟩)
              ·
                refine LexK.on (q_mvC rfl rfl) rfl rfl rfl rfl rfl ?_
                refine LexK.on (q_index _ rfl Fx.sl53 rfl rfl (by omega) (idx_map (k := 0) h00)) rfl rfl rfl rfl rfl ?_
                refine LexK.on (q_fieldP _ rfl Fx.fl82_1 rfl rfl) rfl rfl rfl rfl rfl ?_
                refine LexK.on (q_load (.a _) rfl Fx.ty2 rfl rfl rfl) rfl rfl rfl rfl rfl ?_
                refine LexK.on (q_mvC rfl rfl) rfl rfl rfl rfl rfl ?_
                refine LexK.on (q_index _ rfl Fx.sl53 rfl rfl (by omega) (idx_map (k := 1) h01)) rfl rfl rfl rfl rfl ?_
                refine LexK.on (q_fieldP _ rfl Fx.fl82_1 rfl rfl) rfl rfl rfl rfl rfl ?_
                refine LexK.on (q_load (.a _) rfl Fx.ty2 rfl rfl rfl) rfl rfl rfl rfl rfl ?_
                refine LexK.on (q_neg _ rfl rfl (rfl)) rfl rfl rfl rfl rfl ?_
                refine LexK.on (q_neq rfl rfl rfl) rfl rfl rfl rfl rfl ?_
                refine LexK.on (q_pkF rfl rfl rfl) rfl rfl rfl rfl rfl ?_
                refine LexK.on (q_pkT rfl rfl rfl) rfl rfl rfl rfl rfl ?_
                refine LexK.q (q_pkF rfl rfl rfl) rfl rfl rfl ?_
                refine LexK.nil (by kernel_rfl) ?_
                refine AW.condD rfl (fun h65 => ?_) (fun h65 => ?_)
                ·
                  refine AW.seq ?_
                  refine AW.reg ?_
                  refine SeqK.q (q_asC rfl rfl) rfl rfl rfl ?_
                  refine SeqK.q (q_asC rfl rfl) rfl rfl rfl ?_
                  refine SeqK.q (q_asC rfl rfl) rfl rfl rfl ?_
                  refine SeqK.q (q_asC rfl rfl) rfl rfl rfl ?_
                  refine SeqK.nil ?_
                  refine AW.ret ?_
                  exact fin_x (x := .tup [_, _, _, _]) (H) (.tmp rfl (.tmp rfl (.tmp rfl (.tmp rfl .nil)))) rfl (fun _ _ h => h) (⟨⟨⟨0, 0, 0⟩, false, rfl, .inl ⟨rfl, rfl, by first | exact ng_e (by assumption) | exact ng_lo (by assumption) | exact ng_hi (by assumption) | exact ng_l1 (by assumption) | exact ng_l2 (by assumption) | exact ng_v (by assumption) (by assumption) (by assumption) | exact ng_n (by assumption) (by assumption) (by assumption) | exact ng_c hka (fun h => by have := h.1; have := h.2.1; omega) | exact ng_c hka (fun h => by rcases h.2.2 with h9 | h9 <;> first | exact absurd h9 (by assumption) | omega)⟩⟩, rfl⟩)
                ·
                  refine AW.skip ?_
                  refine AW.seq ?_
                  have hH2 : ∀ (h0 : 0 < l.length) (h1 : 1 < l.length), l[0].v ≠ l[1].v ∧ l[0].n = IntKind.i64.wrap ((0 : Int) - l[1].n) := by
                    first | exact fun _ _ => ⟨g52, Decidable.not_not.1 h65⟩ | (intro _ h1; simp at g42 g38; omega)
                  have hb1 : 1 ≤ l.length := by simp at g33; omega
                  have hb2 : l.length ≤ 2 := by simp at g38; omega
                  refine AW.reg ?_
                  refine SeqK.q (q_mvC rfl rfl) rfl rfl rfl ?_
                  refine SeqK.q (q_mvC rfl rfl) rfl rfl rfl ?_
                  refine SeqK.q (q_asC rfl rfl) rfl rfl rfl ?_
                  refine SeqK.q (q_asC rfl rfl) rfl rfl rfl ?_
                  refine SeqK.nil ?_
                  refine AW.seq ?_
                  refine AW.seq ?_
                  refine AW.reg ?_
                  refine SeqK.q (q_mvC rfl rfl) rfl rfl rfl ?_
                  refine SeqK.q (q_len rfl Fx.un53 rfl) rfl rfl rfl ?_
                  refine SeqK.q (q_mvC rfl rfl) rfl rfl rfl ?_
                  refine SeqK.nil ?_
                  refine AW.block ?_
                  refine AW.loop (fun (i : Nat) s => ∃ (a b : Int), (i ≤ l.length ∧ ijF n (l.take i) = (a, b) ∧ ∀ (v : Nat) (h : v < l.length), v < i → okC n l[v]) ∧ s = ⟨101, sp [(1, .c (iC n)), (4, .c (iC a)), (5, .c (iC b)), (9, .c (iC k)), (68, .c (.a (.t (.sl z 2 (l.map cfT))))), (69, iX .i64 ((l.map cfT).length : Nat)), (70, iX .i64 ((i : Nat) : Int))], lv [], H⟩) (fun i => l.length - i) 0 ⟨_, Wk.keep 101 [(1, .c (iC n)), (4, .c (iC (n))), (5, .c (iC (n))), (9, .c (iC k)), (68, .c (.a (.t (.sl z 2 (l.map cfT))))), (69, iX .i64 ((l.map cfT).length : Nat)), (70, iX .i64 ((((0 : Nat)) : Nat) : Int))] [] (H) rfl ⟨rfl, rfl, rfl, rfl, rfl, rfl, rfl, trivial⟩ trivial (fun _ _ h => h) rfl, n, n, ⟨Nat.zero_le _, rfl, fun v h hv => absurd hv (Nat.not_lt_zero v)⟩, rfl⟩ (fun i s hs => ?_)
                  obtain ⟨a, b, ⟨hi, hab, hall⟩, rfl⟩ := hs
                  refine AW.seq ?_
                  refine AW.reg ?_
                  refine SeqK.q (q_lss rfl rfl rfl) rfl rfl rfl ?_
                  refine SeqK.nil ?_
                  refine AW.seq ?_
                  refine AW.condD rfl (fun h71 => ?_) (fun h71 => ?_)
                  ·
                    have hka : i < l.length := by simp at h71; omega
                    refine AW.skip ?_
                    refine AW.seq ?_
                    refine AW.block ?_
                    refine AW.seq ?_
                    refine AW.reg ?_
                    refine SeqK.q (q_index _ rfl Fx.sl53 rfl rfl (by omega) (idx_map hka)) rfl rfl rfl ?_
                    refine SeqK.q (q_load (.g [_, _]) rfl Fx.ty82 rfl rfl rfl) rfl rfl rfl ?_
                    refine SeqK.r (b_alloc (r := [_, _]) rfl rfl Fx.ze82 rfl rfl rfl rfl) rfl ?_
                    refine SeqK.r (b_store (r := [_, _]) rfl rfl Fx.ty82 rfl rfl rfl rfl rfl rfl) rfl ?_
                    refine SeqK.nil ?_
                    refine AW.block ?_
                    refine AW.seq ?_
                    refine AW.reg ?_
                    refine SeqK.q (q_fieldL _ rfl Fx.fl82_0 rfl rfl) rfl rfl rfl ?_
                    refine SeqK.r (b_load (r := .a _) rfl Fx.ty3 rfl rfl rfl rfl rfl rfl) rfl ?_
                    refine SeqK.q (q_lss rfl rfl rfl) rfl rfl rfl ?_
                    refine SeqK.qD (q_mvC rfl rfl) rfl rfl rfl (fun g78 => ?_) (fun g78 => ?_)
                    ·
                      refine SeqK.off rfl rfl rfl rfl rfl rfl ?_
                      refine SeqK.off rfl rfl rfl rfl rfl rfl ?_
                      refine SeqK.off rfl rfl rfl rfl rfl rfl ?_
                      refine SeqK.off rfl rfl rfl rfl rfl rfl ?_
                      refine SeqK.q (q_pkT rfl rfl rfl) rfl rfl rfl ?_
                      refine SeqK.q (q_asC rfl rfl) rfl rfl rfl ?_
                      refine SeqK.nil ?_
                      refine AW.condT rfl ?_
                      refine AW.seq ?_
                      refine AW.reg ?_
                      refine SeqK.q (q_asC rfl rfl) rfl rfl rfl ?_
                      refine SeqK.q (q_asC rfl rfl) rfl rfl rfl ?_
                      refine SeqK.q (q_asC rfl rfl) rfl rfl rfl ?_
                      refine SeqK.q (q_asC rfl rfl) rfl rfl rfl ?_
                      refine SeqK.nil ?_
                      refine AW.ret ?_
                      exact fin_x (x := .tup [_, _, _, _]) (H) (.tmp rfl (.tmp rfl (.tmp rfl (.tmp rfl .nil)))) rfl (fun _ _ h => h) (⟨⟨⟨0, 0, 0⟩, false, rfl, .inl ⟨rfl, rfl, by first | exact ng_e (by assumption) | exact ng_lo (by assumption) | exact ng_hi (by assumption) | exact ng_l1 (by assumption) | exact ng_l2 (by assumption) | exact ng_v (by assumption) (by assumption) (by assumption) | exact ng_n (by assumption) (by assumption) (by assumption) | exact ng_c hka (fun h => by have := h.1; have := h.2.1; omega) | exact ng_c hka (fun h => by rcases h.2.2 with h9 | h9 <;> first | exact absurd h9 (by assumption) | omega)⟩⟩, rfl⟩)
                    ·
                      refine SeqK.on (q_fieldL _ rfl Fx.fl82_0 rfl rfl) rfl rfl rfl rfl rfl ?_
                      refine SeqK.rOn (b_load (r := .a _) rfl Fx.ty3 rfl rfl rfl rfl rfl rfl) rfl rfl rfl ?_
                      refine SeqK.on (q_mvC rfl rfl) rfl rfl rfl rfl rfl ?_
                      refine SeqK.on (q_geq rfl rfl rfl) rfl rfl rfl rfl rfl ?_
                      refine SeqK.q (q_pkF rfl rfl rfl) rfl rfl rfl ?_
                      refine SeqK.q (q_asC rfl rfl) rfl rfl rfl ?_
                      refine SeqK.nil ?_
                      refine AW.condD rfl (fun h74 => ?_) (fun h74 => ?_)
                      ·
                        refine AW.seq ?_
                        refine AW.reg ?_
                        refine SeqK.q (q_asC rfl rfl) rfl rfl rfl ?_
                        refine SeqK.q (q_asC rfl rfl) rfl rfl rfl ?_
                        refine SeqK.q (q_asC rfl rfl) rfl rfl rfl ?_
                        refine SeqK.q (q_asC rfl rfl) rfl rfl rfl ?_
                        refine SeqK.nil ?_
                        refine AW.ret ?_
                        exact fin_x (x := .tup [_, _, _, _]) (H) (.tmp rfl (.tmp rfl (.tmp rfl (.tmp rfl .nil)))) rfl (fun _ _ h => h) (⟨⟨⟨0, 0, 0⟩, false, rfl, .inl ⟨rfl, rfl, by first | exact ng_e (by assumption) | exact ng_lo (by assumption) | exact ng_hi (by assumption) | exact ng_l1 (by assumption) | exact ng_l2 (by assumption) | exact ng_v (by assumption) (by assumption) (by assumption) | exact ng_n (by assumption) (by assumption) (by assumption) | exact ng_c hka (fun h => by have := h.1; have := h.2.1; omega) | exact ng_c hka (fun h => by rcases h.2.2 with h9 | h9 <;> first | exact absurd h9 (by assumption) | omega)⟩⟩, rfl⟩)
                      ·
                        refine AW.seq ?_
                        refine AW.reg ?_
                        refine SeqK.q (q_fieldL _ rfl Fx.fl82_1 rfl rfl) rfl rfl rfl ?_
                        refine SeqK.r (b_load (r := .a _) rfl Fx.ty2 rfl rfl rfl rfl rfl rfl) rfl ?_
                        refine SeqK.q (q_eql rfl rfl rfl) rfl rfl rfl ?_
                        refine SeqK.q (q_asC rfl rfl) rfl rfl rfl ?_
                        refine SeqK.nil ?_
                        refine AW.condD rfl (fun h84 => ?_) (fun h84 => ?_)
                        ·
                          refine AW.reg ?_
                          refine SeqK.q (q_fieldL _ rfl Fx.fl82_0 rfl rfl) rfl rfl rfl ?_
                          refine SeqK.r (b_load (r := .a _) rfl Fx.ty3 rfl rfl rfl rfl rfl rfl) rfl ?_
                          refine SeqK.q (q_asC rfl rfl) rfl rfl rfl ?_
                          refine SeqK.nil ?_
                          refine AW.reg ?_
                          refine SeqK.q (q_add _ rfl rfl rfl (w64 (by omega) (by omega))) rfl rfl rfl ?_
                          refine SeqK.q (q_mvC rfl rfl) rfl rfl rfl ?_
                          refine SeqK.nil ?_
                          exact ⟨i + 1, _, Wk.keep 101 [(1, .c (iC n)), (4, .c (iC (l[i].v))), (5, .c (iC (b))), (9, .c (iC k)), (68, .c (.a (.t (.sl z 2 (l.map cfT))))), (69, iX .i64 ((l.map cfT).length : Nat)), (70, iX .i64 (((i + 1) : Nat) : Int))] [] (H) rfl ⟨rfl, rfl, rfl, rfl, rfl, rfl, rfl, trivial⟩ trivial (fun _ _ h => h) rfl, by omega, l[i].v, b, ⟨by omega, by rw [ijF_snoc hka, if_pos h84, hab], fun v h hv => by
                            by_cases e : v = i
                            · subst e; exact ⟨by simp_all <;> omega, by simp_all <;> omega, .inl h84⟩
                            · exact hall v h (by omega)⟩, rfl⟩
                        ·
                          refine AW.seq ?_
                          refine AW.reg ?_
                          refine SeqK.q (q_fieldL _ rfl Fx.fl82_1 rfl rfl) rfl rfl rfl ?_
                          refine SeqK.r (b_load (r := .a _) rfl Fx.ty2 rfl rfl rfl rfl rfl rfl) rfl ?_
                          refine SeqK.q (q_eql rfl rfl rfl) rfl rfl rfl ?_
                          refine SeqK.q (q_asC rfl rfl) rfl rfl rfl ?_
                          refine SeqK.nil ?_
                          refine AW.condD rfl (fun h90 => ?_) (fun h90 => ?_)
                          ·
                            refine AW.reg ?_
                            refine SeqK.q (q_fieldL _ rfl Fx.fl82_0 rfl rfl) rfl rfl rfl ?_
                            refine SeqK.r (b_load (r := .a _) rfl Fx.ty3 rfl rfl rfl rfl rfl rfl) rfl ?_
                            refine SeqK.q (q_asC rfl rfl) rfl rfl rfl ?_
                            refine SeqK.nil ?_
                            refine AW.reg ?_
                            refine SeqK.q (q_add _ rfl rfl rfl (w64 (by omega) (by omega))) rfl rfl rfl ?_
                            refine SeqK.q (q_mvC rfl rfl) rfl rfl rfl ?_
                            refine SeqK.nil ?_
                            exact ⟨i + 1, _, Wk.keep 101 [(1, .c (iC n)), (4, .c (iC (a))), (5, .c (iC (l[i].v))), (9, .c (iC k)), (68, .c (.a (.t (.sl z 2 (l.map cfT))))), (69, iX .i64 ((l.map cfT).length : Nat)), (70, iX .i64 (((i + 1) : Nat) : Int))] [] (H) rfl ⟨rfl, rfl, rfl, rfl, rfl, rfl, rfl, trivial⟩ trivial (fun _ _ h => h) rfl, by omega, a, l[i].v, ⟨by omega, by rw [ijF_snoc hka, if_neg h84, hab], fun v h hv => by
                              by_cases e : v = i
                              · subst e; exact ⟨by simp_all <;> omega, by simp_all <;> omega, .inr h90⟩
                              · exact hall v h (by omega)⟩, rfl⟩
                          ·
                            refine AW.seq ?_
                            refine AW.reg ?_
                            refine SeqK.q (q_asC rfl rfl) rfl rfl rfl ?_
                            refine SeqK.q (q_asC rfl rfl) rfl rfl rfl ?_
                            refine SeqK.q (q_asC rfl rfl) rfl rfl rfl ?_
                            refine SeqK.q (q_asC rfl rfl) rfl rfl rfl ?_
                            refine SeqK.nil ?_
                            refine AW.ret ?_
                            exact fin_x (x := .tup [_, _, _, _]) (H) (.tmp rfl (.tmp rfl (.tmp rfl (.tmp rfl .nil)))) rfl (fun _ _ h => h) (⟨⟨⟨0, 0, 0⟩, false, rfl, .inl ⟨rfl, rfl, by first | exact ng_e (by assumption) | exact ng_lo (by assumption) | exact ng_hi (by assumption) | exact ng_l1 (by assumption) | exact ng_l2 (by assumption) | exact ng_v (by assumption) (by assumption) (by assumption) | exact ng_n (by assumption) (by assumption) (by assumption) | exact ng_c hka (fun h => by have := h.1; have := h.2.1; omega) | exact ng_c hka (fun h => by rcases h.2.2 with h9 | h9 <;> first | exact absurd h9 (by assumption) | omega)⟩⟩, rfl⟩)
                  ·
                    refine AW.exit ?_
                    refine eth_e ?_
                    refine eth_e ?_
                    refine exit_here ?_
                    refine AW.seq ?_
                    obtain rfl : i = l.length := by simp at h71; omega
                    have hgood : Good eq k l n := good_of g20 g24 g28 hb1 hb2 (fun v h => hall v h h) hH2
                    rw [List.take_length] at hab
                    refine AW.reg ?_
                    refine SeqK.q (q_mvC rfl rfl) rfl rfl rfl ?_
                    refine SeqK.q (q_mvC rfl rfl) rfl rfl rfl ?_
                    refine SeqK.q (q_mvC rfl rfl) rfl rfl rfl ?_
                    refine SeqK.q (q_neg _ rfl rfl ((by rw [w64 (by omega) (by omega)]; omega : IntKind.i64.wrap _ = -k))) rfl rfl rfl ?_
                    refine SeqK.q (q_asC rfl rfl) rfl rfl rfl ?_
                    refine SeqK.q (q_asC rfl rfl) rfl rfl rfl ?_
                    refine SeqK.q (q_asC rfl rfl) rfl rfl rfl ?_
                    refine SeqK.q (q_asC rfl rfl) rfl rfl rfl ?_
                    refine SeqK.nil ?_
                    refine AW.ret ?_
                    exact fin_x (x := .tup [_, _, _, _]) (H) (.tmp rfl (.tmp rfl (.tmp rfl (.tmp rfl .nil)))) rfl (fun _ _ h => h) (⟨⟨⟨a, b, -k⟩, true, rfl, .inr ⟨rfl, hgood, by rw [hab]⟩⟩, rfl⟩)
            ·
              refine LexK.off rfl rfl rfl rfl rfl rfl ?_
              refine LexK.off rfl rfl rfl rfl rfl rfl ?_
              refine LexK.off rfl rfl rfl rfl rfl rfl ?_
              refine LexK.off rfl rfl rfl rfl rfl rfl ?_
              refine LexK.off rfl rfl rfl rfl rfl rfl ?_
              refine LexK.off rfl rfl rfl rfl rfl rfl ?_
              refine LexK.off rfl rfl rfl rfl rfl rfl ?_
              refine LexK.off rfl rfl rfl rfl rfl rfl ?_
              refine LexK.off rfl rfl rfl rfl rfl rfl ?_
              refine LexK.off rfl rfl rfl rfl rfl rfl ?_
              refine LexK.offU rfl rfl rfl rfl rfl ?_
              refine LexK.offU rfl rfl rfl rfl rfl ?_
              refine LexK.offU rfl rfl rfl rfl rfl ?_
              refine LexK.offU rfl rfl rfl rfl rfl ?_
              refine LexK.offU rfl rfl rfl rfl rfl ?_
              refine LexK.offU rfl rfl rfl rfl rfl ?_
              refine LexK.offU rfl rfl rfl rfl rfl ?_
              refine LexK.offU rfl rfl rfl rfl rfl ?_
              refine LexK.offU rfl rfl rfl rfl rfl ?_
              refine LexK.offU rfl rfl rfl rfl rfl ?_
              refine LexK.off rfl rfl rfl rfl rfl rfl ?_
              refine LexK.on (q_pkF rfl rfl rfl) rfl rfl rfl rfl rfl ?_
              refine LexK.q (q_pkF rfl rfl rfl) rfl rfl rfl ?_
              refine LexK.nil (by kernel_rfl) ?_
              refine AW.condF rfl ?_
              refine AW.skip ?_
              refine AW.seq ?_
              have hH2 : ∀ (h0 : 0 < l.length) (h1 : 1 < l.length), l[0].v ≠ l[1].v ∧ l[0].n = IntKind.i64.wrap ((0 : Int) - l[1].n) := by
                first | exact fun _ _ => ⟨g52, Decidable.not_not.1 h65⟩ | (intro _ h1; simp at g42 g38; omega)
              have hb1 : 1 ≤ l.length := by simp at g33; omega
              have hb2 : l.length ≤ 2 := by simp at g38; omega
              refine AW.reg ?_
              refine SeqK.q (q_mvC rfl rfl) rfl rfl rfl ?_
              refine SeqK.q (q_mvC rfl rfl) rfl rfl rfl ?_
              refine SeqK.q (q_asC rfl rfl) rfl rfl rfl ?_
              refine SeqK.q (q_asC rfl rfl) rfl rfl rfl ?_
              refine SeqK.nil ?_
              refine AW.seq ?_
              refine AW.seq ?_
              refine AW.reg ?_
              refine SeqK.q (q_mvC rfl rfl) rfl rfl rfl ?_
              refine SeqK.q (q_len rfl Fx.un53 rfl) rfl rfl rfl ?_
              refine SeqK.q (q_mvC rfl rfl) rfl rfl rfl ?_
              refine SeqK.nil ?_
              refine AW.block ?_
              refine AW.loop (fun (i : Nat) s => ∃ (a b : Int), (i ≤ l.length ∧ ijF n (l.take i) = (a, b) ∧ ∀ (v : Nat) (h : v < l.length), v < i → okC n l[v]) ∧ s = ⟨101, sp [(1, .c (iC n)), (4, .c (iC a)), (5, .c (iC b)), (9, .c (iC k)), (68, .c (.a (.t (.sl z 2 (l.map cfT))))), (69, iX .i64 ((l.map cfT).length : Nat)), (70, iX .i64 ((i : Nat) : Int))], lv [], H⟩) (fun i => l.length - i) 0 ⟨_, Wk.keep 101 [(1, .c (iC n)), (4, .c (iC (n))), (5, .c (iC (n))), (9, .c (iC k)), (68, .c (.a (.t (.sl z 2 (l.map cfT))))), (69, iX .i64 ((l.map cfT).length : Nat)), (70, iX .i64 ((((0 : Nat)) : Nat) : Int))] [] (H) rfl ⟨rfl, rfl, rfl, rfl, rfl, rfl, rfl, trivial⟩ trivial (fun _ _ h => h) rfl, n, n, ⟨Nat.zero_le _, rfl, fun v h hv => absurd hv (Nat.not_lt_zero v)⟩, rfl⟩ (fun i s hs => ?_)
              obtain ⟨a, b, ⟨hi, hab, hall⟩, rfl⟩ := hs
              refine AW.seq ?_
              refine AW.reg ?_
              refine SeqK.q (q_lss rfl rfl rfl) rfl rfl rfl ?_
              refine SeqK.nil ?_
              refine AW.seq ?_
              refine AW.condD rfl (fun h71 => ?_) (fun h71 => ?_)
              ·
                have hka : i < l.length := by simp at h71; omega
                refine AW.skip ?_
                refine AW.seq ?_
                refine AW.block ?_
                refine AW.seq ?_
                refine AW.reg ?_
                refine SeqK.q (q_index _ rfl Fx.sl53 rfl rfl (by omega) (idx_map hka)) rfl rfl rfl ?_
                refine SeqK.q (q_load (.g [_, _]) rfl Fx.ty82 rfl rfl rfl) rfl rfl rfl ?_
                refine SeqK.r (b_alloc (r := [_, _]) rfl rfl Fx.ze82 rfl rfl rfl rfl) rfl ?_
                refine SeqK.r (b_store (r := [_, _]) rfl rfl Fx.ty82 rfl rfl rfl rfl rfl rfl) rfl ?_
                refine SeqK.nil ?_
                refine AW.block ?_
                refine AW.seq ?_
                refine AW.reg ?_
                refine SeqK.q (q_fieldL _ rfl Fx.fl82_0 rfl rfl) rfl rfl rfl ?_
                refine SeqK.r (b_load (r := .a _) rfl Fx.ty3 rfl rfl rfl rfl rfl rfl) rfl ?_
                refine SeqK.q (q_lss rfl rfl rfl) rfl rfl rfl ?_
                refine SeqK.qD (q_mvC rfl rfl) rfl rfl rfl (fun g78 => ?_) (fun g78 => ?_)
                ·
                  refine SeqK.off rfl rfl rfl rfl rfl rfl ?_
                  refine SeqK.off rfl rfl rfl rfl rfl rfl ?_
                  refine SeqK.off rfl rfl rfl rfl rfl rfl ?_
                  refine SeqK.off rfl rfl rfl rfl rfl rfl ?_
                  refine SeqK.q (q_pkT rfl rfl rfl) rfl rfl rfl ?_
                  refine SeqK.q (q_asC rfl rfl) rfl rfl rfl ?_
                  refine SeqK.nil ?_
                  refine AW.condT rfl ?_
                  refine AW.seq ?_
                  refine AW.reg ?_
                  refine SeqK.q (q_asC rfl rfl) rfl rfl rfl ?_
                  refine SeqK.q (q_asC rfl rfl) rfl rfl rfl ?_
                  refine SeqK.q (q_asC rfl rfl) rfl rfl rfl ?_
                  refine SeqK.q (q_asC rfl rfl) rfl rfl rfl ?_
                  refine SeqK.nil ?_
                  refine AW.ret ?_
                  exact fin_x (x := .tup [_, _, _, _]) (H) (.tmp rfl (.tmp rfl (.tmp rfl (.tmp rfl .nil)))) rfl (fun _ _ h => h) (⟨⟨⟨0, 0, 0⟩, false, rfl, .inl ⟨rfl, rfl, by first | exact ng_e (by assumption) | exact ng_lo (by assumption) | exact ng_hi (by assumption) | exact ng_l1 (by assumption) | exact ng_l2 (by assumption) | exact ng_v (by assumption) (by assumption) (by assumption) | exact ng_n (by assumption) (by assumption) (by assumption) | exact ng_c hka (fun h => by have := h.1; have := h.2.1; omega) | exact ng_c hka (fun h => by rcases h.2.2 with h9 | h9 <;> first | exact absurd h9 (by assumption) | omega)⟩⟩, rfl⟩)
                ·
                  refine SeqK.on (q_fieldL _ rfl Fx.fl82_0 rfl rfl) rfl rfl rfl rfl rfl ?_
                  refine SeqK.rOn (b_load (r := .a _) rfl Fx.ty3 rfl rfl rfl rfl rfl rfl) rfl rfl rfl ?_
                  refine SeqK.on (q_mvC rfl rfl) rfl rfl rfl rfl rfl ?_
                  refine SeqK.on (q_geq rfl rfl rfl) rfl rfl rfl rfl rfl ?_
                  refine SeqK.q (q_pkF rfl rfl rfl) rfl rfl rfl ?_
                  refine SeqK.q (q_asC rfl rfl) rfl rfl rfl ?_
                  refine SeqK.nil ?_
                  refine AW.condD rfl (fun h74 => ?_) (fun h74 => ?_)
                  ·
                    refine AW.seq ?_
                    refine AW.reg ?_
                    refine SeqK.q (q_asC rfl rfl) rfl rfl rfl ?_
                    refine SeqK.q (q_asC rfl rfl) rfl rfl rfl ?_
                    refine SeqK.q (q_asC rfl rfl) rfl rfl rfl ?_
                    refine SeqK.q (q_asC rfl rfl) rfl rfl rfl ?_
                    refine SeqK.nil ?_
                    refine AW.ret ?_
                    exact fin_x (x := .tup [_, _, _, _]) (H) (.tmp rfl (.tmp rfl (.tmp rfl (.tmp rfl .nil)))) rfl (fun _ _ h => h) (⟨⟨⟨0, 0, 0⟩, false, rfl, .inl ⟨rfl, rfl, by first | exact ng_e (by assumption) | exact ng_lo (by assumption) | exact ng_hi (by assumption) | exact ng_l1 (by assumption) | exact ng_l2 (by assumption) | exact ng_v (by assumption) (by assumption) (by assumption) | exact ng_n (by assumption) (by assumption) (by assumption) | exact ng_c hka (fun h => by have := h.1; have := h.2.1; omega) | exact ng_c hka (fun h => by rcases h.2.2 with h9 | h9 <;> first | exact absurd h9 (by assumption) | omega)⟩⟩, rfl⟩)
                  ·
                    refine AW.seq ?_
                    refine AW.reg ?_
                    refine SeqK.q (q_fieldL _ rfl Fx.fl82_1 rfl rfl) rfl rfl rfl ?_
                    refine SeqK.r (b_load (r := .a _) rfl Fx.ty2 rfl rfl rfl rfl rfl rfl) rfl ?_
                    refine SeqK.q (q_eql rfl rfl rfl) rfl rfl rfl ?_
                    refine SeqK.q (q_asC rfl rfl) rfl rfl rfl ?_
                    refine SeqK.nil ?_
                    refine AW.condD rfl (fun h84 => ?_) (fun h84 => ?_)
                    ·
                      refine AW.reg ?_
                      refine SeqK.q (q_fieldL _ rfl Fx.fl82_0 rfl rfl) rfl rfl rfl ?_
                      refine SeqK.r (b_load (r := .a _) rfl Fx.ty3 rfl rfl rfl rfl rfl rfl) rfl ?_
                      refine SeqK.q (q_asC rfl rfl) rfl rfl rfl ?_
                      refine SeqK.nil ?_
                      refine AW.reg ?_
                      refine SeqK.q (q_add _ rfl rfl rfl (w64 (by omega) (by omega))) rfl rfl rfl ?_
                      refine SeqK.q (q_mvC rfl rfl) rfl rfl rfl ?_
                      refine SeqK.nil ?_
                      exact ⟨i + 1, _, Wk.keep 101 [(1, .c (iC n)), (4, .c (iC (l[i].v))), (5, .c (iC (b))), (9, .c (iC k)), (68, .c (.a (.t (.sl z 2 (l.map cfT))))), (69, iX .i64 ((l.map cfT).length : Nat)), (70, iX .i64 (((i + 1) : Nat) : Int))] [] (H) rfl ⟨rfl, rfl, rfl, rfl, rfl, rfl, rfl, trivial⟩ trivial (fun _ _ h => h) rfl, by omega, l[i].v, b, ⟨by omega, by rw [ijF_snoc hka, if_pos h84, hab], fun v h hv => by
                        by_cases e : v = i
                        · subst e; exact ⟨by simp_all <;> omega, by simp_all <;> omega, .inl h84⟩
                        · exact hall v h (by omega)⟩, rfl⟩
                    ·
                      refine AW.seq ?_
                      refine AW.reg ?_
                      refine SeqK.q (q_fieldL _ rfl Fx.fl82_1 rfl rfl) rfl rfl rfl ?_
                      refine SeqK.r (b_load (r := .a _) rfl Fx.ty2 rfl rfl rfl rfl rfl rfl) rfl ?_
                      refine SeqK.q (q_eql rfl rfl rfl) rfl rfl rfl ?_
                      refine SeqK.q (q_asC rfl rfl) rfl rfl rfl ?_
                      refine SeqK.nil ?_
                      refine AW.condD rfl (fun h90 => ?_) (fun h90 => ?_)
                      ·
                        refine AW.reg ?_
                        refine SeqK.q (q_fieldL _ rfl Fx.fl82_0 rfl rfl) rfl rfl rfl ?_
                        refine SeqK.r (b_load (r := .a _) rfl Fx.ty3 rfl rfl rfl rfl rfl rfl) rfl ?_
                        refine SeqK.q (q_asC rfl rfl) rfl rfl rfl ?_
                        refine SeqK.nil ?_
                        refine AW.reg ?_
                        refine SeqK.q (q_add _ rfl rfl rfl (w64 (by omega) (by omega))) rfl rfl rfl ?_
                        refine SeqK.q (q_mvC rfl rfl) rfl rfl rfl ?_
                        refine SeqK.nil ?_
                        exact ⟨i + 1, _, Wk.keep 101 [(1, .c (iC n)), (4, .c (iC (a))), (5, .c (iC (l[i].v))), (9, .c (iC k)), (68, .c (.a (.t (.sl z 2 (l.map cfT))))), (69, iX .i64 ((l.map cfT).length : Nat)), (70, iX .i64 (((i + 1) : Nat) : Int))] [] (H) rfl ⟨rfl, rfl, rfl, rfl, rfl, rfl, rfl, trivial⟩ trivial (fun _ _ h => h) rfl, by omega, a, l[i].v, ⟨by omega, by rw [ijF_snoc hka, if_neg h84, hab], fun v h hv => by
                          by_cases e : v = i
                          · subst e; exact ⟨by simp_all <;> omega, by simp_all <;> omega, .inr h90⟩
                          · exact hall v h (by omega)⟩, rfl⟩
                      ·
                        refine AW.seq ?_
                        refine AW.reg ?_
                        refine SeqK.q (q_asC rfl rfl) rfl rfl rfl ?_
                        refine SeqK.q (q_asC rfl rfl) rfl rfl rfl ?_
                        refine SeqK.q (q_asC rfl rfl) rfl rfl rfl ?_
                        refine SeqK.q (q_asC rfl rfl) rfl rfl rfl ?_
                        refine SeqK.nil ?_
                        refine AW.ret ?_
                        exact fin_x (x := .tup [_, _, _, _]) (H) (.tmp rfl (.tmp rfl (.tmp rfl (.tmp rfl .nil)))) rfl (fun _ _ h => h) (⟨⟨⟨0, 0, 0⟩, false, rfl, .inl ⟨rfl, rfl, by first | exact ng_e (by assumption) | exact ng_lo (by assumption) | exact ng_hi (by assumption) | exact ng_l1 (by assumption) | exact ng_l2 (by assumption) | exact ng_v (by assumption) (by assumption) (by assumption) | exact ng_n (by assumption) (by assumption) (by assumption) | exact ng_c hka (fun h => by have := h.1; have := h.2.1; omega) | exact ng_c hka (fun h => by rcases h.2.2 with h9 | h9 <;> first | exact absurd h9 (by assumption) | omega)⟩⟩, rfl⟩)
              ·
                refine AW.exit ?_
                refine eth_e ?_
                refine eth_e ?_
                refine exit_here ?_
                refine AW.seq ?_
                obtain rfl : i = l.length := by simp at h71; omega
                have hgood : Good eq k l n := good_of g20 g24 g28 hb1 hb2 (fun v h => hall v h h) hH2
                rw [List.take_length] at hab
                refine AW.reg ?_
                refine SeqK.q (q_mvC rfl rfl) rfl rfl rfl ?_
                refine SeqK.q (q_mvC rfl rfl) rfl rfl rfl ?_
                refine SeqK.q (q_mvC rfl rfl) rfl rfl rfl ?_
                refine SeqK.q (q_neg _ rfl rfl ((by rw [w64 (by omega) (by omega)]; omega : IntKind.i64.wrap _ = -k))) rfl rfl rfl ?_
                refine SeqK.q (q_asC rfl rfl) rfl rfl rfl ?_
                refine SeqK.q (q_asC rfl rfl) rfl rfl rfl ?_
                refine SeqK.q (q_asC rfl rfl) rfl rfl rfl ?_
                refine SeqK.q (q_asC rfl rfl) rfl rfl rfl ?_
                refine SeqK.nil ?_
                refine AW.ret ?_
                exact fin_x (x := .tup [_, _, _, _]) (H) (.tmp rfl (.tmp rfl (.tmp rfl (.tmp rfl .nil)))) rfl (fun _ _ h => h) (⟨⟨⟨a, b, -k⟩, true, rfl, .inr ⟨rfl, hgood, by rw [hab]⟩⟩, rfl⟩)

end Go.Proofs.Ytkpacejikoengaa.W
