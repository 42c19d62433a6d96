/- Keys that are pairs of integers. -/
import Derived.Test.YtkpacejikoengaaE31
import Derived.Test.YtkpacejikoengaaFx
import Derived.Laws.StructEq
import Derived.WideKeyRuns
import Derived.KernelRfl
namespace Go.Proofs.Ytkpacejikoengaa.Fx
open Go.RowKit Go.Proofs.Ytkpacejikoengaa.E
set_option linter.unusedVariables false
set_option linter.unusedSimpArgs false
abbrev pr (a b : Int) : Value := .agg #[.int .i64 a, .int .i64 b]
theorem part0 (a b : Int) (w : World) : (part 3 #[.int .i64 a, .int .i64 b] (0 * 1)).run Try.prog w = .ok (.int .i64 a) w := by kernel_rfl
theorem part1 (a b : Int) (w : World) : (part 3 #[.int .i64 a, .int .i64 b] (1 * 1)).run Try.prog w = .ok (.int .i64 b) w := by kernel_rfl
theorem sz3 (w : World) : (sizeOf 3).run Try.prog w = .ok 1 w := by kernel_rfl
theorem eq80 (a b c d : Int) (w : World) : (Op.equal 80 (pr a b) (pr c d)).run Try.prog w = .ok (a == c && b == d) w := by
  have h3 : ∀ (x y : Int), (Op.equalIn 9999 3 (.int .i64 x) (.int .i64 y)).run Try.prog w = .ok (x == y) w := fun x y => run_equalIn_int w 9998 3 .i64 .i64 x y Try.underlying3
  have q0 := part0 a b w
  have q1 := part1 a b w
  have q2 := part0 c d w
  have q3 := part1 c d w
  show (Op.equalIn (9999 + 1) 80 (pr a b) (pr c d)).run Try.prog w = _
  rw [Op.equalIn]
  simp only [Sem.run_bind, run_underlying Try.underlying80, Result.andThen_ok, sz3]
  simp only [Std.Legacy.Range.forIn_eq_forIn_range', Std.Legacy.Range.size, Nat.sub_zero, Nat.add_sub_cancel, Nat.div_one, List.range'_succ, List.range'_zero, List.forIn_cons, List.forIn_nil, Sem.run_bind, q0, q1, q2, q3, h3, Result.andThen_ok, Nat.zero_add]
  have r1 : (part 3 #[.int .i64 a, .int .i64 b] 1).run Try.prog w = .ok (.int .i64 b) w := q1
  have r3 : (part 3 #[.int .i64 c, .int .i64 d] 1).run Try.prog w = .ok (.int .i64 d) w := q3
  by_cases h1 : a = c
  · subst h1
    by_cases h2 : b = d
    · subst h2; simp [r1, r3, h3, Result.andThen]
    · have : (b == d) = false := by simpa using h2
      simp [r1, r3, h3, h2, this, Result.andThen]
  · have : (a == c) = false := by simpa using h1
    simp [h1, this, Result.andThen]
theorem check80 (em : Bool) (a b : Int) (w : World) : (Instr.checkKey em 10000 80 (pr a b)).run Try.prog w = .ok () w := by kernel_rfl
theorem pr_of {v : Value} (h : kok (.ints .i64 2) v = true) : ∃ a b, v = pr a b := by
  cases v <;> simp only [kok, Bool.false_eq_true] at h
  rename_i cs
  simp only [Bool.and_eq_true, decide_eq_true_eq, List.all_eq_true] at h
  obtain ⟨l⟩ := cs
  obtain ⟨h1, h2⟩ := h
  have h1 : l.length = 2 := h1
  match l, h1, h2 with
  | [x, y], _, h2 =>
    have hx := h2 x (by simp)
    have hy := h2 y (by simp)
    cases x <;> simp at hx
    cases y <;> simp at hy
    subst hx hy
    exact ⟨_, _, rfl⟩
theorem pr_inj {a b c d : Int} : pr a b = pr c d ↔ a = c ∧ b = d := by
  constructor
  · intro h; injection h with h; injection h with h; injection h with h1 h2; injection h2 with h2 h3; injection h1 with _ h1; injection h2 with _ h2; exact ⟨h1, h2⟩
  · rintro ⟨rfl, rfl⟩; rfl
theorem find80 (k : Value) (w : World) (hk : kok (.ints .i64 2) k = true) : ∀ (l : List MapEntry) (i : Nat), (∀ e ∈ l, kok (.ints .i64 2) e.key = true) →
    ((Instr.findAsking 80 k l i).run Try.prog w = .ok none w ∧ ∀ e ∈ l, e.key ≠ k) ∨ ∃ j e, (Instr.findAsking 80 k l i).run Try.prog w = .ok (some (i + j, e.val)) w ∧ l[j]? = some e ∧ e.key = k
  | [], i, _ => .inl ⟨by simp [Instr.findAsking], by simp⟩
  | e :: l, i, h => by
    obtain ⟨a, b, rfl⟩ := pr_of hk
    obtain ⟨c, d, hc⟩ := pr_of (h e (by simp))
    have he : (Op.equal 80 (pr a b) e.key).run Try.prog w = .ok (a == c && b == d) w := by rw [hc]; exact eq80 a b c d w
    by_cases hh : a = c ∧ b = d
    · obtain ⟨rfl, rfl⟩ := hh
      simp only [beq_self_eq_true, Bool.and_self] at he
      exact .inr ⟨0, e, by simp [Instr.findAsking, he], rfl, hc⟩
    · have hf : (a == c && b == d) = false := by
        cases h9 : (a == c && b == d) with
        | false => rfl
        | true => simp at h9; exact absurd h9 hh
      rw [hf] at he
      rcases find80 (pr a b) w hk l (i + 1) (fun y hy => h y (by simp [hy])) with ⟨h1, h2⟩ | ⟨j, e', h1, h2, h3⟩
      · refine .inl ⟨by simp [Instr.findAsking, he, h1], fun y hy => ?_⟩
        rcases List.mem_cons.1 hy with rfl | hy
        · rw [hc]; intro e9; exact hh (by obtain ⟨q1, q2⟩ := pr_inj.1 e9; exact ⟨q1.symm, q2.symm⟩)
        · exact h2 y hy
      · exact .inr ⟨j + 1, e', by simp [Instr.findAsking, he, h1, Nat.add_assoc, Nat.add_comm 1 j], by simpa using h2, h3⟩
theorem kl80 : KeyLaw Try.prog 80 (.ints .i64 2) where
  check k em w hk := by obtain ⟨a, b, rfl⟩ := pr_of hk; exact check80 em a b w
  find k l w hk hl := by
    have e : (Instr.findKey 80 k l).run Try.prog w = (Instr.findAsking 80 k l).run Try.prog w := run_findKey_eq w (by rw [Try.underlying80]) k l
    rw [e]
    simpa using find80 k w hk l 0 hl
  stay k w hk := by
    obtain ⟨a, b, rfl⟩ := pr_of hk
    simp [Instr.keyThatStays, Instr.sameBits]
abbrev kk80 : KK := .ints .i64 2
end Go.Proofs.Ytkpacejikoengaa.Fx
