/- Parts of the proof, one after the other: E45, E46, Fx. No condition. -/
import Derived.Test.YtfbdokfcebpkaaaDoorM11
import Derived.Lib.LaidTab
import Derived.Test.YtfbdokfcebpkaaaDoorProg
/- Contracts that lean on package variables that are only read. Plain theorems, for any program. -/
namespace Go.Proofs.YtfbdokfcebpkaaaDoor.E
open Go.RowKit
set_option linter.unusedVariables false
theorem tabIs {P : Program} {w : World} (h : TabW w) {name : String} {g : Nat} {k : IntKind} {zs : List Int} (hg : P.globalNamed name = some g) (ht : TAB g = some ((zs.map fun z => Value.int k z).toArray)) : Lib.TabIs P w name k zs := by
  obtain ⟨ty, fl, e⟩ := h g _ ht
  unfold Lib.TabIs World.var?
  rw [hg]
  simp only [Option.bind_some, e]
theorem q_remC {P : Program} {o : Oper} {s : S} {t u : TypeId} {x y : Operand} {k : IntKind} {a b c : Int} (ho : o.op = .binOp .rem t x y u) (hx : s.eval x = iX k a) (hy : s.eval y = iX k b) (h0 : b ≠ 0) (hc : a.tmod b = c) : QV P o s (iX k c) := hc ▸ q_rem ho hx hy h0
/-- a call that leaves the world as it was, but for new blocks -/
theorem Pure.of_grow {P : Program} {f : FuncId} (us : List Value) {v : Value} {x : X} (h : ∀ w, TabW w → Calls P f us.toArray w fun e w' => e = .returned v ∧ ∃ k os, w' = Go.Sort.grow (w.drewN k) os) (hx : ∀ c, RepX c x v) : Pure P f (us.map vC) x := by
  intro H c w vs hc hr
  have h1 := reps_vals hr
  have h2 : vs = us.toArray := by rw [← h1]
  rw [h2]
  refine (h w hc.tabw).mono ?_
  rintro e w' ⟨rfl, k, os, rfl⟩
  obtain ⟨h3, h4⟩ := hc.far (w' := Go.Sort.grow (w.drewN k) os) rfl rfl rfl (by show w.heap.size ≤ (w.heap ++ os).size; simp) fun b hb => by
    show (w.heap ++ os)[b]? = _
    rw [Array.getElem?_append, if_pos hb]
  exact ⟨v, x, H, c, rfl, ⟨rfl, rfl⟩, hx c, h3, h4⟩
end Go.Proofs.YtfbdokfcebpkaaaDoor.E
/- From a listed table to what the walks ask of the world. Plain theorems, for any program. -/
namespace Go.Proofs.YtfbdokfcebpkaaaDoor.E
open Go.RowKit
theorem tabW_of {P : Program} {w : World} {name : String} {g : Nat} {k : IntKind} {zs : List Int} (h : Lib.TabIs P w name k zs) (hg : P.globalNamed name = some g) (hT : ∀ g' cs, TAB g' = some cs → g' = g ∧ cs = (zs.map fun z => Value.int k z).toArray) : TabW w := fun g' cs hc => by
  obtain ⟨rfl, rfl⟩ := hT g' cs hc
  unfold Lib.TabIs World.var? at h
  rw [hg] at h
  simp only [Option.bind_some] at h
  split at h
  · rename_i cs' ty fl e
    injection h with h
    subst h
    exact ⟨ty, fl, e⟩
  · cases h
end Go.Proofs.YtfbdokfcebpkaaaDoor.E
/- Closed facts on the types and functions of the program. -/
namespace Go.Proofs.YtfbdokfcebpkaaaDoor.Fx
open Go.Proofs.YtfbdokfcebpkaaaDoor.E
theorem mo : Tryd.prog.follows .mixedOrders = true := by kernel_rfl
theorem ty2 : tyB Tryd.prog 2 false 1 = true := by kernel_rfl
theorem un2 : Tryd.prog.underlying 2 = some (.int .i64) := by kernel_rfl
theorem ty3 : tyB Tryd.prog 3 false 1 = true := by kernel_rfl
theorem un3 : Tryd.prog.underlying 3 = some (.int .i64) := by kernel_rfl
theorem un4 : Tryd.prog.underlying 4 = some .bool := by kernel_rfl
theorem un5 : Tryd.prog.underlying 5 = some (.int .u8) := by kernel_rfl
theorem ty9 : tyB Tryd.prog 9 false 1 = true := by kernel_rfl
theorem un9 : Tryd.prog.underlying 9 = some .string := by kernel_rfl
theorem ty22 : tyB Tryd.prog 22 false 1 = true := by kernel_rfl
theorem sl22 : slB Tryd.prog 22 62 5 = true := by kernel_rfl
theorem el22 : elB Tryd.prog 22 62 5 56 = true := by kernel_rfl
theorem un22 : Tryd.prog.underlying 22 = some (.slice 62) := by kernel_rfl
theorem nk22 : nkB Tryd.prog 22 .sl = true := by kernel_rfl
theorem ty24 : tyB Tryd.prog 24 true 2 = true := by kernel_rfl
theorem ze24 : zeroIs Tryd.prog 24 (.agg #[.int .i64 0, .slice none 0 0]) := (by kernel_rfl : (Tryd.prog.info? 24).bind (·.zero) = some (.agg #[.int .i64 0, .slice none 0 0]))
theorem fl24_0 : fldB Tryd.prog 24 0 0 = true := by kernel_rfl
theorem fl24_1 : fldB Tryd.prog 24 1 1 = true := by kernel_rfl
theorem bp24 : bplB Tryd.prog 24 [(0, 1), (1, 1)] = true := by kernel_rfl
theorem ze33 : zeroIs Tryd.prog 33 (.agg #[.int .i64 0, .int .i64 0, .string ⟨#[]⟩]) := (by kernel_rfl : (Tryd.prog.info? 33).bind (·.zero) = some (.agg #[.int .i64 0, .int .i64 0, .string ⟨#[]⟩]))
theorem fl33_0 : fldB Tryd.prog 33 0 0 = true := by kernel_rfl
theorem fl33_1 : fldB Tryd.prog 33 1 1 = true := by kernel_rfl
theorem fl33_2 : fldB Tryd.prog 33 2 2 = true := by kernel_rfl
theorem bp33 : bplB Tryd.prog 33 [(0, 1), (1, 1), (2, 1)] = true := by kernel_rfl
theorem ty34 : tyB Tryd.prog 34 false 1 = true := by kernel_rfl
theorem sl34 : slB Tryd.prog 34 36 8 = true := by kernel_rfl
theorem el34 : elB Tryd.prog 34 36 8 104 = true := by kernel_rfl
theorem un34 : Tryd.prog.underlying 34 = some (.slice 36) := by kernel_rfl
theorem ty36 : tyB Tryd.prog 36 true 8 = true := by kernel_rfl
theorem ze36 : zeroIs Tryd.prog 36 (.agg #[.int .i64 0, .string ⟨#[]⟩, .string ⟨#[]⟩, .int .i64 0, .int .i64 0, .int .i64 0, .string ⟨#[]⟩, .slice none 0 0]) := (by kernel_rfl : (Tryd.prog.info? 36).bind (·.zero) = some (.agg #[.int .i64 0, .string ⟨#[]⟩, .string ⟨#[]⟩, .int .i64 0, .int .i64 0, .int .i64 0, .string ⟨#[]⟩, .slice none 0 0]))
theorem fl36_0 : fldB Tryd.prog 36 0 0 = true := by kernel_rfl
theorem fl36_3 : fldB Tryd.prog 36 3 3 = true := by kernel_rfl
theorem fl36_4 : fldB Tryd.prog 36 4 4 = true := by kernel_rfl
theorem fl36_5 : fldB Tryd.prog 36 5 7 = true := by kernel_rfl
theorem bp36 : bplB Tryd.prog 36 [(0, 1), (1, 1), (2, 1), (3, 1), (4, 3), (7, 1)] = true := by kernel_rfl
theorem sl54 : slB Tryd.prog 54 3 1 = true := by kernel_rfl
theorem el54 : elB Tryd.prog 54 3 1 8 = true := by kernel_rfl
theorem un54 : Tryd.prog.underlying 54 = some (.slice 3) := by kernel_rfl
theorem ty60 : tyB Tryd.prog 60 false 1 = true := by kernel_rfl
theorem sl60 : slB Tryd.prog 60 24 2 = true := by kernel_rfl
theorem el60 : elB Tryd.prog 60 24 2 32 = true := by kernel_rfl
theorem un60 : Tryd.prog.underlying 60 = some (.slice 24) := by kernel_rfl
theorem ty62 : tyB Tryd.prog 62 true 5 = true := by kernel_rfl
theorem ze62 : zeroIs Tryd.prog 62 (.agg #[.int .i64 0, .int .i64 0, .int .i64 0, .int .i64 0, .slice none 0 0]) := (by kernel_rfl : (Tryd.prog.info? 62).bind (·.zero) = some (.agg #[.int .i64 0, .int .i64 0, .int .i64 0, .int .i64 0, .slice none 0 0]))
theorem fl62_0 : fldB Tryd.prog 62 0 0 = true := by kernel_rfl
theorem fl62_1 : fldB Tryd.prog 62 1 1 = true := by kernel_rfl
theorem fl62_2 : fldB Tryd.prog 62 2 2 = true := by kernel_rfl
theorem fl62_3 : fldB Tryd.prog 62 3 3 = true := by kernel_rfl
theorem fl62_4 : fldB Tryd.prog 62 4 4 = true := by kernel_rfl
theorem bp62 : bplB Tryd.prog 62 [(0, 1), (1, 1), (2, 1), (3, 1), (4, 1)] = true := by kernel_rfl
theorem ty67 : tyB Tryd.prog 67 false 1 = true := by kernel_rfl
theorem nk67 : nkB Tryd.prog 67 .pt = true := by kernel_rfl
theorem ty68 : tyB Tryd.prog 68 false 1 = true := by kernel_rfl
theorem el68 : elB Tryd.prog 68 5 1 1 = true := by kernel_rfl
theorem un68 : Tryd.prog.underlying 68 = some (.slice 5) := by kernel_rfl
theorem ze70 : zeroIs Tryd.prog 70 (.agg #[.pointer none, .slice none 0 0]) := (by kernel_rfl : (Tryd.prog.info? 70).bind (·.zero) = some (.agg #[.pointer none, .slice none 0 0]))
theorem fl70_0 : fldB Tryd.prog 70 0 0 = true := by kernel_rfl
theorem fl70_1 : fldB Tryd.prog 70 1 1 = true := by kernel_rfl
theorem un78 : Tryd.prog.underlying 78 = some (.int .u64) := by kernel_rfl
theorem fn12 : fnB Tryd.prog 12 = true := by kernel_rfl
theorem fn13 : fnB Tryd.prog 13 = true := by kernel_rfl
theorem fn14 : fnB Tryd.prog 14 = true := by kernel_rfl
theorem fn15 : fnB Tryd.prog 15 = true := by kernel_rfl
theorem fn16 : fnB Tryd.prog 16 = true := by kernel_rfl
theorem fn17 : fnB Tryd.prog 17 = true := by kernel_rfl
theorem fn18 : fnB Tryd.prog 18 = true := by kernel_rfl
theorem fn20 : fnB Tryd.prog 20 = true := by kernel_rfl
theorem fn23 : fnB Tryd.prog 23 = true := by kernel_rfl
theorem fn27 : fnB Tryd.prog 27 = true := by kernel_rfl
theorem fn30 : fnB Tryd.prog 30 = true := by kernel_rfl
theorem fn32 : fnB Tryd.prog 32 = true := by kernel_rfl
theorem fn37 : fnB Tryd.prog 37 = true := by kernel_rfl
theorem fn38 : fnB Tryd.prog 38 = true := by kernel_rfl
theorem fn39 : fnB Tryd.prog 39 = true := by kernel_rfl
theorem fn40 : fnB Tryd.prog 40 = true := by kernel_rfl
theorem fn41 : fnB Tryd.prog 41 = true := by kernel_rfl
theorem fn42 : fnB Tryd.prog 42 = true := by kernel_rfl
theorem fn43 : fnB Tryd.prog 43 = true := by kernel_rfl
theorem fn44 : fnB Tryd.prog 44 = true := by kernel_rfl
theorem fn45 : fnB Tryd.prog 45 = true := by kernel_rfl
theorem fn46 : fnB Tryd.prog 46 = true := by kernel_rfl
theorem fn47 : fnB Tryd.prog 47 = true := by kernel_rfl
theorem fn48 : fnB Tryd.prog 48 = true := by kernel_rfl
theorem fn49 : fnB Tryd.prog 49 = true := by kernel_rfl
theorem fn50 : fnB Tryd.prog 50 = true := by kernel_rfl
theorem fn51 : fnB Tryd.prog 51 = true := by kernel_rfl
theorem fn52 : fnB Tryd.prog 52 = true := by kernel_rfl
theorem fn53 : fnB Tryd.prog 53 = true := by kernel_rfl
theorem fn54 : fnB Tryd.prog 54 = true := by kernel_rfl
theorem fn55 : fnB Tryd.prog 55 = true := by kernel_rfl
theorem fn57 : fnB Tryd.prog 57 = true := by kernel_rfl
theorem fn58 : fnB Tryd.prog 58 = true := by kernel_rfl
theorem fn59 : fnB Tryd.prog 59 = true := by kernel_rfl
theorem fn62 : fnB Tryd.prog 62 = true := by kernel_rfl
theorem fn63 : fnB Tryd.prog 63 = true := by kernel_rfl
theorem fn64 : fnB Tryd.prog 64 = true := by kernel_rfl
theorem fn67 : fnB Tryd.prog 67 = true := by kernel_rfl
theorem fn68 : fnB Tryd.prog 68 = true := by kernel_rfl
theorem fn71 : fnB Tryd.prog 71 = true := by kernel_rfl
theorem fn73 : fnB Tryd.prog 73 = true := by kernel_rfl
theorem fn77 : fnB Tryd.prog 77 = true := by kernel_rfl
theorem fn78 : fnB Tryd.prog 78 = true := by kernel_rfl
theorem fn79 : fnB Tryd.prog 79 = true := by kernel_rfl
theorem fn80 : fnB Tryd.prog 80 = true := by kernel_rfl
theorem fn81 : fnB Tryd.prog 81 = true := by kernel_rfl
theorem fn82 : fnB Tryd.prog 82 = true := by kernel_rfl
theorem fn83 : fnB Tryd.prog 83 = true := by kernel_rfl
theorem fn84 : fnB Tryd.prog 84 = true := by kernel_rfl
theorem fn85 : fnB Tryd.prog 85 = true := by kernel_rfl
theorem fn86 : fnB Tryd.prog 86 = true := by kernel_rfl
theorem fn92 : fnB Tryd.prog 92 = true := by kernel_rfl
theorem fn96 : fnB Tryd.prog 96 = true := by kernel_rfl
end Go.Proofs.YtfbdokfcebpkaaaDoor.Fx
