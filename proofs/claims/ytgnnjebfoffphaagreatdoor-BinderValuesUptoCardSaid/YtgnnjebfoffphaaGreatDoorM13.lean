import Derived.Test.YtgnnjebfoffphaaGreatDoorM12
import Derived.Lib.Join
import Derived.Shelf.Vars
import Derived.HandedShaped
import Derived.Test.YtgnnjebfoffphaaGreatDoorProg
set_option linter.unusedVariables false
namespace Go.Proofs.YtgnnjebfoffphaaGreatDoor.E
open Go.RowKit
variable {P : Program} {f : FuncId}
theorem TabW.int {w : World} (h : TabW w) {g : Nat} (hg : TAB g = some fun a => ∃ m, a = #[.int .i64 m]) : ∃ m, w.cell? ⟨g, 0, none⟩ = some (.int .i64 m) := by
  obtain ⟨_, ty, fl, e, m, rfl⟩ := h g _ hg
  exact ⟨m, by simp [World.cell?, e]⟩
theorem Pure.of_tab (us : List Value) {v : Value} {x : X} (h : ∀ w, TabW w → Calls P f us.toArray w fun e w' => e = .returned v ∧ w' = w) (hx : ∀ c, RepX c x v) : Pure P f (us.map vC) x := by
  intro H c w vs hc hr
  have h1 := reps_vals hr
  have h2 : vs = us.toArray := by rw [← h1]
  rw [h2]
  refine (h w hc.tabw).mono ?_
  rintro e w' ⟨rfl, rfl⟩
  exact ⟨v, x, H, c, rfl, ⟨rfl, rfl⟩, hx c, hc, Ext.refl _ _ _⟩
abbrev txT (x : ByteArray) : List T := [.v (.string x)]
theorem openBlock {P : Program} {w : World} {g : Nat} {t : TypeId} {zero : Array Value} {k : IntKind}
    (h : w.ShapedOpen P) (hg : g < P.globals.size)
    (h0 : ((begin P (fun _ _ => 0) default).world.heap[g]?).bind Obj.row? = some (zero, t)) (hz : zero.size = 1)
    (hb : P.buildable t = true) (hc : P.cellTypes P.depth t = some [t]) (hu : P.underlying t = some (.int k)) :
    IsT w.heap[g]? (fun a => ∃ m, a = #[.int k m]) := by
  obtain ⟨m, hm⟩ := cell_of_shapedOpen_int h hg h0 hz hb hc hu
  obtain ⟨cs, hh, hs, _⟩ := h.1 g zero t hg h0
  have h1 : 0 < cs.size := by omega
  have h2 : cs[0] = .int k m := by
    have := hm
    simp only [World.cell?, hh] at this
    simpa [h1] using this
  refine ⟨cs, t, _, hh, m, ?_⟩
  apply Array.ext
  · simp; omega
  · intro i hi hi'
    have : i = 0 := by omega
    subst this
    simpa using h2
theorem tab2_of {P : Program} {w : World} {name : String} {g g0 : Nat} {k k0 : IntKind} {zs : List Int} (h : Lib.TabIs P w name k zs) (hg : P.globalNamed name = some g)
    (h0 : IsT w.heap[g0]? (fun a => ∃ m, a = #[.int k0 m]))
    (hT : ∀ g' q, TAB g' = some q → (g' = g0 ∧ q = fun a => ∃ m, a = #[.int k0 m]) ∨ (g' = g ∧ q = (· = (zs.map fun z => Value.int k z).toArray))) : TabW w := fun g' q hc => by
  rcases hT g' q hc with ⟨rfl, rfl⟩ | ⟨rfl, rfl⟩
  · exact h0
  · unfold Lib.TabIs World.var? at h
    rw [hg] at h
    simp only [Option.bind_some] at h
    split at h
    · rename_i cs' ty fl e
      injection h with h
      subst h
      exact ⟨_, ty, fl, e, rfl⟩
    · cases h
end Go.Proofs.YtgnnjebfoffphaaGreatDoor.E
namespace Go.Proofs.YtgnnjebfoffphaaGreatDoor.Fx
open Go.Proofs.YtgnnjebfoffphaaGreatDoor.E
theorem mo : Tryz.prog.follows .mixedOrders = true := by kernel_rfl
theorem ty2 : tyB Tryz.prog 2 false 1 = true := by kernel_rfl
theorem un2 : Tryz.prog.underlying 2 = some (.int .i64) := by kernel_rfl
theorem ty3 : tyB Tryz.prog 3 false 1 = true := by kernel_rfl
theorem ze3 : zeroIs Tryz.prog 3 (.int .i64 0) := (by kernel_rfl : (Tryz.prog.info? 3).bind (·.zero) = some (.int .i64 0))
theorem ty4 : tyB Tryz.prog 4 false 1 = true := by kernel_rfl
theorem un4 : Tryz.prog.underlying 4 = some .bool := by kernel_rfl
theorem un5 : Tryz.prog.underlying 5 = some (.int .u8) := by kernel_rfl
theorem ty9 : tyB Tryz.prog 9 false 1 = true := by kernel_rfl
theorem un9 : Tryz.prog.underlying 9 = some .string := by kernel_rfl
theorem sl23 : slB Tryz.prog 23 72 5 = true := by kernel_rfl
theorem el23 : elB Tryz.prog 23 72 5 112 = true := by kernel_rfl
theorem un23 : Tryz.prog.underlying 23 = some (.slice 72) := by kernel_rfl
theorem ty24 : tyB Tryz.prog 24 false 1 = true := by kernel_rfl
theorem sl24 : slB Tryz.prog 24 77 6 = true := by kernel_rfl
theorem el24 : elB Tryz.prog 24 77 6 56 = true := by kernel_rfl
theorem un24 : Tryz.prog.underlying 24 = some (.slice 77) := by kernel_rfl
theorem ty25 : tyB Tryz.prog 25 false 1 = true := by kernel_rfl
theorem sl25 : slB Tryz.prog 25 51 1 = true := by kernel_rfl
theorem el25 : elB Tryz.prog 25 51 1 24 = true := by kernel_rfl
theorem un25 : Tryz.prog.underlying 25 = some (.slice 51) := by kernel_rfl
theorem ty26 : tyB Tryz.prog 26 false 1 = true := by kernel_rfl
theorem sl26 : slB Tryz.prog 26 110 3 = true := by kernel_rfl
theorem el26 : elB Tryz.prog 26 110 3 64 = true := by kernel_rfl
theorem un26 : Tryz.prog.underlying 26 = some (.slice 110) := by kernel_rfl
theorem ty27 : tyB Tryz.prog 27 false 1 = true := by kernel_rfl
theorem sl27 : slB Tryz.prog 27 37 8 = true := by kernel_rfl
theorem el27 : elB Tryz.prog 27 37 8 104 = true := by kernel_rfl
theorem un27 : Tryz.prog.underlying 27 = some (.slice 37) := by kernel_rfl
theorem ty29 : tyB Tryz.prog 29 true 4 = true := by kernel_rfl
theorem ze29 : zeroIs Tryz.prog 29 (.agg #[.slice none 0 0, .slice none 0 0, .slice none 0 0, .slice none 0 0]) := (by kernel_rfl : (Tryz.prog.info? 29).bind (·.zero) = some (.agg #[.slice none 0 0, .slice none 0 0, .slice none 0 0, .slice none 0 0]))
theorem fl29_0 : fldB Tryz.prog 29 0 0 = true := by kernel_rfl
theorem fl29_1 : fldB Tryz.prog 29 1 1 = true := by kernel_rfl
theorem fl29_2 : fldB Tryz.prog 29 2 2 = true := by kernel_rfl
theorem fl29_3 : fldB Tryz.prog 29 3 3 = true := by kernel_rfl
theorem bp29 : bplB Tryz.prog 29 [(0, 1), (1, 1), (2, 1), (3, 1)] = true := by kernel_rfl
theorem ty30 : tyB Tryz.prog 30 false 1 = true := by kernel_rfl
theorem sl30 : slB Tryz.prog 30 27 1 = true := by kernel_rfl
theorem el30 : elB Tryz.prog 30 27 1 24 = true := by kernel_rfl
theorem un30 : Tryz.prog.underlying 30 = some (.slice 27) := by kernel_rfl
theorem ty31 : tyB Tryz.prog 31 false 1 = true := by kernel_rfl
theorem sl31 : slB Tryz.prog 31 85 10 = true := by kernel_rfl
theorem el31 : elB Tryz.prog 31 85 10 128 = true := by kernel_rfl
theorem un31 : Tryz.prog.underlying 31 = some (.slice 85) := by kernel_rfl
theorem ty32 : tyB Tryz.prog 32 false 1 = true := by kernel_rfl
theorem sl32 : slB Tryz.prog 32 58 9 = true := by kernel_rfl
theorem el32 : elB Tryz.prog 32 58 9 112 = true := by kernel_rfl
theorem un32 : Tryz.prog.underlying 32 = some (.slice 58) := by kernel_rfl
theorem ty33 : tyB Tryz.prog 33 false 1 = true := by kernel_rfl
theorem sl33 : slB Tryz.prog 33 65 2 = true := by kernel_rfl
theorem el33 : elB Tryz.prog 33 65 2 32 = true := by kernel_rfl
theorem un33 : Tryz.prog.underlying 33 = some (.slice 65) := by kernel_rfl
theorem nk33 : nkB Tryz.prog 33 .sl = true := by kernel_rfl
theorem ty35 : tyB Tryz.prog 35 true 3 = true := by kernel_rfl
theorem ze35 : zeroIs Tryz.prog 35 (.agg #[.int .i64 0, .int .i64 0, .string ⟨#[]⟩]) := (by kernel_rfl : (Tryz.prog.info? 35).bind (·.zero) = some (.agg #[.int .i64 0, .int .i64 0, .string ⟨#[]⟩]))
theorem fl35_0 : fldB Tryz.prog 35 0 0 = true := by kernel_rfl
theorem fl35_1 : fldB Tryz.prog 35 1 1 = true := by kernel_rfl
theorem fl35_2 : fldB Tryz.prog 35 2 2 = true := by kernel_rfl
theorem bp35 : bplB Tryz.prog 35 [(0, 1), (1, 1), (2, 1)] = true := by kernel_rfl
theorem ty37 : tyB Tryz.prog 37 true 8 = true := by kernel_rfl
theorem ze37 : zeroIs Tryz.prog 37 (.agg #[.int .i64 0, .string ⟨#[]⟩, .string ⟨#[]⟩, .int .i64 0, .int .i64 0, .int .i64 0, .string ⟨#[]⟩, .slice none 0 0]) := (by kernel_rfl : (Tryz.prog.info? 37).bind (·.zero) = some (.agg #[.int .i64 0, .string ⟨#[]⟩, .string ⟨#[]⟩, .int .i64 0, .int .i64 0, .int .i64 0, .string ⟨#[]⟩, .slice none 0 0]))
theorem fl37_0 : fldB Tryz.prog 37 0 0 = true := by kernel_rfl
theorem fl37_1 : fldB Tryz.prog 37 1 1 = true := by kernel_rfl
theorem fl37_2 : fldB Tryz.prog 37 2 2 = true := by kernel_rfl
theorem fl37_3 : fldB Tryz.prog 37 3 3 = true := by kernel_rfl
theorem fl37_4 : fldB Tryz.prog 37 4 4 = true := by kernel_rfl
theorem fl37_5 : fldB Tryz.prog 37 5 7 = true := by kernel_rfl
theorem bp37 : bplB Tryz.prog 37 [(0, 1), (1, 1), (2, 1), (3, 1), (4, 3), (7, 1)] = true := by kernel_rfl
theorem ty38 : tyB Tryz.prog 38 false 1 = true := by kernel_rfl
theorem sl38 : slB Tryz.prog 38 131 2 = true := by kernel_rfl
theorem el38 : elB Tryz.prog 38 131 2 16 = true := by kernel_rfl
theorem un38 : Tryz.prog.underlying 38 = some (.slice 131) := by kernel_rfl
theorem nk38 : nkB Tryz.prog 38 .sl = true := by kernel_rfl
theorem ty40 : tyB Tryz.prog 40 true 22 = true := by kernel_rfl
theorem ze40 : zeroIs Tryz.prog 40 (.agg #[.int .i64 0, .string ⟨#[]⟩, .slice none 0 0, .slice none 0 0, .slice none 0 0, .slice none 0 0, .slice none 0 0, .slice none 0 0, .slice none 0 0, .slice none 0 0, .int .i64 0, .string ⟨#[]⟩, .string ⟨#[]⟩, .int .i64 0, .int .i64 0, .int .i64 0, .string ⟨#[]⟩, .slice none 0 0, .slice none 0 0, .slice none 0 0, .int .i64 0, .string ⟨#[]⟩]) := (by kernel_rfl : (Tryz.prog.info? 40).bind (·.zero) = some (.agg #[.int .i64 0, .string ⟨#[]⟩, .slice none 0 0, .slice none 0 0, .slice none 0 0, .slice none 0 0, .slice none 0 0, .slice none 0 0, .slice none 0 0, .slice none 0 0, .int .i64 0, .string ⟨#[]⟩, .string ⟨#[]⟩, .int .i64 0, .int .i64 0, .int .i64 0, .string ⟨#[]⟩, .slice none 0 0, .slice none 0 0, .slice none 0 0, .int .i64 0, .string ⟨#[]⟩]))
theorem fl40_0 : fldB Tryz.prog 40 0 0 = true := by kernel_rfl
theorem fl40_1 : fldB Tryz.prog 40 1 1 = true := by kernel_rfl
theorem fl40_2 : fldB Tryz.prog 40 2 2 = true := by kernel_rfl
theorem fl40_3 : fldB Tryz.prog 40 3 6 = true := by kernel_rfl
theorem fl40_4 : fldB Tryz.prog 40 4 7 = true := by kernel_rfl
theorem fl40_5 : fldB Tryz.prog 40 5 8 = true := by kernel_rfl
theorem fl40_6 : fldB Tryz.prog 40 6 9 = true := by kernel_rfl
theorem fl40_7 : fldB Tryz.prog 40 7 10 = true := by kernel_rfl
theorem fl40_8 : fldB Tryz.prog 40 8 18 = true := by kernel_rfl
theorem fl40_9 : fldB Tryz.prog 40 9 19 = true := by kernel_rfl
theorem fl40_10 : fldB Tryz.prog 40 10 20 = true := by kernel_rfl
theorem fl40_11 : fldB Tryz.prog 40 11 21 = true := by kernel_rfl
theorem bp40 : bplB Tryz.prog 40 [(0, 1), (1, 1), (2, 4), (6, 1), (7, 1), (8, 1), (9, 1), (10, 8), (18, 1), (19, 1), (20, 1), (21, 1)] = true := by kernel_rfl
theorem ty43 : tyB Tryz.prog 43 false 1 = true := by kernel_rfl
theorem sl43 : slB Tryz.prog 43 3 1 = true := by kernel_rfl
theorem el43 : elB Tryz.prog 43 3 1 8 = true := by kernel_rfl
theorem un43 : Tryz.prog.underlying 43 = some (.slice 3) := by kernel_rfl
theorem ty44 : tyB Tryz.prog 44 false 1 = true := by kernel_rfl
theorem sl44 : slB Tryz.prog 44 88 5 = true := by kernel_rfl
theorem el44 : elB Tryz.prog 44 88 5 40 = true := by kernel_rfl
theorem un44 : Tryz.prog.underlying 44 = some (.slice 88) := by kernel_rfl
theorem ty45 : tyB Tryz.prog 45 false 1 = true := by kernel_rfl
theorem el45 : elB Tryz.prog 45 55 1 24 = true := by kernel_rfl
theorem ty47 : tyB Tryz.prog 47 true 26 = true := by kernel_rfl
theorem ze47 : zeroIs Tryz.prog 47 (.agg #[.int .i64 0, .string ⟨#[]⟩, .slice none 0 0, .slice none 0 0, .slice none 0 0, .slice none 0 0, .slice none 0 0, .slice none 0 0, .slice none 0 0, .slice none 0 0, .int .i64 0, .string ⟨#[]⟩, .string ⟨#[]⟩, .int .i64 0, .int .i64 0, .int .i64 0, .string ⟨#[]⟩, .slice none 0 0, .slice none 0 0, .slice none 0 0, .int .i64 0, .string ⟨#[]⟩, .int .i64 0, .slice none 0 0, .slice none 0 0, .slice none 0 0]) := (by kernel_rfl : (Tryz.prog.info? 47).bind (·.zero) = some (.agg #[.int .i64 0, .string ⟨#[]⟩, .slice none 0 0, .slice none 0 0, .slice none 0 0, .slice none 0 0, .slice none 0 0, .slice none 0 0, .slice none 0 0, .slice none 0 0, .int .i64 0, .string ⟨#[]⟩, .string ⟨#[]⟩, .int .i64 0, .int .i64 0, .int .i64 0, .string ⟨#[]⟩, .slice none 0 0, .slice none 0 0, .slice none 0 0, .int .i64 0, .string ⟨#[]⟩, .int .i64 0, .slice none 0 0, .slice none 0 0, .slice none 0 0]))
theorem fl47_0 : fldB Tryz.prog 47 0 0 = true := by kernel_rfl
theorem fl47_2 : fldB Tryz.prog 47 2 23 = true := by kernel_rfl
theorem fl47_3 : fldB Tryz.prog 47 3 24 = true := by kernel_rfl
theorem fl47_4 : fldB Tryz.prog 47 4 25 = true := by kernel_rfl
theorem bp47 : bplB Tryz.prog 47 [(0, 22), (22, 1), (23, 1), (24, 1), (25, 1)] = true := by kernel_rfl
theorem ty51 : tyB Tryz.prog 51 false 1 = true := by kernel_rfl
theorem sl51 : slB Tryz.prog 51 9 1 = true := by kernel_rfl
theorem el51 : elB Tryz.prog 51 9 1 16 = true := by kernel_rfl
theorem un51 : Tryz.prog.underlying 51 = some (.slice 9) := by kernel_rfl
theorem sl54 : slB Tryz.prog 54 35 3 = true := by kernel_rfl
theorem el54 : elB Tryz.prog 54 35 3 32 = true := by kernel_rfl
theorem sl55 : slB Tryz.prog 55 35 3 = true := by kernel_rfl
theorem el55 : elB Tryz.prog 55 35 3 32 = true := by kernel_rfl
theorem un55 : Tryz.prog.underlying 55 = some (.slice 35) := by kernel_rfl
theorem ty58 : tyB Tryz.prog 58 true 9 = true := by kernel_rfl
theorem ze58 : zeroIs Tryz.prog 58 (.agg #[.int .i64 0, .int .i64 0, .string ⟨#[]⟩, .string ⟨#[]⟩, .int .i64 0, .int .i64 0, .int .i64 0, .string ⟨#[]⟩, .slice none 0 0]) := (by kernel_rfl : (Tryz.prog.info? 58).bind (·.zero) = some (.agg #[.int .i64 0, .int .i64 0, .string ⟨#[]⟩, .string ⟨#[]⟩, .int .i64 0, .int .i64 0, .int .i64 0, .string ⟨#[]⟩, .slice none 0 0]))
theorem fl58_0 : fldB Tryz.prog 58 0 0 = true := by kernel_rfl
theorem fl58_1 : fldB Tryz.prog 58 1 1 = true := by kernel_rfl
theorem bp58 : bplB Tryz.prog 58 [(0, 1), (1, 8)] = true := by kernel_rfl
theorem ty65 : tyB Tryz.prog 65 true 2 = true := by kernel_rfl
theorem ze65 : zeroIs Tryz.prog 65 (.agg #[.string ⟨#[]⟩, .string ⟨#[]⟩]) := (by kernel_rfl : (Tryz.prog.info? 65).bind (·.zero) = some (.agg #[.string ⟨#[]⟩, .string ⟨#[]⟩]))
theorem fl65_0 : fldB Tryz.prog 65 0 0 = true := by kernel_rfl
theorem fl65_1 : fldB Tryz.prog 65 1 1 = true := by kernel_rfl
theorem bp65 : bplB Tryz.prog 65 [(0, 1), (1, 1)] = true := by kernel_rfl
theorem ty69 : tyB Tryz.prog 69 false 1 = true := by kernel_rfl
theorem sl69 : slB Tryz.prog 69 43 1 = true := by kernel_rfl
theorem el69 : elB Tryz.prog 69 43 1 24 = true := by kernel_rfl
theorem un69 : Tryz.prog.underlying 69 = some (.slice 43) := by kernel_rfl
theorem ty70 : tyB Tryz.prog 70 false 1 = true := by kernel_rfl
theorem sl70 : slB Tryz.prog 70 101 3 = true := by kernel_rfl
theorem el70 : elB Tryz.prog 70 101 3 40 = true := by kernel_rfl
theorem un70 : Tryz.prog.underlying 70 = some (.slice 101) := by kernel_rfl
theorem ty72 : tyB Tryz.prog 72 true 5 = true := by kernel_rfl
theorem ze72 : zeroIs Tryz.prog 72 (.agg #[.string ⟨#[]⟩, .slice none 0 0, .slice none 0 0, .slice none 0 0, .slice none 0 0]) := (by kernel_rfl : (Tryz.prog.info? 72).bind (·.zero) = some (.agg #[.string ⟨#[]⟩, .slice none 0 0, .slice none 0 0, .slice none 0 0, .slice none 0 0]))
theorem fl72_0 : fldB Tryz.prog 72 0 0 = true := by kernel_rfl
theorem fl72_1 : fldB Tryz.prog 72 1 1 = true := by kernel_rfl
theorem fl72_2 : fldB Tryz.prog 72 2 2 = true := by kernel_rfl
theorem fl72_3 : fldB Tryz.prog 72 3 3 = true := by kernel_rfl
theorem fl72_4 : fldB Tryz.prog 72 4 4 = true := by kernel_rfl
theorem bp72 : bplB Tryz.prog 72 [(0, 1), (1, 1), (2, 1), (3, 1), (4, 1)] = true := by kernel_rfl
theorem ty77 : tyB Tryz.prog 77 true 6 = true := by kernel_rfl
theorem ze77 : zeroIs Tryz.prog 77 (.agg #[.string ⟨#[]⟩, .int .i64 0, .int .i64 0, .int .i64 0, .int .i64 0, .bool false]) := (by kernel_rfl : (Tryz.prog.info? 77).bind (·.zero) = some (.agg #[.string ⟨#[]⟩, .int .i64 0, .int .i64 0, .int .i64 0, .int .i64 0, .bool false]))
theorem fl77_0 : fldB Tryz.prog 77 0 0 = true := by kernel_rfl
theorem fl77_1 : fldB Tryz.prog 77 1 1 = true := by kernel_rfl
theorem fl77_2 : fldB Tryz.prog 77 2 2 = true := by kernel_rfl
theorem fl77_3 : fldB Tryz.prog 77 3 3 = true := by kernel_rfl
theorem fl77_4 : fldB Tryz.prog 77 4 4 = true := by kernel_rfl
theorem fl77_5 : fldB Tryz.prog 77 5 5 = true := by kernel_rfl
theorem bp77 : bplB Tryz.prog 77 [(0, 1), (1, 1), (2, 1), (3, 1), (4, 1), (5, 1)] = true := by kernel_rfl
theorem ty85 : tyB Tryz.prog 85 true 10 = true := by kernel_rfl
theorem ze85 : zeroIs Tryz.prog 85 (.agg #[.string ⟨#[]⟩, .int .i64 0, .int .i64 0, .string ⟨#[]⟩, .string ⟨#[]⟩, .int .i64 0, .int .i64 0, .int .i64 0, .string ⟨#[]⟩, .slice none 0 0]) := (by kernel_rfl : (Tryz.prog.info? 85).bind (·.zero) = some (.agg #[.string ⟨#[]⟩, .int .i64 0, .int .i64 0, .string ⟨#[]⟩, .string ⟨#[]⟩, .int .i64 0, .int .i64 0, .int .i64 0, .string ⟨#[]⟩, .slice none 0 0]))
theorem fl85_0 : fldB Tryz.prog 85 0 0 = true := by kernel_rfl
theorem fl85_1 : fldB Tryz.prog 85 1 1 = true := by kernel_rfl
theorem fl85_2 : fldB Tryz.prog 85 2 2 = true := by kernel_rfl
theorem bp85 : bplB Tryz.prog 85 [(0, 1), (1, 1), (2, 8)] = true := by kernel_rfl
theorem ze88 : zeroIs Tryz.prog 88 (.agg #[.int .i64 0, .int .i64 0, .int .i64 0, .int .i64 0, .bool false]) := (by kernel_rfl : (Tryz.prog.info? 88).bind (·.zero) = some (.agg #[.int .i64 0, .int .i64 0, .int .i64 0, .int .i64 0, .bool false]))
theorem fl88_0 : fldB Tryz.prog 88 0 0 = true := by kernel_rfl
theorem bp88 : bplB Tryz.prog 88 [(0, 1), (1, 1), (2, 1), (3, 1), (4, 1)] = true := by kernel_rfl
theorem ty90 : tyB Tryz.prog 90 false 1 = true := by kernel_rfl
theorem sl90 : slB Tryz.prog 90 143 7 = true := by kernel_rfl
theorem el90 : elB Tryz.prog 90 143 7 136 = true := by kernel_rfl
theorem un90 : Tryz.prog.underlying 90 = some (.slice 143) := by kernel_rfl
theorem ty92 : tyB Tryz.prog 92 true 3 = true := by kernel_rfl
theorem ze92 : zeroIs Tryz.prog 92 (.agg #[.slice none 0 0, .slice none 0 0, .bool false]) := (by kernel_rfl : (Tryz.prog.info? 92).bind (·.zero) = some (.agg #[.slice none 0 0, .slice none 0 0, .bool false]))
theorem fl92_0 : fldB Tryz.prog 92 0 0 = true := by kernel_rfl
theorem fl92_1 : fldB Tryz.prog 92 1 1 = true := by kernel_rfl
theorem fl92_2 : fldB Tryz.prog 92 2 2 = true := by kernel_rfl
theorem bp92 : bplB Tryz.prog 92 [(0, 1), (1, 1), (2, 1)] = true := by kernel_rfl
theorem sl98 : slB Tryz.prog 98 40 22 = true := by kernel_rfl
theorem el98 : elB Tryz.prog 98 40 22 392 = true := by kernel_rfl
theorem un98 : Tryz.prog.underlying 98 = some (.slice 40) := by kernel_rfl
theorem ty101 : tyB Tryz.prog 101 true 3 = true := by kernel_rfl
theorem ze101 : zeroIs Tryz.prog 101 (.agg #[.slice none 0 0, .int .i64 0, .int .i64 0]) := (by kernel_rfl : (Tryz.prog.info? 101).bind (·.zero) = some (.agg #[.slice none 0 0, .int .i64 0, .int .i64 0]))
theorem fl101_0 : fldB Tryz.prog 101 0 0 = true := by kernel_rfl
theorem fl101_1 : fldB Tryz.prog 101 1 1 = true := by kernel_rfl
theorem fl101_2 : fldB Tryz.prog 101 2 2 = true := by kernel_rfl
theorem bp101 : bplB Tryz.prog 101 [(0, 1), (1, 1), (2, 1)] = true := by kernel_rfl
theorem ty110 : tyB Tryz.prog 110 true 3 = true := by kernel_rfl
theorem ze110 : zeroIs Tryz.prog 110 (.agg #[.slice none 0 0, .string ⟨#[]⟩, .slice none 0 0]) := (by kernel_rfl : (Tryz.prog.info? 110).bind (·.zero) = some (.agg #[.slice none 0 0, .string ⟨#[]⟩, .slice none 0 0]))
theorem fl110_0 : fldB Tryz.prog 110 0 0 = true := by kernel_rfl
theorem fl110_1 : fldB Tryz.prog 110 1 1 = true := by kernel_rfl
theorem fl110_2 : fldB Tryz.prog 110 2 2 = true := by kernel_rfl
theorem bp110 : bplB Tryz.prog 110 [(0, 1), (1, 1), (2, 1)] = true := by kernel_rfl
theorem ty131 : tyB Tryz.prog 131 true 2 = true := by kernel_rfl
theorem fl131_0 : fldB Tryz.prog 131 0 0 = true := by kernel_rfl
theorem fl131_1 : fldB Tryz.prog 131 1 1 = true := by kernel_rfl
theorem ty132 : tyB Tryz.prog 132 false 1 = true := by kernel_rfl
theorem ty143 : tyB Tryz.prog 143 true 7 = true := by kernel_rfl
theorem ze143 : zeroIs Tryz.prog 143 (.agg #[.string ⟨#[]⟩, .string ⟨#[]⟩, .slice none 0 0, .slice none 0 0, .slice none 0 0, .slice none 0 0, .int .i64 0]) := (by kernel_rfl : (Tryz.prog.info? 143).bind (·.zero) = some (.agg #[.string ⟨#[]⟩, .string ⟨#[]⟩, .slice none 0 0, .slice none 0 0, .slice none 0 0, .slice none 0 0, .int .i64 0]))
theorem fl143_0 : fldB Tryz.prog 143 0 0 = true := by kernel_rfl
theorem fl143_1 : fldB Tryz.prog 143 1 1 = true := by kernel_rfl
theorem fl143_2 : fldB Tryz.prog 143 2 6 = true := by kernel_rfl
theorem bp143 : bplB Tryz.prog 143 [(0, 1), (1, 5), (6, 1)] = true := by kernel_rfl
theorem ty179 : tyB Tryz.prog 179 false 1 = true := by kernel_rfl
theorem ze179 : zeroIs Tryz.prog 179 (.nilFunc) := (by kernel_rfl : (Tryz.prog.info? 179).bind (·.zero) = some (.nilFunc))
theorem ty197 : tyB Tryz.prog 197 false 1 = true := by kernel_rfl
theorem sl197 : slB Tryz.prog 197 219 5 = true := by kernel_rfl
theorem el197 : elB Tryz.prog 197 219 5 56 = true := by kernel_rfl
theorem un197 : Tryz.prog.underlying 197 = some (.slice 219) := by kernel_rfl
theorem nk197 : nkB Tryz.prog 197 .sl = true := by kernel_rfl
theorem ty199 : tyB Tryz.prog 199 true 2 = true := by kernel_rfl
theorem ze199 : zeroIs Tryz.prog 199 (.agg #[.int .i64 0, .slice none 0 0]) := (by kernel_rfl : (Tryz.prog.info? 199).bind (·.zero) = some (.agg #[.int .i64 0, .slice none 0 0]))
theorem fl199_0 : fldB Tryz.prog 199 0 0 = true := by kernel_rfl
theorem fl199_1 : fldB Tryz.prog 199 1 1 = true := by kernel_rfl
theorem bp199 : bplB Tryz.prog 199 [(0, 1), (1, 1)] = true := by kernel_rfl
theorem el204 : elB Tryz.prog 204 5 1 1 = true := by kernel_rfl
theorem un204 : Tryz.prog.underlying 204 = some (.slice 5) := by kernel_rfl
theorem ty217 : tyB Tryz.prog 217 false 1 = true := by kernel_rfl
theorem sl217 : slB Tryz.prog 217 199 2 = true := by kernel_rfl
theorem el217 : elB Tryz.prog 217 199 2 32 = true := by kernel_rfl
theorem un217 : Tryz.prog.underlying 217 = some (.slice 199) := by kernel_rfl
theorem ty219 : tyB Tryz.prog 219 true 5 = true := by kernel_rfl
theorem ze219 : zeroIs Tryz.prog 219 (.agg #[.int .i64 0, .int .i64 0, .int .i64 0, .int .i64 0, .slice none 0 0]) := (by kernel_rfl : (Tryz.prog.info? 219).bind (·.zero) = some (.agg #[.int .i64 0, .int .i64 0, .int .i64 0, .int .i64 0, .slice none 0 0]))
theorem fl219_0 : fldB Tryz.prog 219 0 0 = true := by kernel_rfl
theorem fl219_1 : fldB Tryz.prog 219 1 1 = true := by kernel_rfl
theorem fl219_2 : fldB Tryz.prog 219 2 2 = true := by kernel_rfl
theorem fl219_3 : fldB Tryz.prog 219 3 3 = true := by kernel_rfl
theorem fl219_4 : fldB Tryz.prog 219 4 4 = true := by kernel_rfl
theorem bp219 : bplB Tryz.prog 219 [(0, 1), (1, 1), (2, 1), (3, 1), (4, 1)] = true := by kernel_rfl
theorem un232 : Tryz.prog.underlying 232 = some (.int .u64) := by kernel_rfl
theorem fn6 : fnB Tryz.prog 6 = true := by kernel_rfl
theorem fn7 : fnB Tryz.prog 7 = true := by kernel_rfl
theorem fn9 : fnB Tryz.prog 9 = true := by kernel_rfl
theorem fn11 : fnB Tryz.prog 11 = true := by kernel_rfl
theorem fn13 : fnB Tryz.prog 13 = true := by kernel_rfl
theorem fn14 : fnB Tryz.prog 14 = true := by kernel_rfl
theorem fn15 : fnB Tryz.prog 15 = true := by kernel_rfl
theorem fn16 : fnB Tryz.prog 16 = true := by kernel_rfl
theorem fn17 : fnB Tryz.prog 17 = true := by kernel_rfl
theorem fn18 : fnB Tryz.prog 18 = true := by kernel_rfl
theorem fn19 : fnB Tryz.prog 19 = true := by kernel_rfl
theorem fn20 : fnB Tryz.prog 20 = true := by kernel_rfl
theorem fn21 : fnB Tryz.prog 21 = true := by kernel_rfl
theorem fn22 : fnB Tryz.prog 22 = true := by kernel_rfl
theorem fn26 : fnB Tryz.prog 26 = true := by kernel_rfl
theorem fn28 : fnB Tryz.prog 28 = true := by kernel_rfl
theorem fn29 : fnB Tryz.prog 29 = true := by kernel_rfl
theorem fn34 : fnB Tryz.prog 34 = true := by kernel_rfl
theorem fn35 : fnB Tryz.prog 35 = true := by kernel_rfl
theorem fn36 : fnB Tryz.prog 36 = true := by kernel_rfl
theorem fn37 : fnB Tryz.prog 37 = true := by kernel_rfl
theorem fn38 : fnB Tryz.prog 38 = true := by kernel_rfl
theorem fn39 : fnB Tryz.prog 39 = true := by kernel_rfl
theorem fn40 : fnB Tryz.prog 40 = true := by kernel_rfl
theorem fn41 : fnB Tryz.prog 41 = true := by kernel_rfl
theorem fn42 : fnB Tryz.prog 42 = true := by kernel_rfl
theorem fn43 : fnB Tryz.prog 43 = true := by kernel_rfl
theorem fn44 : fnB Tryz.prog 44 = true := by kernel_rfl
theorem fn45 : fnB Tryz.prog 45 = true := by kernel_rfl
theorem fn46 : fnB Tryz.prog 46 = true := by kernel_rfl
theorem fn47 : fnB Tryz.prog 47 = true := by kernel_rfl
theorem fn48 : fnB Tryz.prog 48 = true := by kernel_rfl
theorem fn49 : fnB Tryz.prog 49 = true := by kernel_rfl
theorem fn50 : fnB Tryz.prog 50 = true := by kernel_rfl
theorem fn54 : fnB Tryz.prog 54 = true := by kernel_rfl
theorem fn59 : fnB Tryz.prog 59 = true := by kernel_rfl
theorem fn60 : fnB Tryz.prog 60 = true := by kernel_rfl
theorem fn62 : fnB Tryz.prog 62 = true := by kernel_rfl
theorem fn63 : fnB Tryz.prog 63 = true := by kernel_rfl
theorem fn64 : fnB Tryz.prog 64 = true := by kernel_rfl
theorem fn65 : fnB Tryz.prog 65 = true := by kernel_rfl
theorem fn66 : fnB Tryz.prog 66 = true := by kernel_rfl
theorem fn67 : fnB Tryz.prog 67 = true := by kernel_rfl
theorem fn68 : fnB Tryz.prog 68 = true := by kernel_rfl
theorem fn69 : fnB Tryz.prog 69 = true := by kernel_rfl
theorem fn70 : fnB Tryz.prog 70 = true := by kernel_rfl
theorem fn71 : fnB Tryz.prog 71 = true := by kernel_rfl
theorem fn72 : fnB Tryz.prog 72 = true := by kernel_rfl
theorem fn73 : fnB Tryz.prog 73 = true := by kernel_rfl
theorem fn74 : fnB Tryz.prog 74 = true := by kernel_rfl
theorem fn75 : fnB Tryz.prog 75 = true := by kernel_rfl
theorem fn79 : fnB Tryz.prog 79 = true := by kernel_rfl
theorem fn80 : fnB Tryz.prog 80 = true := by kernel_rfl
theorem fn81 : fnB Tryz.prog 81 = true := by kernel_rfl
theorem fn82 : fnB Tryz.prog 82 = true := by kernel_rfl
theorem fn83 : fnB Tryz.prog 83 = true := by kernel_rfl
theorem fn84 : fnB Tryz.prog 84 = true := by kernel_rfl
theorem fn85 : fnB Tryz.prog 85 = true := by kernel_rfl
theorem fn86 : fnB Tryz.prog 86 = true := by kernel_rfl
theorem fn87 : fnB Tryz.prog 87 = true := by kernel_rfl
theorem fn88 : fnB Tryz.prog 88 = true := by kernel_rfl
theorem fn89 : fnB Tryz.prog 89 = true := by kernel_rfl
theorem fn90 : fnB Tryz.prog 90 = true := by kernel_rfl
theorem fn91 : fnB Tryz.prog 91 = true := by kernel_rfl
theorem fn92 : fnB Tryz.prog 92 = true := by kernel_rfl
theorem fn93 : fnB Tryz.prog 93 = true := by kernel_rfl
theorem fn94 : fnB Tryz.prog 94 = true := by kernel_rfl
theorem fn95 : fnB Tryz.prog 95 = true := by kernel_rfl
theorem fn96 : fnB Tryz.prog 96 = true := by kernel_rfl
theorem fn97 : fnB Tryz.prog 97 = true := by kernel_rfl
theorem fn98 : fnB Tryz.prog 98 = true := by kernel_rfl
theorem fn102 : fnB Tryz.prog 102 = true := by kernel_rfl
theorem fn103 : fnB Tryz.prog 103 = true := by kernel_rfl
theorem fn104 : fnB Tryz.prog 104 = true := by kernel_rfl
theorem fn105 : fnB Tryz.prog 105 = true := by kernel_rfl
theorem fn106 : fnB Tryz.prog 106 = true := by kernel_rfl
theorem fn107 : fnB Tryz.prog 107 = true := by kernel_rfl
theorem fn108 : fnB Tryz.prog 108 = true := by kernel_rfl
theorem fn109 : fnB Tryz.prog 109 = true := by kernel_rfl
theorem fn110 : fnB Tryz.prog 110 = true := by kernel_rfl
theorem fn111 : fnB Tryz.prog 111 = true := by kernel_rfl
theorem fn112 : fnB Tryz.prog 112 = true := by kernel_rfl
theorem fn113 : fnB Tryz.prog 113 = true := by kernel_rfl
theorem fn114 : fnB Tryz.prog 114 = true := by kernel_rfl
theorem fn115 : fnB Tryz.prog 115 = true := by kernel_rfl
theorem fn116 : fnB Tryz.prog 116 = true := by kernel_rfl
theorem fn117 : fnB Tryz.prog 117 = true := by kernel_rfl
theorem fn118 : fnB Tryz.prog 118 = true := by kernel_rfl
theorem fn119 : fnB Tryz.prog 119 = true := by kernel_rfl
theorem fn120 : fnB Tryz.prog 120 = true := by kernel_rfl
theorem fn121 : fnB Tryz.prog 121 = true := by kernel_rfl
theorem fn122 : fnB Tryz.prog 122 = true := by kernel_rfl
theorem fn124 : fnB Tryz.prog 124 = true := by kernel_rfl
theorem fn125 : fnB Tryz.prog 125 = true := by kernel_rfl
theorem fn126 : fnB Tryz.prog 126 = true := by kernel_rfl
theorem fn127 : fnB Tryz.prog 127 = true := by kernel_rfl
theorem fn128 : fnB Tryz.prog 128 = true := by kernel_rfl
theorem fn129 : fnB Tryz.prog 129 = true := by kernel_rfl
theorem fn130 : fnB Tryz.prog 130 = true := by kernel_rfl
theorem fn131 : fnB Tryz.prog 131 = true := by kernel_rfl
theorem fn132 : fnB Tryz.prog 132 = true := by kernel_rfl
theorem fn133 : fnB Tryz.prog 133 = true := by kernel_rfl
theorem fn134 : fnB Tryz.prog 134 = true := by kernel_rfl
theorem fn135 : fnB Tryz.prog 135 = true := by kernel_rfl
theorem fn136 : fnB Tryz.prog 136 = true := by kernel_rfl
theorem fn137 : fnB Tryz.prog 137 = true := by kernel_rfl
theorem fn138 : fnB Tryz.prog 138 = true := by kernel_rfl
theorem fn139 : fnB Tryz.prog 139 = true := by kernel_rfl
theorem fn140 : fnB Tryz.prog 140 = true := by kernel_rfl
theorem fn145 : fnB Tryz.prog 145 = true := by kernel_rfl
theorem fn146 : fnB Tryz.prog 146 = true := by kernel_rfl
theorem fn147 : fnB Tryz.prog 147 = true := by kernel_rfl
theorem fn148 : fnB Tryz.prog 148 = true := by kernel_rfl
theorem fn149 : fnB Tryz.prog 149 = true := by kernel_rfl
theorem fn150 : fnB Tryz.prog 150 = true := by kernel_rfl
theorem fn151 : fnB Tryz.prog 151 = true := by kernel_rfl
theorem fn152 : fnB Tryz.prog 152 = true := by kernel_rfl
theorem fn153 : fnB Tryz.prog 153 = true := by kernel_rfl
theorem fn154 : fnB Tryz.prog 154 = true := by kernel_rfl
theorem fn155 : fnB Tryz.prog 155 = true := by kernel_rfl
theorem fn156 : fnB Tryz.prog 156 = true := by kernel_rfl
theorem fn157 : fnB Tryz.prog 157 = true := by kernel_rfl
theorem fn158 : fnB Tryz.prog 158 = true := by kernel_rfl
theorem fn159 : fnB Tryz.prog 159 = true := by kernel_rfl
theorem fn160 : fnB Tryz.prog 160 = true := by kernel_rfl
theorem fn161 : fnB Tryz.prog 161 = true := by kernel_rfl
theorem fn162 : fnB Tryz.prog 162 = true := by kernel_rfl
theorem fn163 : fnB Tryz.prog 163 = true := by kernel_rfl
theorem fn168 : fnB Tryz.prog 168 = true := by kernel_rfl
theorem fn169 : fnB Tryz.prog 169 = true := by kernel_rfl
theorem fn170 : fnB Tryz.prog 170 = true := by kernel_rfl
theorem fn171 : fnB Tryz.prog 171 = true := by kernel_rfl
theorem fn172 : fnB Tryz.prog 172 = true := by kernel_rfl
theorem fn173 : fnB Tryz.prog 173 = true := by kernel_rfl
theorem fn177 : fnB Tryz.prog 177 = true := by kernel_rfl
theorem fn178 : fnB Tryz.prog 178 = true := by kernel_rfl
theorem fn179 : fnB Tryz.prog 179 = true := by kernel_rfl
theorem fn180 : fnB Tryz.prog 180 = true := by kernel_rfl
theorem fn181 : fnB Tryz.prog 181 = true := by kernel_rfl
theorem fn182 : fnB Tryz.prog 182 = true := by kernel_rfl
theorem fn183 : fnB Tryz.prog 183 = true := by kernel_rfl
theorem fn189 : fnB Tryz.prog 189 = true := by kernel_rfl
theorem fn194 : fnB Tryz.prog 194 = true := by kernel_rfl
theorem fn195 : fnB Tryz.prog 195 = true := by kernel_rfl
theorem fn196 : fnB Tryz.prog 196 = true := by kernel_rfl
theorem fn197 : fnB Tryz.prog 197 = true := by kernel_rfl
theorem fn198 : fnB Tryz.prog 198 = true := by kernel_rfl
theorem fn199 : fnB Tryz.prog 199 = true := by kernel_rfl
theorem fn200 : fnB Tryz.prog 200 = true := by kernel_rfl
theorem fn212 : fnB Tryz.prog 212 = true := by kernel_rfl
theorem fn213 : fnB Tryz.prog 213 = true := by kernel_rfl
theorem fn214 : fnB Tryz.prog 214 = true := by kernel_rfl
theorem fn215 : fnB Tryz.prog 215 = true := by kernel_rfl
theorem fn216 : fnB Tryz.prog 216 = true := by kernel_rfl
theorem fn228 : fnB Tryz.prog 228 = true := by kernel_rfl
theorem fn229 : fnB Tryz.prog 229 = true := by kernel_rfl
theorem fn230 : fnB Tryz.prog 230 = true := by kernel_rfl
theorem fn231 : fnB Tryz.prog 231 = true := by kernel_rfl
theorem fn232 : fnB Tryz.prog 232 = true := by kernel_rfl
theorem fn246 : fnB Tryz.prog 246 = true := by kernel_rfl
theorem fn247 : fnB Tryz.prog 247 = true := by kernel_rfl
theorem fn248 : fnB Tryz.prog 248 = true := by kernel_rfl
end Go.Proofs.YtgnnjebfoffphaaGreatDoor.Fx
