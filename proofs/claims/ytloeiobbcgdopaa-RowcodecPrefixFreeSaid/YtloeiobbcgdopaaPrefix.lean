/- RowcodecPrefixFree: no encoding is a proper prefix of another one. The walk. -/
import Derived.Test.YtloeiobbcgdopaaAwake
import Derived.Test.YtloeiobbcgdopaaShelf
import Derived.Test.YtloeiobbcgdopaaPlain1
import Derived.Test.YtloeiobbcgdopaaFrame
import Derived.Deep.RegionHeld3
import Derived.Deep.RegionWith
import Derived.Deep.DeepCutAuto
namespace Go.Proofs.Ytloeiobbcgdopaa.Pf
open Go.RowKit L

/-- what is asked of the two encodings: equal, or neither begins with the other -/
def Apart (A B : List UInt8) : Prop := ¬ A = B ∧ Lib.hasPrefix A B = false ∧ Lib.hasPrefix B A = false
theorem has_no {A B : List UInt8} (h : Lib.hasPrefix A B = false) (w : World) : Calls Try.prog 13 #[.string ⟨A.toArray⟩, .string ⟨B.toArray⟩] w fun e w' => e = .returned (.bool false) ∧ w = w' :=
  (Try.strings_HasPrefix ⟨A.toArray⟩ ⟨B.toArray⟩ w).mono fun e w' ⟨h1, h2⟩ => ⟨by rw [h1]; simp [h], h2.symm⟩

def EncIs (k n : Int) (t : ByteArray) (A : List UInt8) : Prop := ∀ W : World, Calls Try.prog 12 #[.agg #[.int .i64 k, .int .i64 n, .string t]] W fun e w' => ∃ v', e = .returned v' ∧ RdB w' v' A ∧ Below W.heap.size W w'

set_option maxHeartbeats 1000000 in
theorem walkShort (k n : Int) (t : ByteArray) (k' n' : Int) (t' : ByteArray) (w : World) (A B : List UInt8) (hs : t.size ≤ 300) (hs' : t'.size ≤ 300)
    (hA : EncIs k n t A) (hB : EncIs k' n' t' B) (hAB : A = B ∨ Apart A B) :
    Calls Try.prog 3 #[.agg #[.int .i64 k, .int .i64 n, .string t], .agg #[.int .i64 k', .int .i64 n', .string t']] w fun e w' => e = .returned (.bool true) ∧ Below w.heap.size w w' := by
  go_enter Try.func3, Try.ntmps3
  go_wp2_with (go_at_call 11; refine (Aw.awake_any _).mono ?_; rintro e w1 ⟨rfl, hb1⟩; have hc1 := bcell hb1)
  have c0 : w1.cell? ⟨w.heap.size, 0, none⟩ = some (.int .i64 k) := by rw [hc1 _ _ (by simp; omega), World.cell?_alloc_past _ _ _ (by simp), World.cell?_alloc_at _ _ _ _ rfl]; rfl
  have c1 : w1.cell? ⟨w.heap.size, 1, none⟩ = some (.int .i64 n) := by rw [hc1 _ _ (by simp; omega), World.cell?_alloc_past _ _ _ (by simp), World.cell?_alloc_at _ _ _ _ rfl]; rfl
  have c2 : w1.cell? ⟨w.heap.size, 2, none⟩ = some (.string t) := by rw [hc1 _ _ (by simp; omega), World.cell?_alloc_past _ _ _ (by simp), World.cell?_alloc_at _ _ _ _ rfl]; rfl
  have d0 : w1.cell? ⟨w.heap.size + 1, 0, none⟩ = some (.int .i64 k') := by rw [hc1 _ _ (by simp), World.cell?_alloc_at _ _ _ _ (by simp)]; rfl
  have d1 : w1.cell? ⟨w.heap.size + 1, 1, none⟩ = some (.int .i64 n') := by rw [hc1 _ _ (by simp), World.cell?_alloc_at _ _ _ _ (by simp)]; rfl
  have d2 : w1.cell? ⟨w.heap.size + 1, 2, none⟩ = some (.string t') := by rw [hc1 _ _ (by simp), World.cell?_alloc_at _ _ _ _ (by simp)]; rfl
  clear hc1
  have HB1 : Below w.heap.size w w1 := ((below_new w _).trans ((below_new _ _).mono (by simp))).trans (hb1.mono (by simp; omega))
  clear hb1
  go_cut [5, 6] (fun a b W => a = .string ⟨A.toArray⟩ ∧ b = .string ⟨B.toArray⟩ ∧ Below w.heap.size w W)
  case first =>
    go_region_with (first
      | (go_at_call_of 12 (Value.string t); refine (hA _).mono ?_; rintro e w2 ⟨v2, rfl, hr2, hb2⟩; have hcv := run_conv_bs (P := Try.prog) w2 25 9 5 v2 A Try.underlying25 Try.underlying5 Try.underlying9 hr2; have e0 := Keep.of_below hb2 _ _ d0; have e1 := Keep.of_below hb2 _ _ d1; have e2 := Keep.of_below hb2 _ _ d2)
      | (go_at_call_of 12 (Value.string t'); refine (hB _).mono ?_; rintro e w3 ⟨v3, rfl, hr3, hb3⟩; have hcw := run_conv_bs (P := Try.prog) w3 25 9 5 v3 B Try.underlying25 Try.underlying5 Try.underlying9 hr3; have hcv' := run_conv_bs (P := Try.prog) w3 25 9 5 v2 A Try.underlying25 Try.underlying5 Try.underlying9 (Rd.below hr2 hb3)))
    all_goals (go_wp2_with fail; go_meet; exact ⟨rfl, rfl, below_step (below_step HB1.drew hb2) hb3⟩)
  case rest =>
    obtain ⟨rfl, rfl, HB3⟩ := hcut
    clear c0 c1 c2 d0 d1 d2 HB1
    rcases hAB with hAB | ⟨hne, p1, p2⟩
    · subst hAB
      go_wp2_with fail
      go_ret
      exact ⟨rfl, HB3⟩
    · go_wp2_with (first
        | (go_at_call 13; ((with_reducible refine (has_no p1 _).mono ?_); rintro e w4 ⟨rfl, rfl⟩))
        | (go_at_call 13; ((with_reducible refine (has_no p2 _).mono ?_); rintro e w4 ⟨rfl, rfl⟩)))
      go_ret
      exact ⟨rfl, HB3⟩

set_option maxHeartbeats 1000000 in
theorem walkLong (k n : Int) (t : ByteArray) (k' n' : Int) (t' : ByteArray) (w : World) (ht : t.size ≤ 9223372036854775807) (ht' : t'.size ≤ 9223372036854775807) (h : 300 < t.size ∨ 300 < t'.size) :
    Calls Try.prog 3 #[.agg #[.int .i64 k, .int .i64 n, .string t], .agg #[.int .i64 k', .int .i64 n', .string t']] w fun e w' => e = .returned (.bool true) ∧ Below w.heap.size w w' := by
  by_cases h1 : 300 < t.size
  · go_enter Try.func3, Try.ntmps3
    go_wp2_with (go_at_call 11; refine (Aw.awake_any _).mono ?_; rintro e w1 ⟨rfl, hb1⟩; have hc1 := bcell hb1)
    go_ret
    refine ⟨rfl, ?_⟩
    (repeat (first | assumption | exact Below.refl _ _ | with_reducible refine Below.drew ?_ | with_reducible refine below_alloc ?_ _ | with_reducible refine below_step ?_ (by assumption)))
  · have h2 : 300 < t'.size := by omega
    go_enter Try.func3, Try.ntmps3
    go_wp2_with (go_at_call 11; refine (Aw.awake_any _).mono ?_; rintro e w1 ⟨rfl, hb1⟩; have hc1 := bcell hb1)
    go_ret
    refine ⟨rfl, ?_⟩
    (repeat (first | assumption | exact Below.refl _ _ | with_reducible refine Below.drew ?_ | with_reducible refine below_alloc ?_ _ | with_reducible refine below_step ?_ (by assumption)))

theorem walk (x y : Fr.Val) (hx : x.ok) (hy : y.ok) (w : World) : Calls Try.prog 3 #[x.v, y.v] w fun e w' => e = .returned (.bool true) ∧ Below w.heap.size w w' := by
  obtain ⟨_, hn, ht⟩ := hx
  obtain ⟨_, hn', ht'⟩ := hy
  unfold maxLen at ht ht'
  by_cases h : 300 < x.t.size ∨ 300 < y.t.size
  · exact walkLong x.k x.n x.t y.k y.n y.t w ht ht' h
  · exact walkShort x.k x.n x.t y.k y.n y.t w _ _ (by omega) (by omega) (fun W => Add.encode_any x.k x.n x.t W hn.1 hn.2 (by omega)) (fun W => Add.encode_any y.k y.n y.t W hn'.1 hn'.2 (by omega)) (Pl.apart _ _ _ _ _ _)
end Go.Proofs.Ytloeiobbcgdopaa.Pf
