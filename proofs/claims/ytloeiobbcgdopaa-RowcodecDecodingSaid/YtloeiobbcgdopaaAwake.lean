/- the examples of the document hold: awake returns true. -/
import Derived.Test.YtloeiobbcgdopaaAdd
import Derived.Test.YtloeiobbcgdopaaEnd
namespace Go.Proofs.Ytloeiobbcgdopaa.Aw
open Go.RowKit L

theorem end_ex (w : World) : Calls Try.prog 14 #[.string ⟨#[97, 255]⟩] w fun e w' => e = .returned (.tuple #[.string ⟨#[98]⟩, .bool true]) ∧ Below w.heap.size w w' :=
  (En.end_any ⟨#[97, 255]⟩ w (by decide)).mono fun e w' h => ⟨h.1.trans (En.ret2 (by decide) (by decide)), h.2⟩
theorem enc_cast {w : World} {v : Value} {l l' : List UInt8} (h : l = l') (hr : RdB w v l) : RdB w v l' := h ▸ hr
theorem enc_ex (w : World) : Calls Try.prog 12 #[.agg #[.int .i64 2, .int .i64 0, .string ⟨#[97, 98]⟩]] w fun e w' => ∃ v', e = .returned v' ∧ RdB w' v' [3, 97, 98, 0] ∧ Below w.heap.size w w' :=
  (Add.encode_any 2 0 ⟨#[97, 98]⟩ w (by decide) (by decide) (by decide)).mono fun e w' ⟨v', h1, h2, h3⟩ => ⟨v', h1, enc_cast (by decide) h2, h3⟩
theorem num_ex (w : World) : Calls Try.prog 23 #[.int .i64 (-1)] w fun e w' => e = .returned (.string ⟨#[127, 255, 255, 255, 255, 255, 255, 255]⟩) ∧ Below w.heap.size w w' :=
  (Num.number_any (-1) w (by decide) (by decide)).mono fun e w' h => ⟨h.1.trans (Num.ret_str (by decide)), h.2⟩

set_option maxHeartbeats 1000000 in
theorem awake_any (w : World) : Calls Try.prog 11 #[] w fun e w' => e = .returned (.bool true) ∧ Below w.heap.size w w' := by
  go_enter Try.func11, Try.ntmps11
  go_wp2_with (first
    | (go_at_call 14; refine (end_ex _).mono ?_; rintro e w1 ⟨rfl, hb1⟩)
    | (go_at_call 12; refine (enc_ex _).mono ?_; rintro e w2 ⟨v2, rfl, hr2, hb2⟩)
    | (refine wpList_conv_bs _ rfl (.tmp 8) 25 9 5 rfl _ rfl [3, 97, 98, 0] (by assumption) Try.underlying25 Try.underlying5 Try.underlying9 ?_)
    | (go_at_call 23; refine (num_ex _).mono ?_; rintro e w3 ⟨rfl, hb3⟩))
  go_ret
  exact ⟨rfl, below_step (below_step hb1 hb2) hb3⟩
end Go.Proofs.Ytloeiobbcgdopaa.Aw
