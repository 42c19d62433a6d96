/- RowcodecDecoding: DecodeRow answers as the reference, and what it decodes encodes to the same bytes. -/
import Derived.Test.YtloeiobbcgdopaaRefDec
import Derived.Test.YtloeiobbcgdopaaRoundTrip
import Derived.Deep.RegionWith
import Derived.Deep.DeepCutAuto
namespace Go.Proofs.Ytloeiobbcgdopaa.De
open Go.RowKit L Fr Rw R4 Dc

abbrev GotNo (A : List UInt8) : Prop := ∀ W a, RdB W a A → Calls Try.prog 28 #[a] W fun e w' => e = .returned (.tuple #[.slice none 0 0, .int .i64 2]) ∧ Below W.heap.size W w'
abbrev RefNo (a : Value) (A : List UInt8) : Prop := ∀ W, RdB W a A → Calls Try.prog 29 #[a] W fun e w' => e = .returned (.tuple #[.slice none 0 0, .bool false]) ∧ Below W.heap.size W w'
abbrev RefYes (a : Value) (A : List UInt8) (xs : List Val) : Prop := ∀ W, RdB W a A → Calls Try.prog 29 #[a] W fun e w' => ∃ v', e = .returned (.tuple #[v', .bool true]) ∧ RowRd w' v' xs ∧ Below W.heap.size W w'
theorem conv {w : World} {v : Value} {l : List UInt8} (h : RdB w v l) : (convert 25 9 v).run Try.prog w = .ok (.string ⟨l.toArray⟩) w := run_conv_bs (P := Try.prog) w 25 9 5 v l Try.underlying25 Try.underlying5 Try.underlying9 h

set_option maxHeartbeats 2000000 in
theorem walkLong (B : Option Addr) (c : Nat) (l : List UInt8) (w : World) (hl : 600 < l.length) (hm : l.length ≤ 140737488351232) :
    Calls Try.prog 9 #[.slice B l.length c] w fun e w' => e = .returned (.bool true) ∧ Below w.heap.size w w' := by
  go_enter Try.func9, Try.ntmps9
  go_wp2_with fail
  refine (Aw.awake_any _).mono ?_; rintro e w1 ⟨rfl, hb1⟩
  go_wp2_with fail
  refine (Aw.awake_any _).mono ?_; rintro e w2 ⟨rfl, hb2⟩
  go_wp2_with fail
  go_ret
  exact ⟨rfl, below_step hb1 hb2⟩

set_option maxHeartbeats 2000000 in
theorem walkNo (B : Option Addr) (c : Nat) (l : List UInt8) (w : World) (hl : l.length ≤ 600) (hr : RdB w (.slice B l.length c) l) (h28 : GotNo l) (h29 : RefNo (.slice B l.length c) l) :
    Calls Try.prog 9 #[.slice B l.length c] w fun e w' => e = .returned (.bool true) ∧ Below w.heap.size w w' := by
  have H28 := Lib.hid h28
  have H29 := Lib.hid h29
  clear h28 h29
  go_enter Try.func9, Try.ntmps9
  go_wp2_with (first
    | (go_at_call 11; refine (Aw.awake_any _).mono ?_; rintro e w1 ⟨rfl, hb1⟩; have a1 : RdB _ _ _ := Rd.below hr hb1)
    | (go_at_call 28; refine (H28.out _ _ a1).mono ?_; rintro e w2 ⟨rfl, hb2⟩; have a2 : RdB _ _ _ := Rd.below a1 hb2)
    | (go_at_call 29; refine (H29.out _ a2).mono ?_; rintro e w3 ⟨rfl, hb3⟩))
  go_ret
  exact ⟨rfl, below_step (below_step hb1 hb2) hb3⟩

set_option maxHeartbeats 4000000 in
theorem walkYes (B : Option Addr) (c : Nat) (l : List UInt8) (xs : List Val) (w : World) (hl : l.length ≤ 600) (hr : RdB w (.slice B l.length c) l) (h28 : Rt.Gets l xs) (h29 : RefYes (.slice B l.length c) l xs)
    (h18 : ∀ u, Or.EncIs u xs l) (h22 : ∀ W p u, RowRd W p xs → RowRd W u xs → Calls Try.prog 22 #[p, u] W fun e w' => e = .returned (.int .i64 0) ∧ Below W.heap.size W w') :
    Calls Try.prog 9 #[.slice B l.length c] w fun e w' => e = .returned (.bool true) ∧ Below w.heap.size w w' := by
  have H28 := Lib.hid h28
  have H29 := Lib.hid h29
  have H18 := Lib.hid h18
  have H22 := Lib.hid h22
  clear h28 h29 h18 h22
  go_enter Try.func9, Try.ntmps9
  go_wp2_with (first
    | (go_at_call 11; refine (Aw.awake_any _).mono ?_; rintro e w1 ⟨rfl, hb1⟩; have a1 : RdB _ _ _ := Rd.below hr hb1)
    | (go_at_call 28; refine (H28.out _ _ a1).mono ?_; rintro e w2 ⟨v2, rfl, hr2, hb2⟩; have a2 : RdB _ _ _ := Rd.below a1 hb2)
    | (go_at_call 29; refine (H29.out _ a2).mono ?_; rintro e w3 ⟨v3, rfl, hr3, hb3⟩; have a3 : RdB _ _ _ := Rd.below a2 hb3; have g3 := hr2.below hb3))
  have HB : Below w.heap.size w w3 := below_step (below_step hb1 hb2) hb3
  clear hr a1 a2 hr2 hb1 hb2 hb3
  have A3 : RdB w3.drew (.slice B l.length c) l := a3
  have G3 : RowRd w3.drew v2 xs := g3
  have R3 : RowRd w3.drew v3 xs := hr3
  have e3 := conv A3
  clear a3 g3 hr3
  go_region_with (first
    | (go_at_call 22; refine (H22.out _ _ _ G3 R3).mono ?_; rintro e w4 ⟨rfl, hb4⟩; have e4 := conv (Rd.below A3 hb4); have G4 := G3.below hb4; have A4 : RdB _ _ _ := Rd.below A3 hb4)
    | (go_at_call 18; refine (H18.out _ _ G4).mono ?_; rintro e w5 ⟨v5, rfl, hr5, hb5⟩; have e5 := conv hr5; have e45 := conv (Rd.below A4 hb5)))
  all_goals (go_wp2_with fail; go_ret; exact ⟨rfl, below_step (below_step HB.drew hb4) hb5⟩)

/-- the length of a slice is no more than its capacity -/
def CapOk : Value → Prop
  | .slice _ n c => n ≤ c
  | _ => True
theorem cap_of_arg {H : Type} {enc : TypeId × Value → H} {P : Program} {w : World} {sp : Nat → Bool} {held : Bool} {t e : TypeId} {v : Value} {d : DataW H} {p : List MemPlace} (hu : P.underlying t = some (.slice e)) (h : DataW.Trod enc P w 0 sp held t v d p) : CapOk v := by
  obtain ⟨fuel, hf⟩ := h
  rcases Go.Deep.open_slice hu hf with ⟨h1, _⟩ | ⟨a, len, cap, m, n, D, Pl, h1, _, hl, _⟩
  · cases v <;> first | exact True.intro | (simp [Value.cells] at h1; obtain ⟨_, rfl, rfl⟩ := h1; exact Nat.le_refl _)
  · cases v <;> first | exact True.intro | (simp [Value.cells] at h1; obtain ⟨_, rfl, rfl⟩ := h1; exact hl)

theorem cellsOf {w : World} {b off : Nat} {A : Option Addr} {l : List UInt8} (hA : A = some ⟨b, off, none⟩) (h : ∀ k (_ : k < l.length), ∃ b off, A = some ⟨b, off, none⟩ ∧ w.cell? ⟨b, off + k, none⟩ = some (.int .u8 (l[k].toNat : Int))) :
    ∀ i (hi : i < l.length), w.cell? ⟨b, off + i, none⟩ = some (.int .u8 (l[i].toNat : Int)) := fun i hi => by
  obtain ⟨b', off', h1, h2⟩ := h i hi
  rw [hA] at h1
  injection h1 with h1
  injection h1 with e1 e2
  subst e1 e2
  exact h2

set_option maxHeartbeats 2000000 in
theorem ref_nil (A : Option Addr) (c : Nat) (w : World) : Calls Try.prog 29 #[.slice A 0 c] w fun e w' => Dw.RefRes [] w e w' := by
  go_enter Try.func29, Try.ntmps29
  go_wp2_with fail
  go_loopw [4, 5] (fun v r wr => r = .int .i64 0 ∧ v = .slice none 0 0 ∧ Below w.heap.size w wr) (fun _ _ _ => 0)
  case atStart => exact ⟨rfl, rfl, Below.refl _ _⟩
  case round =>
    obtain ⟨rfl, rfl, hb⟩ := hrel
    go_wp2_with fail
    go_ret2
    exact ⟨_, _, rfl, Or.inr ⟨[], rfl, Rd.nil _ _ _ _, rfl⟩, hb⟩
theorem ref_any (v : Value) (l : List UInt8) (w : World) (hr : RdB w v l) (hc : CapOk v) (hl : l.length ≤ 100000) : Calls Try.prog 29 #[v] w fun e w' => Dw.RefRes l w e w' := by
  obtain ⟨A, c, rfl, h⟩ := Fr.RdB.at_ hr
  cases l with
  | nil => exact ref_nil A c w
  | cons x r =>
    obtain ⟨b, off, hA, _⟩ := h 0 (by simp)
    have h' := cellsOf hA h
    subst hA
    exact Dw.refDecode_some b off c _ w hc hl h'

theorem walk (v : Value) (l : List UInt8) (hm : l.length ≤ 140737488351232) (hc : CapOk v) (w : World) (hr : RdB w v l) :
    Calls Try.prog 9 #[v] w fun e w' => e = .returned (.bool true) ∧ Below w.heap.size w w' := by
  obtain ⟨A, c, rfl, _⟩ := Fr.RdB.at_ hr
  by_cases h6 : l.length ≤ 600
  · cases hd : Dc.decode l with
    | none =>
      refine walkNo A c l w h6 hr (fun W a ha => ?_) (fun W ha => ?_)
      · refine (Dw.decodeRow_any a l W ha (by omega)).mono ?_
        rintro e w' ⟨v', c, rfl, h, hb⟩
        rcases h with ⟨_, rfl, rfl⟩ | ⟨ys, h1, _⟩
        · exact ⟨rfl, hb⟩
        · rw [hd] at h1; cases h1
      · refine (ref_any _ l W ha hc (by omega)).mono ?_
        rintro e w' ⟨v', c, rfl, h, hb⟩
        rcases h with ⟨_, rfl, rfl⟩ | ⟨ys, h1, _⟩
        · exact ⟨rfl, hb⟩
        · rw [hd] at h1; cases h1
    | some xs =>
      obtain ⟨d1, d2, d3, d4⟩ := decode_spec l.length l xs (Nat.le_refl _) hd
      refine walkYes A c l xs w h6 hr (fun W a ha => ?_) (fun W ha => ?_) (fun u W hu => ?_) (fun W p u hp hu => ?_)
      · refine (Dw.decodeRow_any a l W ha (by omega)).mono ?_
        rintro e w' ⟨v', c, rfl, h, hb⟩
        rcases h with ⟨h1, _⟩ | ⟨ys, h1, h2, rfl⟩
        · rw [hd] at h1; cases h1
        · rw [hd] at h1; injection h1 with h1; subst h1; exact ⟨v', rfl, h2, hb⟩
      · refine (ref_any _ l W ha hc (by omega)).mono ?_
        rintro e w' ⟨v', c, rfl, h, hb⟩
        rcases h with ⟨h1, _⟩ | ⟨ys, h1, h2, rfl⟩
        · rw [hd] at h1; cases h1
        · rw [hd] at h1; injection h1 with h1; subst h1; exact ⟨v', rfl, h2, hb⟩
      · have := encodeRow_any u xs W hu d3 (by omega)
        rwa [d1] at this
      · have := rows_any p u xs xs W hp hu (by omega) (by omega)
        rwa [Rt.cmpR_self] at this
  · exact walkLong A c l w (by omega) hm
end Go.Proofs.Ytloeiobbcgdopaa.De
