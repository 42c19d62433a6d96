/- rowcodec.End and the reference's End. -/
import Derived.Test.YtloeiobbcgdopaaNum
import Derived.BigQuiet
import Derived.Deep.QuietTactic
import Derived.Deep.RegionHeld3
namespace Go.Proofs.Ytloeiobbcgdopaa.En
open Go.RowKit L

/-- the least string above all strings with a prefix -/
def strip (l : List UInt8) : List UInt8 := (l.reverse.dropWhile (· == 255)).reverse
def up (l : List UInt8) : List UInt8 := l.take (l.length - 1) ++ [l.getLastD 0 + 1]
def endS (l : List UInt8) : List UInt8 := if strip l = [] then [] else up (strip l)
def endOk (l : List UInt8) : Bool := !(strip l).isEmpty

def Cut (p q : List UInt8) : Prop := ∃ m, p = q ++ List.replicate m 255
theorem strip_rep (q : List UInt8) (m : Nat) : strip (q ++ List.replicate m 255) = strip q := by
  induction m with
  | zero => simp
  | succ m ih =>
    rw [← ih]
    unfold strip
    simp [List.replicate_succ']
theorem Cut.nil {p q : List UInt8} (h : Cut p q) (hq : q = []) : strip p = [] := by
  obtain ⟨m, rfl⟩ := h
  rw [strip_rep, hq]; rfl
theorem Cut.stop {p q : List UInt8} (h : Cut p q) (hq : q ≠ []) (hl : q.getLast hq ≠ 255) : strip p = q := by
  obtain ⟨m, rfl⟩ := h
  rw [strip_rep]
  unfold strip
  have e := List.dropLast_concat_getLast hq
  rw [← e]
  simp [hl]
theorem Cut.next {p q : List UInt8} (h : Cut p q) (hq : q ≠ []) (hl : q.getLast hq = 255) : Cut p (q.take (q.length - 1)) := by
  obtain ⟨m, rfl⟩ := h
  refine ⟨m + 1, ?_⟩
  rw [← List.dropLast_eq_take]
  conv => lhs; rw [← List.dropLast_concat_getLast hq]
  rw [hl, List.replicate_succ]; simp
theorem last_eq (q : ByteArray) (h : q.size - 1 < q.size) (hq : q.data.toList ≠ []) : q[q.size - 1] = q.data.toList.getLast hq := by
  rw [List.getLast_eq_getElem]; simp; rfl
theorem ne_nil (q : ByteArray) (h : 0 < q.size) : q.data.toList ≠ [] := by
  intro e
  have : q.data.toList.length = q.size := by rw [Array.length_toList]; rfl
  rw [e] at this; simp at this; omega
theorem empty_of (q : ByteArray) (h : ¬ 0 < q.size) : q.data.toList = [] := by
  apply List.eq_nil_of_length_eq_zero
  rw [Array.length_toList]
  have : q.data.size = q.size := rfl
  omega
theorem isEmpty_false (q : ByteArray) (h : 0 < q.size) : q.toList.isEmpty = false := by
  rw [ByteArray.toList_eq]
  have := ne_nil q h
  cases hd : q.data.toList with
  | nil => exact absurd hd this
  | cons a l => rfl
theorem isEmpty_true (q : ByteArray) (h : ¬ 0 < q.size) : q.toList.isEmpty = true := by
  rw [ByteArray.toList_eq, empty_of q h]; rfl
theorem extract_init (q : ByteArray) : (q.extract 0 (q.size - 1)).data.toList = q.data.toList.take (q.data.toList.length - 1) := by
  have : q.data.toList.length = q.size := by rw [Array.length_toList]; rfl
  rw [this, ByteArray.data_extract]
  simp
  rw [List.dropLast_eq_take, this]

theorem Cut.step {p q r : List UInt8} (h : Cut p q) (h' : q = r ++ [255]) : Cut p r := by
  obtain ⟨m, rfl⟩ := h
  exact ⟨m + 1, by rw [h', List.replicate_succ]; simp⟩
theorem take_next (l : List UInt8) (k : Nat) (h0 : 0 < k) (hk : k ≤ l.length) (h : l[k - 1]'(by omega) = 255) : l.take k = l.take (k - 1) ++ [255] := by
  obtain ⟨j, rfl⟩ : ∃ j, k = j + 1 := ⟨k - 1, by omega⟩
  simp only [Nat.add_sub_cancel] at h ⊢
  rw [List.take_succ_eq_append_getElem (by omega), h]
theorem take_last (l : List UInt8) (k : Nat) (h0 : 0 < k) (hk : k ≤ l.length) : l.take k = l.take (k - 1) ++ [l[k - 1]'(by omega)] := by
  obtain ⟨j, rfl⟩ : ∃ j, k = j + 1 := ⟨k - 1, by omega⟩
  simp only [Nat.add_sub_cancel]
  rw [List.take_succ_eq_append_getElem (by omega)]
theorem endS_stop {p : List UInt8} {k : Nat} (h : Cut p (p.take k)) (h0 : 0 < k) (hk : k ≤ p.length) (hx : ¬ p[k - 1]'(by omega) = 255) :
    endS p = p.take (k - 1) ++ [p[k - 1]'(by omega) + 1] ∧ endOk p = true := by
  have e := take_last p k h0 hk
  have hxx : ∃ x, x = p[k - 1]'(by omega) := ⟨_, rfl⟩
  obtain ⟨x, hxe⟩ := hxx
  rw [← hxe] at e hx
  rw [← hxe]
  generalize p.take (k - 1) = A at *
  generalize p.take k = T at *
  subst e
  have hst : strip p = A ++ [x] := h.stop (by simp) (by simpa using hx)
  refine ⟨?_, ?_⟩
  · rw [endS, hst, if_neg (by simp), up]; simp
  · rw [endOk, hst]; simp
theorem up_cells {w : World} {g : Nat} {q : ByteArray} (h0 : 0 < q.size) (hlt : q.size - 1 < q.size) (hb : (q[q.size - 1].toNat : Int) ≤ 254) (hc : ∀ j (hj : j < q.data.toList.length), w.cell? ⟨g, j, none⟩ = some (B q.data.toList[j])) :
    ∀ j (hj : j < (up q.data.toList).length), (w.setCell ⟨g, q.size - 1, none⟩ (.int .u8 ((q[q.size - 1].toNat : Int) + 1))).cell? ⟨g, j, none⟩ = some (B (up q.data.toList)[j]) := by
  have hl : q.data.toList.length = q.size := by rw [Array.length_toList]; rfl
  have hlast : q.data.toList.getLastD 0 = q[q.size - 1] := by
    rw [last_eq q hlt (ne_nil q h0), List.getLastD_eq_getLast?, List.getLast?_eq_some_getLast (ne_nil q h0)]; rfl
  have hul : (up q.data.toList).length = q.size := by simp [up, hl]; omega
  intro j hj
  by_cases e : j = q.size - 1
  · subst e
    have := hc (q.size - 1) (by omega)
    rw [World.cell?_setCell_same w _ _ this]
    have h1 : (up q.data.toList)[q.size - 1]'hj = q[q.size - 1] + 1 := by
      simp only [up, hlast]
      rw [List.getElem_append_right (by simp)]
      simp
    rw [h1]
    unfold B
    congr 2
    rw [UInt8.toNat_add]; simp; omega
  · rw [cell_set_ne (by omega), hc j (by omega)]
    have h1 : (up q.data.toList)[j]'hj = q.data.toList[j]'(by omega) := by
      simp only [up]
      rw [List.getElem_append_left (by simp; omega)]
      simp
    rw [h1]

theorem ret2 {a a' : ByteArray} {b b' : Bool} (h : a = a') (h' : b = b') : Ending.returned (.tuple #[.string a, .bool b]) = .returned (.tuple #[.string a', .bool b']) := by rw [h, h']

set_option maxHeartbeats 1000000 in
theorem end_any (p : ByteArray) (w : World) (hp : p.size ≤ 1000000) :
    Calls Try.prog 14 #[.string p] w fun e w' => e = .returned (.tuple #[.string ⟨(endS p.data.toList).toArray⟩, .bool (endOk p.data.toList)]) ∧ Below w.heap.size w w' := by
  go_enter Try.func14, Try.ntmps14
  go_wp2
  go_loop [4] (fun s => ∃ q : ByteArray, s = .string q ∧ Cut p.data.toList q.data.toList ∧ q.size ≤ 1000000) (fun s => match s with | .string q => q.size | _ => 0)
  case atStart => exact ⟨p, rfl, ⟨0, by simp⟩, hp⟩
  case round =>
    obtain ⟨q, rfl, hq, hs⟩ := hrel
    have HQ := Lib.hid hq
    clear hq
    by_cases h0 : 0 < q.size
    · have hlt : q.size - 1 < q.size := by omega
      have hne := isEmpty_false q h0
      have HE := Lib.hid (last_eq q hlt (ne_nil q h0))
      by_cases h1 : q[q.size - 1] = 255
      · have H1 := Lib.hid h1
        have h1' : ((q[q.size - 1].toNat : Int) == 255) = true := by rw [h1]; rfl
        clear h1
        go_wp2
        exact ⟨⟨_, rfl, by rw [extract_init]; exact HQ.out.next (ne_nil q h0) (by rw [← HE.out]; exact H1.out), by rw [ByteArray.size_extract]; omega⟩, by simp [ByteArray.size_extract]; omega⟩
      · have hb : (q[q.size - 1].toNat : Int) ≤ 254 := by
          have := q[q.size - 1].toNat_lt
          have h2 : q[q.size - 1].toNat ≠ 255 := fun e => h1 (UInt8.toNat_inj.1 e)
          omega
        have h1' : ((q[q.size - 1].toNat : Int) == 255) = false := by
          rw [beq_eq_false_iff_ne]; omega
        have H1 := Lib.hid h1
        clear h1
        go_wp2_with (refine wpList_conv_sb _ rfl (.tmp 25) 9 25 5 rfl q rfl Try.underlying9 Try.underlying25 Try.underlying5 ?_; intro c w2 hz2 hc2 hf2 hb2; have Hz2 := Lib.hid hz2; have Hc2 := Lib.hid hc2; have hf3 := hf2 (q.size - 1) hlt; clear hz2 hc2 hf2; have hc3 : w2.cell? ⟨w.heap.size, q.size - 1, none⟩ = some (.int .u8 (q[q.size - 1].toNat : Int)) := Hc2.out (q.size - 1) (by rw [Array.length_toList]; exact hlt))
        rw [run_conv_bs (P := Try.prog) _ 25 9 5 _ (up q.data.toList) Try.underlying25 Try.underlying5 Try.underlying9 (RdB_of_cells (by simp [up, Array.length_toList]; omega) (up_cells h0 hlt hb Hc2.out))]
        go_wp2
        go_ret2
        have hst : strip p.data.toList = q.data.toList := HQ.out.stop (ne_nil q h0) (by rw [← HE.out]; exact H1.out)
        refine ⟨ret2 ?_ ?_, hb2.setCell (Nat.le_refl _) _⟩
        · rw [endS, hst, if_neg (ne_nil q h0)]
        · rw [endOk, hst]
          cases hd : q.data.toList with
          | nil => exact absurd hd (ne_nil q h0)
          | cons a l => rfl
    · have hne := isEmpty_true q h0
      go_wp2
      go_ret2
      refine ⟨ret2 ?_ ?_, Below.refl _ _⟩
      · rw [endS, if_pos (HQ.out.nil (empty_of q h0))]
      · rw [endOk, HQ.out.nil (empty_of q h0)]; rfl

set_option maxHeartbeats 1000000 in
theorem refEnd_any (p : ByteArray) (w : World) (hp : p.size ≤ 1000000) :
    Calls Try.prog 15 #[.string p] w fun e w' => e = .returned (.tuple #[.string ⟨(endS p.data.toList).toArray⟩, .bool (endOk p.data.toList)]) ∧ Below w.heap.size w w' := by
  go_enter Try.func15, Try.ntmps15
  go_wp2
  go_loop [4] (fun s => ∃ k : Nat, s = .int .i64 k ∧ Cut p.data.toList (p.data.toList.take k) ∧ k ≤ p.size) (fun s => (intOf s).toNat)
  case atStart => exact ⟨p.size, rfl, ⟨0, by simp; rw [List.take_of_length_le]; rw [Array.length_toList]; exact Nat.le_refl _⟩, Nat.le_refl _⟩
  case round =>
    obtain ⟨k, rfl, hq, hs⟩ := hrel
    have HQ := Lib.hid hq
    clear hq
    by_cases h0 : 0 < k
    · have hlt : k - 1 < p.size := by omega
      by_cases h1 : p[k - 1] = 255
      · have H1 := Lib.hid h1
        have h1' : ((p[k - 1].toNat : Int) == 255) = true := by rw [h1]; rfl
        clear h1
        go_wp2
        exact ⟨⟨k - 1, by congr 1; omega, by have := take_next p.data.toList k h0 (by rw [Array.length_toList]; exact hs) H1.out; exact HQ.out.step this, by omega⟩, by simp [intOf]; omega⟩
      · have hb : (p[k - 1].toNat : Int) ≤ 254 := by
          have := p[k - 1].toNat_lt
          have h2 : p[k - 1].toNat ≠ 255 := fun e => h1 (UInt8.toNat_inj.1 e)
          omega
        have h1' : ((p[k - 1].toNat : Int) == 255) = false := by
          rw [beq_eq_false_iff_ne]; omega
        have H1 := Lib.hid h1
        clear h1
        obtain ⟨x, hx⟩ : ∃ x, x = p[k - 1] := ⟨_, rfl⟩
        rw [← hx] at hb h1' H1
        have hx' : (p[k - 1].toNat : Int) = (x.toNat : Int) := by rw [hx]
        have HX := Lib.hid hx
        clear hx
        have hcv : (convert 25 9 (.slice (some ⟨w.heap.size, 0, none⟩) 1 1)).run Try.prog ((w.alloc (.cells #[.int .u8 ((x.toNat : Int) + 1)] 5)).drew) = .ok (.string ⟨#[x + 1]⟩) ((w.alloc (.cells #[.int .u8 ((x.toNat : Int) + 1)] 5)).drew) :=
          run_conv_bs (P := Try.prog) _ 25 9 5 _ [x + 1] Try.underlying25 Try.underlying5 Try.underlying9 (Rd.drew (Rd.new' rfl rfl (by simp [Bs, B, UInt8.toNat_add]; omega)))
        go_wp2
        go_region
        go_wp2
        go_ret2
        have hkl : k ≤ p.data.toList.length := by rw [Array.length_toList]; exact hs
        have hfin := endS_stop HQ.out h0 hkl (by have := H1.out; rw [HX.out] at this; exact this)
        refine ⟨ret2 ?_ hfin.2.symm, (below_new _ _).drew⟩
        rw [hfin.1]
        apply ByteArray.ext
        apply Array.ext'
        rw [ByteArray.data_append]
        simp [ByteArray.data_extract]
        exact HX.out
    · have hk : k = 0 := by omega
      subst hk
      go_wp2
      go_ret2
      refine ⟨ret2 ?_ ?_, Below.refl _ _⟩
      · rw [endS, if_pos (HQ.out.nil rfl)]
      · rw [endOk, HQ.out.nil rfl]; rfl
end Go.Proofs.Ytloeiobbcgdopaa.En
