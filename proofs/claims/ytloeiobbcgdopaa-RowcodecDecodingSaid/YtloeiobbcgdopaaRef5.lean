/- The reference of layer 5: number, Number, Value, Row. -/
import Derived.Test.YtloeiobbcgdopaaRowWalks
namespace Go.Proofs.Ytloeiobbcgdopaa.R5
open Go.RowKit L Fr

theorem num_cells' (u : Nat) : #[Value.int IntKind.u8 (↑u / 256 / 256 / 256 / 256 / 256 / 256 / 256 % 256),
        Value.int IntKind.u8 (↑u / 256 / 256 / 256 / 256 / 256 / 256 % 256),
        Value.int IntKind.u8 (↑u / 256 / 256 / 256 / 256 / 256 % 256),
        Value.int IntKind.u8 (↑u / 256 / 256 / 256 / 256 % 256), Value.int IntKind.u8 (↑u / 256 / 256 / 256 % 256),
        Value.int IntKind.u8 (↑u / 256 / 256 % 256), Value.int IntKind.u8 (↑u / 256 % 256),
        Value.int IntKind.u8 (↑u % 256)] = (Bs (Num.numL u)).toArray := by
  rw [← Num.num_cells]
  have h2 : (u : Int) / 256 / 256 = u / 65536 := by omega
  have h3 : (u : Int) / 65536 / 256 = u / 16777216 := by omega
  have h4 : (u : Int) / 16777216 / 256 = u / 4294967296 := by omega
  have h5 : (u : Int) / 4294967296 / 256 = u / 1099511627776 := by omega
  have h6 : (u : Int) / 1099511627776 / 256 = u / 281474976710656 := by omega
  have h7 : (u : Int) / 281474976710656 / 256 = u / 72057594037927936 := by omega
  rw [h2, h3, h4, h5, h6, h7]
theorem RdB_of_new {w : World} {g n c : Nat} {t : TypeId} {cs : Array Value} {l : List UInt8} (hg : g = w.heap.size) (h : cs.toList = Bs l) (hn : n = l.length := by rfl) : RdB (w.alloc (.cells cs t)) (.slice (some ⟨g, 0, none⟩) n c) l := by
  subst hg
  subst hn
  exact Rd.new w cs t 1 _ c (Bs l) (by simp [Bs]) (fun j u hu => by rw [← h] at hu; simpa using hu)
theorem RdB_cast {w : World} {v : Value} {n : Nat} {xs : List Value} {l : List UInt8} (h : Rd w 1 v n xs) (hn : n = l.length) (hx : xs = Bs l) : RdB w v l := by
  subst hn; subst hx; exact h
theorem own_lit {w : World} {base g n : Nat} {e : TypeId} {cs : Array Value} {xs : List Value} (hg : g = w.heap.size) (hb : base ≤ w.heap.size) (h : cs.toList = xs) (hn : cs.size = n := by rfl) (hm : n ≤ 100 := by decide) :
    (w.alloc (.cells cs e)).ownsRow base e 1 (.slice (some ⟨g, 0, none⟩) n n) n xs := by
  subst hg
  subst h
  exact World.ownsRow_lit w cs n hb (by unfold maxLen; omega) (by omega)
set_option maxHeartbeats 1000000 in
theorem number_any (n : Int) (w : World) (h1 : -9223372036854775808 ≤ n) (h2 : n ≤ 9223372036854775807) :
    Calls Try.prog 32 #[.int .i64 n] w fun e w' => ∃ v, e = .returned v ∧ RdB w' v (Num.num n) ∧ Below w.heap.size w w' := by
  have hmk : ∀ w, (Instr.makeSlice 25 (.int .i64 8) (.int .i64 8)).run Try.prog w = .ok (.slice (some ⟨w.heap.size, 0, none⟩) 8 8) (w.alloc (.cells #[.int .u8 0, .int .u8 0, .int .u8 0, .int .u8 0, .int .u8 0, .int .u8 0, .int .u8 0, .int .u8 0] 5)) := fun _ => by kernel_rfl
  obtain ⟨u, hu'⟩ : ∃ u : Nat, u = Num.numU n := ⟨_, rfl⟩
  have hu := Num.xor_num n h1 h2
  rw [← hu'] at hu
  have hub : (u : Int) ≤ 18446744073709551615 := by rw [hu']; unfold Num.numU; omega
  have HU := Lib.hid hu'
  clear hu'
  go_enter Try.func32, Try.ntmps32
  go_wp2
  go_rounds 9
  go_wp2
  go_ret
  refine ⟨_, rfl, ?_, below_new _ _⟩
  rw [num_cells']
  exact RdB_of_new rfl (by rw [Num.num, HU.out])

theorem refNumber_any (n : Int) (w : World) (h1 : -9223372036854775808 ≤ n) (h2 : n ≤ 9223372036854775807) :
    Calls Try.prog 25 #[.int .i64 n] w fun e w' => e = .returned (.string ⟨(Num.num n).toArray⟩) ∧ Below w.heap.size w w' := by
  go_enter Try.func25, Try.ntmps25
  go_wp2_with (first
    | (go_at_call 32; refine (number_any n _ h1 h2).mono ?_; rintro e w1 ⟨v1, rfl, hr1, hb1⟩)
    | (refine wpList_conv_bs _ rfl (.tmp 4) 25 9 5 rfl _ rfl (Num.num n) (by assumption) Try.underlying25 Try.underlying5 Try.underlying9 ?_))
  go_ret
  exact ⟨rfl, hb1⟩


set_option maxHeartbeats 1000000 in
theorem value_int (n : Int) (t : ByteArray) (w : World) (h1 : -9223372036854775808 ≤ n) (h2 : n ≤ 9223372036854775807) :
    Calls Try.prog 17 #[.agg #[.int .i64 1, .int .i64 n, .string t]] w fun e w' => ∃ v', e = .returned v' ∧ RdB w' v' (Add.enc 1 n t.data.toList) ∧ Below w.heap.size w w' := by
  go_enter Try.func17, Try.ntmps17
  go_wp2_with (first
    | (go_at_call 32; refine (number_any n _ h1 h2).mono ?_; rintro e w1 ⟨v1, rfl, hr1, hb1⟩)
    | (refine wpList_app _ rfl (.tmp 8) (.tmp 11) 25 rfl (w.heap.size + 1) 5 1 1 Add.sl25 (.slice (some ⟨w.heap.size + 1, 0, none⟩) 1 1) 1 [B 2] rfl (own_below (own_lit (by simp) (by simp) (by simp [B])) hb1) v1 8 (Bs (Num.num n)) rfl hr1 (Bs_one _) (by omega) (by omega) (by have := hb1.size; simp at this; omega) ?_; intro v2 w2 hown2 hg2 hat2))
  go_ret
  refine ⟨v2, rfl, RdB_cast (Rd.of_own hown2) (by simp [Add.enc, Num.num, Num.numL]) (by simp [Add.enc, Bs]), ?_⟩
  have := hb1.size
  exact ((below_alloc (below_new w _) _).trans (hb1.mono (by simp; omega))).grown hg2 (by simp at this; omega) (by simp [Value.ownBlock])

set_option maxHeartbeats 1000000 in
theorem value_null (k n : Int) (t : ByteArray) (w : World) (k1 : ¬ k = 1) (k2 : ¬ k = 2) :
    Calls Try.prog 17 #[.agg #[.int .i64 k, .int .i64 n, .string t]] w fun e w' => ∃ v', e = .returned v' ∧ RdB w' v' (Add.enc k n t.data.toList) ∧ Below w.heap.size w w' := by
  have b1 : (k == 1) = false := by simp [k1]
  have b2 : (k != 2) = true := by simp [k2]
  go_enter Try.func17, Try.ntmps17
  go_wp2
  go_ret
  refine ⟨_, rfl, ?_, below_alloc (below_new w _) _⟩
  have e : Add.enc k n t.data.toList = [1] := by simp [Add.enc, k1, k2]
  rw [e]
  exact RdB_of_new (by simp) (by simp [Bs, B])

/-- what the loop over a text's bytes keeps -/
def Inv (W : World) (t : ByteArray) (k : Nat) (v : Value) (wr : World) : Prop :=
  wr.ownsRow (W.heap.size) 5 1 v (3 :: (t.data.toList.take k).flatMap Add.esc).length (Bs (3 :: (t.data.toList.take k).flatMap Add.esc)) ∧ Below W.heap.size W wr
theorem Inv.step {W wr w1 : World} {t : ByteArray} {k n : Nat} {v v1 : Value} {o : Obj} {ys : List Value} (h : Inv W t k v wr) (hk : k < t.data.toList.length)
    (hown : w1.ownsRow W.heap.size 5 1 v1 n ys) (hn : n = (3 :: (t.data.toList.take k).flatMap Add.esc).length + (Add.esc t.data.toList[k]).length) (hy : ys = Bs (3 :: (t.data.toList.take k).flatMap Add.esc) ++ Bs (Add.esc t.data.toList[k]))
    (hg : (wr.alloc o).grownBy w1 v.ownBlock) : Inv W t (k + 1) v1 w1 := by
  obtain ⟨h1, h2⟩ := h
  refine ⟨own_cast hown (by rw [hn, Add.take_snoc _ k hk]; simp; omega) (by rw [hy, Add.take_snoc _ k hk]; simp [Bs]), ?_⟩
  have := h2.size
  exact (below_alloc h2 _).grown hg (by simp; omega) (fun g hg => (h1.lt g hg).1)

set_option maxHeartbeats 2000000 in
theorem value_text (n : Int) (t : ByteArray) (w : World) (ht : t.size ≤ 1000000) :
    Calls Try.prog 17 #[.agg #[.int .i64 2, .int .i64 n, .string t]] w fun e w' => ∃ v', e = .returned v' ∧ RdB w' v' (Add.enc 2 n t.data.toList) ∧ Below w.heap.size w w' := by
  have hts : t.data.toList.length = t.size := by rw [Array.length_toList]; rfl
  have HT := Lib.hid hts
  clear hts
  go_enter Try.func17, Try.ntmps17
  go_wp2
  go_loopw [3, 4] (fun v i wr => ∃ k : Nat, k ≤ t.size ∧ i = .int .i64 k ∧ Inv (w.alloc (.cells #[.int .i64 2, .int .i64 n, .string t] 23)) t k v wr) (fun _ i _ => t.size - (intOf i).toNat)
  case atStart =>
    refine ⟨0, Nat.zero_le _, rfl, ?_, ?_⟩
    · exact own_lit (by simp) (by simp) (by simp [Bs, B])
    · exact below_new _ _
  case round =>
    obtain ⟨k, hk, rfl, hinv⟩ := hrel
    have hc := bcell hinv.2
    have c2 : wr.cell? ⟨w.heap.size, 2, none⟩ = some (.string t) := by rw [hc _ _ (by simp), World.cell?_alloc_at _ _ _ _ rfl]; rfl
    clear hc
    by_cases hlt : k < t.size
    · have hl : k < t.data.toList.length := by rw [HT.out]; exact hlt
      have hlen1 : (3 :: (t.data.toList.take k).flatMap Add.esc).length ≤ 4000000 := by
        have := Add.esc_size (t.data.toList.take k)
        have h3 : (t.data.toList.take k).length ≤ k := List.length_take_le _ _
        simp only [List.length_cons]; omega
      have hbs := hinv.2.size
      have HI := Lib.hid hinv
      have howk := hinv.1
      clear hinv
      obtain ⟨cc, hcc⟩ : ∃ cc, cc = t[k] := ⟨_, rfl⟩
      have hct : (t[k].toNat : Int) = (cc.toNat : Int) := by rw [hcc]
      have HC : Hid (cc = t.data.toList[k]) := hcc.trans (by simp; rfl)
      clear hcc
      have hb255 : (cc.toNat : Int) ≤ 255 := by have := cc.toNat_lt; omega
      obtain ⟨m, hm⟩ : ∃ m, m = (3 :: (t.data.toList.take k).flatMap Add.esc).length := ⟨_, rfl⟩
      rw [← hm] at hlen1 howk
      have HM := Lib.hid hm
      clear hm
      by_cases h0 : (cc.toNat : Int) = 0
      · have e0 : ((cc.toNat : Int) == 0) = true := by simp [h0]
        have H0 := Lib.hid h0
        clear h0
        go_wp2_with (refine wpList_app _ rfl (.tmp 38) (.tmp 39) 25 rfl _ 5 1 1 Add.sl25 u3 m _ rfl (howk.alloc _) (.slice (some ⟨wr.heap.size, 0, none⟩) 2 2) 2 [.int .u8 1, .int .u8 1] rfl (Rd.new' (by simp) rfl (by simp)) (by simp [Value.oneCell']) (by omega) (by omega) (by simp; simp at hbs; omega) ?_; intro v3 w3 hown3 hg3 hat3)
        go_roundw
        case rel => exact ⟨k + 1, by omega, by go_num, HI.out.step hl hown3 (by rw [← HC.out, Add.len_lo cc (by rw [H0.out]; decide), HM.out]) (by rw [← HC.out, Add.esc_lo cc (by rw [H0.out]; decide), H0.out]; rfl) hg3⟩
        case measure => simp [intOf]; omega
      · have e0 : ((cc.toNat : Int) == 0) = false := by simp; omega
        by_cases h1 : (cc.toNat : Int) = 1
        · have e1 : ((cc.toNat : Int) == 1) = true := by simp [h1]
          have H1 := Lib.hid h1
          clear h0 h1
          go_wp2_with (refine wpList_app _ rfl (.tmp 43) (.tmp 44) 25 rfl _ 5 1 1 Add.sl25 u3 m _ rfl (howk.alloc _) (.slice (some ⟨wr.heap.size, 0, none⟩) 2 2) 2 [.int .u8 1, .int .u8 2] rfl (Rd.new' (by simp) rfl (by simp)) (by simp [Value.oneCell']) (by omega) (by omega) (by simp; simp at hbs; omega) ?_; intro v3 w3 hown3 hg3 hat3)
          go_roundw
          case rel => exact ⟨k + 1, by omega, by go_num, HI.out.step hl hown3 (by rw [← HC.out, Add.len_lo cc (by rw [H1.out]; decide), HM.out]) (by rw [← HC.out, Add.esc_lo cc (by rw [H1.out]; decide), H1.out]; rfl) hg3⟩
          case measure => simp [intOf]; omega
        · have e1 : ((cc.toNat : Int) == 1) = false := by simp; omega
          have h2 : 1 < (cc.toNat : Int) := by omega
          clear h0 h1
          go_wp2_with (refine wpList_app _ rfl (.tmp 29) (.tmp 34) 25 rfl _ 5 1 1 Add.sl25 u3 m _ rfl (howk.alloc _) (.slice (some ⟨wr.heap.size, 0, none⟩) 1 1) 1 [.int .u8 (cc.toNat : Int)] rfl (Rd.new' (by simp) rfl (by simp)) (by simp [Value.oneCell']) (by omega) (by omega) (by simp; simp at hbs; omega) ?_; intro v3 w3 hown3 hg3 hat3)
          go_roundw
          case rel => exact ⟨k + 1, by omega, by go_num, HI.out.step hl hown3 (by rw [← HC.out, Add.len_hi cc h2, HM.out]) (by rw [← HC.out, Add.esc_hi cc h2]) hg3⟩
          case measure => simp [intOf]; omega
    · have hkk : k = t.size := by omega
      subst hkk
      obtain ⟨h1, h3⟩ := hinv
      rw [List.take_of_length_le (Nat.le_of_eq HT.out)] at h1
      have hlen1 : (3 :: t.data.toList.flatMap Add.esc).length ≤ 4000000 := by
        have := Add.esc_size t.data.toList
        rw [HT.out] at this
        simp only [List.length_cons]; omega
      have hbs := h3.size
      obtain ⟨m, hm⟩ : ∃ m, m = (3 :: t.data.toList.flatMap Add.esc).length := ⟨_, rfl⟩
      rw [← hm] at hlen1 h1
      have HM := Lib.hid hm
      have H3 := Lib.hid h3
      clear hm h3
      go_wp2_with (refine wpList_app _ rfl (.tmp 46) (.tmp 47) 25 rfl _ 5 1 1 Add.sl25 u3 m _ rfl (h1.alloc _) (.slice (some ⟨wr.heap.size, 0, none⟩) 1 1) 1 [B 0] rfl (Rd.new' (by simp) rfl (by simp [B])) (by simp [B, Value.oneCell']) (by omega) (by omega) (by simp; simp at hbs; omega) ?_; intro v3 w3 hown3 hg3 hat3)
      go_ret
      refine ⟨v3, rfl, RdB_cast (Rd.of_own hown3) (by rw [HM.out]; simp [Add.enc]) (by simp [Add.enc, Bs]), ?_⟩
      refine (below_step (below_new w _) (below_alloc H3.out _)).grown hg3 (by simp; simp at hbs; omega) (fun g hg => ?_)
      have := (h1.lt g hg).1
      simp at this; omega

theorem value_any (k n : Int) (t : ByteArray) (w : World) (h1 : -9223372036854775808 ≤ n) (h2 : n ≤ 9223372036854775807) (ht : t.size ≤ 1000000) :
    Calls Try.prog 17 #[.agg #[.int .i64 k, .int .i64 n, .string t]] w fun e w' => ∃ v', e = .returned v' ∧ RdB w' v' (Add.enc k n t.data.toList) ∧ Below w.heap.size w w' := by
  by_cases k1 : k = 1
  · subst k1; exact value_int n t w h1 h2
  · by_cases k2 : k = 2
    · subst k2; exact value_text n t w ht
    · exact value_null k n t w k1 k2
end Go.Proofs.Ytloeiobbcgdopaa.R5
