/- rowcodec.add, Encode, EncodeRow. -/
import Derived.Test.YtloeiobbcgdopaaNum
import Derived.Deep.RegionLaw
import Derived.Deep.RegionHeld3
namespace Go.Proofs.Ytloeiobbcgdopaa.Add
open Go.RowKit L

def esc (c : UInt8) : List UInt8 := if c ≤ 1 then [1, c + 1] else [c]
/-- the encoding of a value -/
def enc (k n : Int) (t : List UInt8) : List UInt8 :=
  if k = 1 then 2 :: Num.num n else if k = 2 then 3 :: (t.flatMap esc ++ [0]) else [1]

theorem u8z : (Try.prog.info? 5).map (·.zero) = some (some (.int .u8 0)) := by kernel_rfl
theorem sl25 : SlT Try.prog 25 5 1 1 := SlT.mk' (z := .int .u8 0) Try.underlying25 (by kernel_rfl) rfl (by decide)

theorem new2_ne (w : World) (o o' : Obj) : ¬ (some (((w.alloc o).alloc o').drew.heap.size) = some w.heap.size) := by
  intro e; injection e with e; simp only [World.size_alloc, World.size_drew] at e; omega
set_option maxHeartbeats 1000000 in
theorem add_int (base : Nat) (v0 : Value) (xs : List UInt8) (n : Int) (t : ByteArray) (w : World) (hown : w.ownsRow base 5 1 v0 xs.length (Bs xs)) (hbase : base ≤ w.heap.size)
    (h1 : -9223372036854775808 ≤ n) (h2 : n ≤ 9223372036854775807) (hlen : xs.length ≤ 1000000) :
    Calls Try.prog 30 #[v0, .agg #[.int .i64 1, .int .i64 n, .string t]] w fun e w' => ∃ v', e = .returned v' ∧ w'.ownsRow base 5 1 v' (xs ++ enc 1 n t.data.toList).length (Bs (xs ++ enc 1 n t.data.toList)) ∧ w.grownBy w' v0.ownBlock := by
  go_enter Try.func30, Try.ntmps30
  go_wp2
  have hlt := hown.lt
  go_region_held3 (fun w' => w'.cell? ⟨w.heap.size, 1, none⟩ = some (.int .i64 n)) (first | go_keep | (refine hg1.cell (by simp) (fun e => ?_); have := (hlt _ e.symm).2; simp at this) | exact Keep.of_below hb _ _ (by assumption) | exact hg2.cell (by assumption) hne1.symm)
   (first
    | (go_at_call 23; refine (Num.number_any n _ h1 h2).mono ?_; rintro e w' ⟨rfl, hb⟩)
    | (refine step_app _ (by rfl) (.tmp 11) (.tmp 12) 25 (by rfl) base 5 1 1 sl25 v0 xs.length (Bs xs) (by rfl) ?_ (.slice (some ⟨w.heap.size + 1, 0, none⟩) 1 1) 1 [B 2] (by rfl) ?_ ?_ ?_ ?_ ?_ ?_
       exact own_drew ((hown.alloc _).alloc _)
       exact Rd.drew (Rd.new' (by simp) rfl (by simp [B]))
       simp [B, Value.oneCell']
       omega
       omega
       (simp; omega)
       intro v1 w1 hown1 hg1 hat1
       have hne1 : v1.ownBlock ≠ some w.heap.size := fun e => (hat1.elim (fun h => absurd (hlt _ (h ▸ e)).2 (Nat.lt_irrefl _)) (fun h => new2_ne _ _ _ (h.symm.trans e))))
    | (refine step_app_str _ (by rfl) (.tmp 13) (.tmp 16) 25 9 (by rfl) base 5 sl25 u8z Try.underlying9 v1 (xs.length + 1) (Bs xs ++ [B 2]) (by rfl) ?_ ⟨(Num.num n).toArray⟩ (by rfl) ?_ ?_ ?_
       exact own_below hown1 hb
       (simp [ByteArray.size, Num.num, Num.numL]; omega)
       (have h5 := hg1.size; have h6 := hb.size; simp at h5; omega)
       intro v2 w2 hown2 hg2))
  go_wp2
  go_ret
  refine ⟨v2, rfl, own_cast hown2 (by simp [enc, Num.num, Num.numL, ByteArray.size]) (by simp [enc, Bs]), ?_⟩
  have hz : w.heap.size ≤ w1.heap.size := by have h5 := hg1.size; simp at h5; omega
  have g1 : w.grownBy w1 v0.ownBlock := grown_trans (grown_of_below ((below_new w _).trans ((below_new _ _).mono (by simp))).drew _) hg1 (.inl rfl)
  refine grown_trans (grown_trans g1 (grown_of_below hb none) (.inr (by simp))) hg2 (hat1.imp id (fun h g hg => ?_))
  rw [h] at hg; injection hg with hg; rw [← hg]; simp; omega

set_option maxHeartbeats 1000000 in
theorem add_null (base : Nat) (v0 : Value) (xs : List UInt8) (k n : Int) (t : ByteArray) (w : World) (hown : w.ownsRow base 5 1 v0 xs.length (Bs xs)) (hbase : base ≤ w.heap.size)
    (k1 : ¬ k = 1) (k2 : ¬ k = 2) (hlen : xs.length ≤ 1000000) :
    Calls Try.prog 30 #[v0, .agg #[.int .i64 k, .int .i64 n, .string t]] w fun e w' => ∃ v', e = .returned v' ∧ w'.ownsRow base 5 1 v' (xs ++ enc k n t.data.toList).length (Bs (xs ++ enc k n t.data.toList)) ∧ w.grownBy w' v0.ownBlock := by
  have b1 : (k == 1) = false := by simp [k1]
  have b2 : (k == 2) = false := by simp [k2]
  go_enter Try.func30, Try.ntmps30
  go_wp2_with (refine wpList_app _ rfl (.tmp 46) (.tmp 47) 25 rfl base 5 1 1 sl25 v0 xs.length (Bs xs) rfl ((hown.alloc _).alloc _) (.slice (some ⟨w.heap.size + 1, 0, none⟩) 1 1) 1 [B 1] rfl (Rd.new' (by simp) rfl (by simp [B])) (by simp [B, Value.oneCell']) (by omega) (by omega) (by simp; omega) ?_; intro v1 w1 hown1 hg1 hat1)
  go_ret
  refine ⟨v1, rfl, own_cast hown1 (by simp [enc, k1, k2]) (by simp [enc, k1, k2, Bs]), ?_⟩
  exact grown_trans (grown_of_below ((below_new w _).trans ((below_new _ _).mono (by simp))) _) hg1 (.inl rfl)

theorem esc_size (l : List UInt8) : (l.flatMap esc).length ≤ 2 * l.length := by
  induction l with
  | nil => simp
  | cons c l ih => simp only [List.flatMap_cons, List.length_append, List.length_cons]; have : (esc c).length ≤ 2 := by unfold esc; split <;> simp
                   omega
theorem take_snoc (l : List UInt8) (k : Nat) (h : k < l.length) : (l.take (k + 1)).flatMap esc = (l.take k).flatMap esc ++ esc l[k] := by
  rw [List.take_succ_eq_append_getElem h, List.flatMap_append]; simp

/-- what the loop over a text's bytes keeps -/
def Inv (w : World) (base g : Nat) (v0 : Value) (xs l : List UInt8) (k : Nat) (v : Value) (wr : World) : Prop :=
  wr.ownsRow base 5 1 v (xs ++ 3 :: (l.take k).flatMap esc).length (Bs (xs ++ 3 :: (l.take k).flatMap esc)) ∧ (∀ j (hj : j < l.length), wr.cell? ⟨g, j, none⟩ = some (B l[j])) ∧
  w.grownBy wr v0.ownBlock ∧ v.ownBlock ≠ some g ∧ (v.ownBlock = v0.ownBlock ∨ ∃ h, v.ownBlock = some h ∧ w.heap.size ≤ h) ∧ g < wr.heap.size

theorem Inv.step {w wr w1 : World} {base g : Nat} {v0 v v1 : Value} {xs l : List UInt8} {k n : Nat} {o : Obj} {ys : List Value} (h : Inv w base g v0 xs l k v wr) (hk : k < l.length)
    (hown : w1.ownsRow base 5 1 v1 n ys) (hn : n = (xs ++ 3 :: (l.take k).flatMap esc).length + (esc l[k]).length) (hy : ys = Bs (xs ++ 3 :: (l.take k).flatMap esc) ++ Bs (esc l[k]))
    (hg : (wr.alloc o).grownBy w1 v.ownBlock) (hat : v1.ownBlock = v.ownBlock ∨ v1.ownBlock = some (wr.alloc o).heap.size) : Inv w base g v0 xs l (k + 1) v1 w1 := by
  obtain ⟨h1, h2, h3, h4, h5, h6⟩ := h
  have hz : wr.heap.size + 1 ≤ w1.heap.size := by have := hg.size; simpa using this
  have hz0 := h3.size
  refine ⟨own_cast hown (by rw [hn, take_snoc l k hk]; simp; omega) (by rw [hy, take_snoc l k hk]; simp [Bs]), fun j hj => ?_, ?_, ?_, ?_, by omega⟩
  · exact hg.cell (Keep.of_below (below_new wr o) _ _ (h2 j hj)) (fun e => h4 e.symm)
  · refine grown_trans (grown_trans h3 (grown_of_below (below_new wr o) none) (.inr (by simp))) hg ?_
    rcases h5 with h5 | ⟨x, h5, h7⟩
    · exact .inl h5
    · exact .inr (fun y hy => by rw [h5] at hy; injection hy with hy; omega)
  · rcases hat with h | h <;> rw [h]
    · exact h4
    · intro e; injection e with e; simp at e; omega
  · rcases hat with h | h
    · rw [h]; exact h5
    · exact .inr ⟨_, h, by simp; omega⟩

theorem Inv.start {w w1 w2 : World} {base : Nat} {v0 v1 : Value} {xs l : List UInt8} (hown1 : w1.ownsRow base 5 1 v1 (xs.length + 1) (Bs xs ++ [B 3])) (g1 : w.grownBy w1 v0.ownBlock)
    (hat : v1.ownBlock = v0.ownBlock ∨ ∃ h, v1.ownBlock = some h ∧ w.heap.size ≤ h) (hb : Below w1.heap.size w1 w2) (hz : w2.heap.size = w1.heap.size + 1)
    (hc : ∀ j (hj : j < l.length), w2.cell? ⟨w1.heap.size, j, none⟩ = some (B l[j])) : Inv w base w1.heap.size v0 xs l 0 v1 w2 := by
  refine ⟨own_cast (own_below hown1 hb) (by simp) (by simp [Bs]), hc, grown_trans g1 (grown_of_below hb none) (.inr (by simp)), fun e => absurd (hown1.lt _ e).2 (Nat.lt_irrefl _), hat, by omega⟩
theorem esc_lo (c : UInt8) (h : (c.toNat : Int) ≤ 1) : Bs (esc c) = [.int .u8 1, .int .u8 ((c.toNat : Int) + 1)] := by
  have h1 : c ≤ 1 := by rw [UInt8.le_iff_toNat_le]; simp; omega
  simp [esc, h1, Bs, B]; omega
theorem esc_hi (c : UInt8) (h : 1 < (c.toNat : Int)) : Bs (esc c) = [.int .u8 (c.toNat : Int)] := by
  have h1 : ¬ c ≤ 1 := by rw [UInt8.le_iff_toNat_le]; simp; omega
  simp [esc, h1, Bs, B]
theorem len_lo (c : UInt8) (h : (c.toNat : Int) ≤ 1) : (esc c).length = 2 := by have := congrArg List.length (esc_lo c h); rwa [Bs_length] at this
theorem len_hi (c : UInt8) (h : 1 < (c.toNat : Int)) : (esc c).length = 1 := by have := congrArg List.length (esc_hi c h); rwa [Bs_length] at this

set_option maxHeartbeats 1000000 in
theorem add_text (base : Nat) (v0 : Value) (xs : List UInt8) (n : Int) (t : ByteArray) (w : World) (hown : w.ownsRow base 5 1 v0 xs.length (Bs xs)) (hbase : base ≤ w.heap.size)
    (hlen : xs.length ≤ 1000000) (ht : t.size ≤ 1000000) :
    Calls Try.prog 30 #[v0, .agg #[.int .i64 2, .int .i64 n, .string t]] w fun e w' => ∃ v', e = .returned v' ∧ w'.ownsRow base 5 1 v' (xs ++ enc 2 n t.data.toList).length (Bs (xs ++ enc 2 n t.data.toList)) ∧ w.grownBy w' v0.ownBlock := by
  have hlt := hown.lt
  have HV : Hid (v0.ownBlock ≠ some w.heap.size) := fun e => absurd (hlt _ e).2 (Nat.lt_irrefl _)
  have hts : t.data.toList.length = t.size := by rw [Array.length_toList]; rfl
  have HT := Lib.hid hts
  clear hts
  go_enter Try.func30, Try.ntmps30
  go_wp2_with (first
    | (refine wpList_app _ rfl (.tmp 20) (.tmp 21) 25 rfl base 5 1 1 sl25 v0 xs.length (Bs xs) rfl ((hown.alloc _).alloc _) (.slice (some ⟨w.heap.size + 1, 0, none⟩) 1 1) 1 [B 3] rfl (Rd.new' (by simp) rfl (by simp [B])) (by simp [B, Value.oneCell']) (by omega) (by omega) (by simp; omega) ?_; intro v1 w1 hown1 hg1 hat1; have hb1 : w1.cell? ⟨w.heap.size, 2, none⟩ = some (.string t) := hg1.cell (by simp) (fun e => HV.out e.symm))
    | (refine wpList_conv_sb _ rfl (.tmp 24) 9 25 5 rfl t rfl Try.underlying9 Try.underlying25 Try.underlying5 ?_; intro c w2 hz2 hc2 hf2 hb2; have Hz2 := Lib.hid hz2; have Hc2 := Lib.hid hc2; clear hz2 hc2 hf2))
  go_loopw [0, 6, 27] (fun v c i wr => ∃ k : Nat, k ≤ t.size ∧ i = .int .i64 k ∧ Inv w base w1.heap.size v0 xs t.data.toList k v wr) (fun _ _ i _ => t.size - (intOf i).toNat)
  case atStart =>
    refine ⟨0, Nat.zero_le _, rfl, Inv.start hown1 (grown_trans (grown_of_below ((below_new w _).trans ((below_new _ _).mono (by simp))) _) hg1 (.inl rfl)) (hat1.imp id (fun h => ⟨_, h, by simp; omega⟩)) hb2 Hz2.out Hc2.out⟩
  case round =>
    obtain ⟨k, hk, rfl, hinv⟩ := hrel
    by_cases hlt : k < t.size
    · have hl : k < t.data.toList.length := by rw [HT.out]; exact hlt
      have hc := hinv.2.1 k hl
      have hlen1 : (xs ++ 3 :: (t.data.toList.take k).flatMap esc).length ≤ 4000000 := by
        have := esc_size (t.data.toList.take k)
        have h3 : (t.data.toList.take k).length ≤ k := List.length_take_le _ _
        simp only [List.length_append, List.length_cons]; omega
      have HI := Lib.hid hinv
      have hbs : base ≤ wr.heap.size := Nat.le_trans hbase hinv.2.2.1.size
      have howk := hinv.1
      clear hinv hat1 hb1
      obtain ⟨cc, hcc⟩ : ∃ cc, cc = t.data.toList[k] := ⟨_, rfl⟩
      rw [← hcc] at hc
      have HC := Lib.hid hcc
      clear hcc
      unfold B at hc
      have hb255 : (cc.toNat : Int) ≤ 255 := by have := cc.toNat_lt; omega
      obtain ⟨m, hm⟩ : ∃ m, m = (xs ++ 3 :: (t.data.toList.take k).flatMap esc).length := ⟨_, rfl⟩
      rw [← hm] at hlen1 howk
      have HM := Lib.hid hm
      clear hm
      by_cases h1 : (cc.toNat : Int) ≤ 1
      · go_wp2_with (refine wpList_app _ rfl (.tmp 33) (.tmp 36) 25 rfl base 5 1 1 sl25 _ m _ rfl (howk.alloc _) (.slice (some ⟨wr.heap.size, 0, none⟩) 2 2) 2 [.int .u8 1, .int .u8 ((cc.toNat : Int) + 1)] rfl (Rd.new' (by simp) rfl (by simp)) (by simp [Value.oneCell']) (by omega) (by omega) (by simp; omega) ?_; intro v3 w3 hown3 hg3 hat3)
        go_roundw
        case rel => exact ⟨k + 1, by omega, by go_num, HI.out.step hl hown3 (by rw [← HC.out, len_lo cc h1, HM.out]) (by rw [← HC.out, esc_lo cc h1]) hg3 hat3⟩
        case measure => simp [intOf]; omega
      · have h1' : 1 < (cc.toNat : Int) := by omega
        go_wp2_with (refine wpList_app _ rfl (.tmp 38) (.tmp 40) 25 rfl base 5 1 1 sl25 _ m _ rfl (howk.alloc _) (.slice (some ⟨wr.heap.size, 0, none⟩) 1 1) 1 [.int .u8 (cc.toNat : Int)] rfl (Rd.new' (by simp) rfl (by simp)) (by simp [Value.oneCell']) (by omega) (by omega) (by simp; omega) ?_; intro v3 w3 hown3 hg3 hat3)
        go_roundw
        case rel => exact ⟨k + 1, by omega, by go_num, HI.out.step hl hown3 (by rw [← HC.out, len_hi cc h1', HM.out]) (by rw [← HC.out, esc_hi cc h1']) hg3 hat3⟩
        case measure => simp [intOf]; omega
    · have hkk : k = t.size := by omega
      subst hkk
      obtain ⟨h1, _, h3, h4, h5, _⟩ := hinv
      rw [List.take_of_length_le (Nat.le_of_eq HT.out)] at h1
      have hlen1 : (xs ++ 3 :: t.data.toList.flatMap esc).length ≤ 4000000 := by
        have := esc_size t.data.toList
        rw [HT.out] at this
        simp only [List.length_append, List.length_cons]; omega
      have hbs : base ≤ wr.heap.size := Nat.le_trans hbase h3.size
      obtain ⟨m, hm⟩ : ∃ m, m = (xs ++ 3 :: t.data.toList.flatMap esc).length := ⟨_, rfl⟩
      rw [← hm] at hlen1 h1
      have HM := Lib.hid hm
      have H3 := Lib.hid h3
      have H5 := Lib.hid h5
      clear hm h3 h5 hat1 hb1 h4
      go_wp2_with (refine wpList_app _ rfl (.tmp 43) (.tmp 44) 25 rfl base 5 1 1 sl25 u0 m _ rfl (h1.alloc _) (.slice (some ⟨wr.heap.size, 0, none⟩) 1 1) 1 [B 0] rfl (Rd.new' (by simp) rfl (by simp [B])) (by simp [B, Value.oneCell']) (by omega) (by omega) (by simp; omega) ?_; intro v3 w3 hown3 hg3 hat3)
      go_ret
      refine ⟨v3, rfl, own_cast hown3 (by rw [HM.out]; simp [enc]; omega) (by simp [enc, Bs]), ?_⟩
      refine grown_trans (grown_trans H3.out (grown_of_below (below_new wr _) none) (.inr (by simp))) hg3 ?_
      rcases H5.out with h | ⟨x, h, h'⟩
      · exact .inl h
      · exact .inr (fun y hy => by rw [h] at hy; injection hy with hy; omega)

/-- rowcodec.add appends the encoding of a value. -/
theorem add_any (base : Nat) (v0 : Value) (xs : List UInt8) (k n : Int) (t : ByteArray) (w : World) (hown : w.ownsRow base 5 1 v0 xs.length (Bs xs)) (hbase : base ≤ w.heap.size)
    (h1 : -9223372036854775808 ≤ n) (h2 : n ≤ 9223372036854775807) (hlen : xs.length ≤ 1000000) (ht : t.size ≤ 1000000) :
    Calls Try.prog 30 #[v0, .agg #[.int .i64 k, .int .i64 n, .string t]] w fun e w' => ∃ v', e = .returned v' ∧ w'.ownsRow base 5 1 v' (xs ++ enc k n t.data.toList).length (Bs (xs ++ enc k n t.data.toList)) ∧ w.grownBy w' v0.ownBlock := by
  by_cases k1 : k = 1
  · subst k1; exact add_int base v0 xs n t w hown hbase h1 h2 hlen
  · by_cases k2 : k = 2
    · subst k2; exact add_text base v0 xs n t w hown hbase hlen ht
    · exact add_null base v0 xs k n t w hown hbase k1 k2 hlen

theorem encode_any (k n : Int) (t : ByteArray) (w : World) (h1 : -9223372036854775808 ≤ n) (h2 : n ≤ 9223372036854775807) (ht : t.size ≤ 1000000) :
    Calls Try.prog 12 #[.agg #[.int .i64 k, .int .i64 n, .string t]] w fun e w' => ∃ v', e = .returned v' ∧ RdB w' v' (enc k n t.data.toList) ∧ Below w.heap.size w w' := by
  go_enter Try.func12, Try.ntmps12
  go_wp2_with (go_at_call 30; refine (add_any _ _ [] k n t _ (World.ownsRow_nil _ w.heap.size _ _) (by simp) h1 h2 (by simp) ht).mono ?_; rintro e w' ⟨v', rfl, hown, hg⟩)
  go_ret
  exact ⟨v', rfl, Rd.of_own hown, (below_new w _).trans ((below_of_grown hg (by simp [Value.ownBlock])).mono (by simp))⟩
end Go.Proofs.Ytloeiobbcgdopaa.Add
