/- Parts of the proof, one after the other: W56, W57, W58, W59, W60, W61, W62, W63, W64, W65, R2. No condition. -/
import Derived.Test.YtihlgigaejhilaaGreatDoorM20
import Derived.Lib.SplitLaws
import Derived.Lib.ReplaceLaws
set_option linter.unusedSectionVars false
set_option linter.unusedSimpArgs false
set_option linter.unusedVariables false
namespace Go.Proofs.YtihlgigaejhilaaGreatDoor.W
open Go.RowKit E
/-! numbers and quoted texts -/
def decB (n : Nat) : ByteArray := ⟨(Lib.decDigits n).toArray⟩
theorem decD_len (n : Nat) : n < 10000000000 → (Lib.decDigits n).length ≤ 10 := by
  intro h
  have key : ∀ k m : Nat, m < 10 ^ (k + 1) → (Lib.decDigits m).length ≤ k + 1 := by
    intro k
    induction k with
    | zero => intro m hm; rw [Lib.decDigits, dif_pos (by omega)]; simp
    | succ k ih =>
      intro m hm
      rw [Lib.decDigits]
      by_cases h10 : m < 10
      · rw [dif_pos h10]; simp
      · rw [dif_neg h10, List.length_append]
        have := ih (m / 10) (by rw [Nat.pow_succ] at hm; omega)
        simp; omega
  exact key 9 n (by omega)
theorem decB_size {n : Nat} (h : n < 10000000000) : (decB n).size ≤ 10 := by
  have := decD_len n h
  show (Lib.decDigits n).toArray.size ≤ 10
  rw [List.size_toArray]; exact this
theorem fmtInt_b {n : Nat} (h : n < 10000000000) : Pure Tryz.prog 157 [iC (n : Int), iC 10] (.c (sC (decB n))) :=
  Pure.of_grow [.int .i64 (n : Int), .int .i64 10] (fun w hw => by
    have h1 := Tryz.strconv_FormatInt_10 (n : Int) (by omega) (by omega) w (tabIs (g := 1) hw (by kernel_rfl) rfl)
    refine h1.mono ?_
    rintro e w' ⟨rfl, h2⟩
    refine ⟨?_, h2⟩
    rw [Lib.itoa, if_neg (by omega), Int.toNat_natCast]; rfl) fun c => .t (.v rfl)
theorem w8d {n : Int} (h : 0 ≤ n) (h' : n ≤ 255) : IntKind.u8.wrap n = n := by
  simp only [IntKind.wrap, IntKind.bits, IntKind.signed, Bool.false_and, Bool.false_eq_true, if_false]; omega
theorem quo10 {n : Nat} (h : n < 10000000000) : IntKind.i64.wrap ((n : Int).tdiv 10) = ((n / 10 : Nat) : Int) := by
  have h1 : (n : Int).tdiv 10 = ((n / 10 : Nat) : Int) := rfl
  rw [h1, w64 (by omega) (by omega)]
theorem dec_lo {n : Nat} (h : n < 10) : bStr [48 + (n : Int)] = decB n := by
  have h1 : Lib.decDigits n = [UInt8.ofNat (48 + n)] := by rw [Lib.decDigits, dif_pos h]
  rw [decB, h1]
  show ByteArray.empty.push (UInt8.ofNat (48 + (n : Int)).toNat) = _
  rw [show (48 + (n : Int)).toNat = 48 + n by omega]; rfl
theorem dec_hi {n : Nat} (h : ¬ n < 10) : decB (n / 10) ++ decB (n % 10) = decB n := by
  have e : Lib.decDigits n = Lib.decDigits (n / 10) ++ [UInt8.ofNat (48 + n % 10)] := by rw [Lib.decDigits, dif_neg h]
  have e2 : Lib.decDigits (n % 10) = [UInt8.ofNat (48 + n % 10)] := by rw [Lib.decDigits, dif_pos (by omega)]
  rw [decB, decB, decB, e, e2]
  apply ByteArray.ext
  simp [ByteArray.data_append]
/-- a text with each quote twice -/
def qtL (l : List UInt8) : List UInt8 := l.flatMap fun b => if b = 39 then [39, 39] else [b]
theorem rep_qt : ∀ l : List UInt8, Lib.replaceK [39] [39, 39] (Lib.count l [39]) l = qtL l
  | [] => by rw [Lib.count_one]; rfl
  | b :: l => by
    have ih := rep_qt l
    by_cases h : b = 39
    · subst h
      rw [Lib.count_cons_eq, Nat.add_comm, Lib.replaceK_hit _ _ _ _ 0 (by rw [Lib.index]; simp [List.isPrefixOf])]
      simp only [qtL, List.flatMap_cons] at ih ⊢
      rw [← ih]; simp
    · rw [Lib.count_cons_ne _ _ _ h]
      cases hc : Lib.count l [39] with
      | zero =>
        rw [hc] at ih
        rw [Lib.replaceK] at ih ⊢
        simp only [qtL, List.flatMap_cons] at ih ⊢
        rw [← ih, if_neg h]; rfl
      | succ k =>
        obtain ⟨i, hi⟩ := Lib.index_of_count (s := l) (old := [39]) (by omega)
        have hp : ([39] : List UInt8).isPrefixOf (b :: l) = false := by simp [List.isPrefixOf, Ne.symm h]
        have hix : Lib.index (b :: l) [39] = ((i + 1 : Nat) : Int) := by
          rw [Lib.index, hp, hi]; simp
        rw [Lib.replaceK_hit _ _ _ _ _ hix]
        rw [hc, Lib.replaceK_hit _ _ _ _ _ hi] at ih
        simp only [qtL, List.flatMap_cons] at ih ⊢
        rw [← ih, if_neg h]; simp
def qtB (u : ByteArray) : ByteArray := ⟨(qtL u.data.toList).toArray⟩
theorem qtL_len : ∀ l : List UInt8, (qtL l).length ≤ 2 * l.length
  | [] => by simp [qtL]
  | b :: l => by
    have := qtL_len l
    have e : qtL (b :: l) = (if b = 39 then [39, 39] else [b]) ++ qtL l := by simp [qtL]
    rw [e, List.length_append, List.length_cons]
    split <;> simp only [List.length_cons, List.length_nil] <;> omega
theorem qtB_size {u : ByteArray} : (qtB u).size ≤ 2 * u.size := by
  have := qtL_len u.data.toList
  rw [ba_len] at this
  show (qtL u.data.toList).toArray.size ≤ _
  rw [List.size_toArray]; exact this
theorem replace_b {u : ByteArray} (h : u.size ≤ 100000) : Pure Tryz.prog 150 [sC u, sC ⟨#[39]⟩, sC ⟨#[39, 39]⟩] (.c (sC (qtB u))) :=
  Pure.of_below [.string u, .string ⟨#[39]⟩, .string ⟨#[39, 39]⟩] (fun w hw => by
    obtain ⟨m, hm⟩ := hw.int (g := 0) rfl
    have hs : (⟨#[39]⟩ : ByteArray).size = 1 := rfl
    have hs2 : (⟨#[39, 39]⟩ : ByteArray).size = 2 := rfl
    have hc := Lib.countB_mul_le ⟨#[39]⟩ (by rw [hs]; decide) u.size u (Nat.le_refl _)
    rw [hs] at hc
    refine (Tryz.strings_ReplaceAll u ⟨#[39]⟩ ⟨#[39, 39]⟩ m w (by omega) hm (by rw [hs]; decide) (by rw [hs2]; omega)).mono ?_
    rintro e w' ⟨rfl, h2⟩
    refine ⟨?_, h2⟩
    have e1 : Lib.replaceAll u.data.toList [39] [39, 39] = qtL u.data.toList := by
      rw [Lib.replaceAll, Lib.replace, if_neg (by decide), Lib.replaceNum, if_pos (.inl (by decide)), rep_qt]
    show Ending.returned (.string ⟨(Lib.replaceAll u.data.toList [39] [39, 39]).toArray⟩) = _
    rw [e1]; rfl) fun c => .t (.v rfl)

set_option maxRecDepth 20000 in
theorem number_any (n : Nat) (h : n < 10000000000) : Pure Tryz.prog 149 [iC (n : Int)] (.c (sC (decB n))) := by
 intro H
 refine Spec.enter Tryz.func149 rfl ?_
 refine AW.wk (Wk.keep 5 [(0, .c (iC (n : Int)))] [] (H) rfl ⟨rfl, trivial⟩ trivial (fun _ _ h => h) rfl) ?_
 refine sR (sB ?_)
 refine sR (sM ?_)
 refine Z22 Fx.fn157 (fmtInt_b h) ?_
 refine sB ?_
 refine AW.ret ?_
 exact f1 (q := ⟨rfl, rfl⟩)

set_option maxHeartbeats 8000000 in
set_option maxRecDepth 20000 in
theorem num_of (n : Nat) (hn : n < 10000000000) (ih : ∀ m : Nat, m < n → Pure Tryz.prog 117 [iC (m : Int)] (.c (sC (decB m)))) : Pure Tryz.prog 117 [iC (n : Int)] (.c (sC (decB n))) := by
 intro H
 refine Spec.enter Tryz.func117 rfl ?_
 refine AW.wk (Wk.keep 23 [(0, .c (iC (n : Int)))] [] (H) rfl ⟨rfl, trivial⟩ trivial (fun _ _ h => h) rfl) ?_
 refine sR (sB ?_)
 refine AW.seq (sR (sM ?_))
 refine Z10 ?_
 refine Z3 ?_
 refine AW.condD rfl ?_ ?_ <;> intro h4
 ·
  exfalso; omega
 refine AW.skip (AW.seq (sR (sM ?_)))
 refine Z10 ?_
 refine Z3 ?_
 refine AW.condD rfl ?_ ?_ <;> intro h10
 ·
  refine sR (sM ?_)
  refine Z2 ?_
  refine SeqK.q (q_conv _ rfl Fx.un5 rfl ((by show IntKind.u8.wrap _ = 48 + (n : Int); exact w8d (by omega) (by omega))) ⟨_, Fx.un2⟩) rfl rfl rfl ?_
  refine Z38 Fx.el133 ?_
  refine SeqK.q (q_convBS (l := [48 + (n : Int)]) rfl Fx.un133 Fx.un5 Fx.un9 rfl) rfl rfl rfl ?_
  refine sB ?_
  refine AW.ret ?_
  exact f1 (q := ⟨by rw [dec_lo (by omega)], rfl⟩)
 have hz1 := decB_size (n := n / 10) (by omega)
 have hz2 := decB_size (n := n % 10) (by omega)
 refine AW.skip (sR (sM ?_))
 refine SeqK.q (q_quo _ rfl rfl rfl (by decide) (quo10 hn)) rfl rfl rfl ?_
 refine SeqK.q (q_call _ rfl Fx.fn117 rfl (ih (n / 10) (by omega)) rfl) rfl rfl rfl ?_
 refine sM ?_
 refine SeqK.q (q_remC (c := ((n % 10 : Nat) : Int)) rfl rfl rfl (by decide) rfl) rfl rfl rfl ?_
 refine SeqK.q (q_call _ rfl Fx.fn117 rfl (ih (n % 10) (by omega)) rfl) rfl rfl rfl ?_
 refine SeqK.q (q_addS rfl rfl rfl (by omega)) rfl rfl rfl ?_
 refine sB ?_
 refine AW.ret ?_
 exact f1 (q := ⟨by rw [dec_hi (by omega)], rfl⟩)

theorem num_any (n : Nat) : n < 10000000000 → Pure Tryz.prog 117 [iC (n : Int)] (.c (sC (decB n))) := by
  induction n using Nat.strongRecOn with
  | ind n ih => exact fun h => num_of n h fun m hm => ih m hm (by omega)
theorem I_nat {P : Int → Prop} {v : Int} (h0 : 0 ≤ v) (h : ∀ n : Nat, n = v.toNat → P (n : Int)) : P v := by
  have := h v.toNat rfl
  rwa [Int.toNat_of_nonneg h0] at this

abbrev qS (l : List UInt8) : ByteArray := ⟨⟨(39 : UInt8) :: qtL l⟩⟩
theorem qtL_take {l : List UInt8} {i : Nat} (hi : i < l.length) : qtL (l.take (i + 1)) = qtL (l.take i) ++ if l[i] = 39 then [39, 39] else [l[i]] := by
  rw [take_put hi, qtL, qtL, List.flatMap_append]; simp
theorem ba_app (a b : List UInt8) : (⟨⟨a⟩⟩ : ByteArray) ++ ⟨⟨b⟩⟩ = ⟨⟨a ++ b⟩⟩ := by
  apply ByteArray.ext
  simp [ByteArray.data_append]
theorem cut1 {u : ByteArray} {i : Nat} (hi : i < u.data.toList.length) : u.extract i (i + 1) = ⟨⟨[u.data.toList[i]]⟩⟩ := by
  apply ByteArray.ext
  apply Array.toList_inj.1
  rw [ByteArray.data_extract, Array.toList_extract, List.extract_eq_take_drop]
  show (u.data.toList.drop i).take (i + 1 - i) = [u.data.toList[i]]
  rw [Nat.add_sub_cancel_left, List.drop_eq_getElem_cons hi]; simp

set_option maxHeartbeats 8000000 in
set_option maxRecDepth 20000 in
theorem quote_any (u : ByteArray) (hu : u.size ≤ 100000) : Pure Tryz.prog 118 [sC u] (.c (sC (⟨#[39]⟩ ++ qtB u ++ ⟨#[39]⟩))) := by
 have hl := ba_len u
 intro H
 refine Spec.enter Tryz.func118 rfl ?_
 refine AW.wk (Wk.keep 26 [(0, .c (sC u))] [] (H) rfl ⟨rfl, trivial⟩ trivial (fun _ _ h => h) rfl) ?_
 refine sR (sB ?_)
 refine sR (sB ?_)
 refine AW.seq (sR (sB ?_))
 refine AW.block ?_
 refine AW.loop (fun (i : Nat) s => ∃ (tt : ByteArray), (i ≤ u.data.toList.length ∧ tt = (qS (u.data.toList.take i))) ∧ s = ⟨26, sp [(0, .c (sC u)), (2, .c (sC ⟨#[]⟩)), (3, .c (sC tt)), (4, iX .i64 ((i : Nat) : Int))], lv [], H⟩) (fun i => u.data.toList.length - i) 0 ⟨_, by exact Wk.keep 26 _ _ _ rfl ⟨rfl, rfl, rfl, rfl, trivial⟩ trivial (fun _ _ h => h) rfl, ⟨#[39]⟩, ⟨Nat.zero_le _, rfl⟩, rfl⟩ (fun i s hs => ?_)
 obtain ⟨tt, ⟨hi0, htt⟩, rfl⟩ := hs
 refine AW.seq (sR (sM ?_))
 refine sM ?_
 refine SeqK.q (q_lenS rfl Fx.un9 rfl) rfl rfl rfl ?_
 refine Z10 ?_
 refine Z3 ?_
 refine AW.condD rfl ?_ ?_ <;> intro h8
 ·
  have hi : i < u.data.toList.length := by omega
  have hq := qtL_len (u.data.toList.take i)
  rw [List.length_take] at hq
  have hsz : tt.size ≤ 200001 := by rw [htt]; show (List.toArray _).size ≤ _; rw [List.size_toArray, List.length_cons]; omega
  have hs1 : (⟨#[39]⟩ : ByteArray).size = 1 := rfl
  have hs2 : (u.extract i (i + 1)).size = 1 := by rw [cut1 hi]; rfl
  refine AW.skip (AW.seq (AW.block (AW.seq (sR (sM ?_)))))
  refine sM ?_
  refine SeqK.q (q_indexS _ rfl Fx.un9 rfl rfl (by omega) (idx_ba hi)) rfl rfl rfl ?_
  refine Z8 ?_
  refine Z3 ?_
  refine AW.condD rfl ?_ ?_ <;> intro h14
  ·
   have hb : u.data.toList[i] = 39 := UInt8.toNat_inj.1 (by show _ = 39; omega)
   refine AW.reg (sM ?_)
   refine SeqK.q (q_addS rfl rfl rfl (by omega)) rfl rfl rfl ?_
   refine sB ?_
   refine AW.reg (sM ?_)
   refine sM ?_
   refine sM ?_
   refine sM ?_
   refine SeqK.q (q_add _ rfl rfl rfl ((by rw [w64 (by omega) (by omega)]; rfl : IntKind.i64.wrap _ = ((i + 1 : Nat) : Int)))) rfl rfl rfl ?_
   refine SeqK.q (q_cutS i (i + 1) (u.extract i (i + 1)) rfl Fx.un9 rfl (by first | rfl | exact ⟨_, rfl⟩) (by first | rfl | exact ⟨_, rfl⟩) (by omega) (by omega) rfl) rfl rfl rfl ?_
   refine SeqK.q (q_addS rfl rfl rfl (by first | omega | (simp only [ByteArray.size_append]; omega))) rfl rfl rfl ?_
   refine sB ?_
   refine AW.reg (sM ?_)
   refine Z2 ?_
   refine sB ?_
   exact ⟨i + 1, _, by exact Wk.keep 26 _ _ _ rfl ⟨rfl, rfl, rfl, rfl, trivial⟩ trivial (fun _ _ h => h) rfl, by omega, tt ++ ⟨#[39]⟩ ++ u.extract i (i + 1), ⟨hi, by rw [htt, cut1 hi, hb, qS, qS, qtL_take hi, if_pos hb]; exact (congrArg (· ++ _) (ba_app _ _)).trans ((ba_app _ _).trans (by simp))⟩, rfl⟩
  have hb : u.data.toList[i] ≠ 39 := fun e => h14 (by rw [e]; rfl)
  refine AW.skip (AW.reg (sM ?_))
  refine sM ?_
  refine sM ?_
  refine sM ?_
  refine SeqK.q (q_add _ rfl rfl rfl ((by rw [w64 (by omega) (by omega)]; rfl : IntKind.i64.wrap _ = ((i + 1 : Nat) : Int)))) rfl rfl rfl ?_
  refine SeqK.q (q_cutS i (i + 1) (u.extract i (i + 1)) rfl Fx.un9 rfl (by first | rfl | exact ⟨_, rfl⟩) (by first | rfl | exact ⟨_, rfl⟩) (by omega) (by omega) rfl) rfl rfl rfl ?_
  refine SeqK.q (q_addS rfl rfl rfl (by first | omega | (simp only [ByteArray.size_append]; omega))) rfl rfl rfl ?_
  refine sB ?_
  refine AW.reg (sM ?_)
  refine Z2 ?_
  refine sB ?_
  exact ⟨i + 1, _, by exact Wk.keep 26 _ _ _ rfl ⟨rfl, rfl, rfl, rfl, trivial⟩ trivial (fun _ _ h => h) rfl, by omega, tt ++ u.extract i (i + 1), ⟨hi, by rw [htt, cut1 hi, qS, qS, qtL_take hi, if_neg hb]; exact (ba_app _ _).trans (by simp)⟩, rfl⟩
 refine AW.exit ?_
 refine eth_e ?_
 refine eth_e ?_
 refine exit_here ?_
 refine AW.seq ?_
 have hs1 : (⟨#[39]⟩ : ByteArray).size = 1 := rfl
 have hq := qtL_len (u.data.toList.take i)
 rw [List.length_take] at hq
 have hsz : tt.size ≤ 200001 := by rw [htt]; show (List.toArray _).size ≤ _; rw [List.size_toArray, List.length_cons]; omega
 refine AW.reg (sM ?_)
 refine SeqK.q (q_addS rfl rfl rfl (by first | omega | (simp only [ByteArray.size_append]; omega))) rfl rfl rfl ?_
 refine sB ?_
 refine AW.ret ?_
 exact f1 (q := ⟨by rw [htt, List.take_of_length_le (by omega)]; exact sCe (by rw [show (⟨#[39]⟩ : ByteArray) ++ qtB u = qS u.data.toList from ba_app [39] _]), rfl⟩)

end Go.Proofs.YtihlgigaejhilaaGreatDoor.W
namespace Go.Proofs.YtihlgigaejhilaaGreatDoor.W
open Go.RowKit E
/-! the text of an expression, plain -/
def sgs : List ByteArray := [⟨#[]⟩, ⟨#[]⟩, ⟨#[]⟩, ⟨#[]⟩, ⟨#[43]⟩, ⟨#[45]⟩, ⟨#[42]⟩, ⟨#[47]⟩, ⟨#[37]⟩, ⟨#[]⟩, ⟨#[61]⟩, ⟨#[60, 62]⟩, ⟨#[60]⟩, ⟨#[60, 61]⟩, ⟨#[62]⟩, ⟨#[62, 61]⟩, ⟨#[76, 73, 75, 69]⟩, ⟨#[]⟩, ⟨#[65, 78, 68]⟩, ⟨#[79, 82]⟩]
abbrev sgB (n : Int) : ByteArray := sgs.getD n.toNat ⟨#[]⟩
def wrB (p : Int × ByteArray) (least : Int) : ByteArray := if p.1 < least then ⟨#[40]⟩ ++ p.2 ++ ⟨#[41]⟩ else p.2
abbrev lfN (n : Int) : Int := if lvA n = 4 then 5 else lvA n
def ndT (op : Int) (tb nm : ByteArray) (vk vn : Int) (vs : ByteArray) (l : List (Int × ByteArray)) : ByteArray :=
  if op = 1 then (if vk = 1 then decB vn.toNat else if vk = 2 then ⟨#[39]⟩ ++ qtB vs ++ ⟨#[39]⟩ else ⟨#[78, 85, 76, 76]⟩)
  else if op = 2 then (if tb = ⟨#[]⟩ then nm else tb ++ ⟨#[46]⟩ ++ nm)
  else if op = 3 then ⟨#[45]⟩ ++ wrB (l.getD 0 (0, ⟨#[]⟩)) 8
  else if op = 9 then ⟨#[76, 69, 78, 71, 84, 72, 40]⟩ ++ wrB (l.getD 0 (0, ⟨#[]⟩)) 1 ++ ⟨#[41]⟩
  else if op = 17 then wrB (l.getD 0 (0, ⟨#[]⟩)) 5 ++ ⟨#[32, 73, 83, 32, 78, 85, 76, 76]⟩
  else if op = 20 then ⟨#[78, 79, 84, 32]⟩ ++ wrB (l.getD 0 (0, ⟨#[]⟩)) 3
  else wrB (l.getD 0 (0, ⟨#[]⟩)) (lfN op) ++ ⟨#[32]⟩ ++ sgB op ++ ⟨#[32]⟩ ++ wrB (l.getD 1 (0, ⟨#[]⟩)) (lvA op + 1)
mutual
def prE : Ex → ByteArray
  | .mk op tb nm _ vk vn vs xs => ndT op tb nm vk vn vs (prS xs)
def prS : List Ex → List (Int × ByteArray)
  | [] => []
  | e :: r => (lvA e.op, prE e) :: prS r
end
abbrev prP (e : Ex) : Int × ByteArray := (lvA e.op, prE e)
theorem prS_map : ∀ l, prS l = l.map prP
  | [] => by rw [prS]; rfl
  | e :: r => by rw [prS, prS_map r]; rfl
abbrev prL (e : Ex) (l : Int) : ByteArray := wrB (prP e) l
theorem prE_eq (e : Ex) : prE e = ndT e.op e.tb e.nm e.vk e.vn e.vs (e.args.map prP) := by
  cases e; rw [prE, prS_map]
theorem fm_len {e : Ex} (h : fmB e = true) : opsN e.op = e.args.length := by
  rw [fmB_eq, Bool.and_eq_true] at h; exact of_decide_eq_true h.1
theorem fm_arg {e a : Ex} (h : fmB e = true) (ha : a ∈ e.args) : fmB a = true := by
  rw [fmB_eq, Bool.and_eq_true, Bool.and_eq_true, List.all_eq_true] at h; exact h.2.1 a ha
theorem fm_nd {e : Ex} (h : fmB e = true) : fmN e := by
  rw [fmB_eq, Bool.and_eq_true, Bool.and_eq_true] at h; exact of_decide_eq_true h.2.2
theorem fm_op {e : Ex} (h : fmB e = true) : opsN e.op ≠ -1 := by rw [fm_len h]; omega
theorem fm_lit {e : Ex} (h : fmB e = true) (k : e.op = 1) : ltP e.vk e.vn e.vs := by
  have := fm_nd h
  unfold fmN at this
  rw [if_neg (by omega), if_pos k] at this; exact this.2
theorem fm_col {e : Ex} (h : fmB e = true) (k : e.op = 2) : e.nm.size ≤ 24 ∧ e.tb.size ≤ 24 := by
  have := fm_nd h
  unfold fmN at this
  rw [if_pos k] at this
  refine ⟨this.1.1.2, ?_⟩
  rcases this.2.1 with h1 | h1
  · rw [h1]; decide
  · exact h1.1.2
theorem fm_bin {e : Ex} (h : fmB e = true) (h1 : ¬ e.op = 1) (h2 : ¬ e.op = 2) (h3 : ¬ e.op = 3) (h4 : ¬ e.op = 9) (h5 : ¬ e.op = 17) (h6 : ¬ e.op = 20) : e.args.length = 2 ∧ 0 ≤ e.op ∧ e.op.toNat < 20 := by
  have h7 := fm_len h
  have h8 := ops_rng (fm_op h)
  unfold opsN at h7
  rw [if_neg (by omega), if_neg (by omega)] at h7
  split at h7 <;> omega
theorem fm_una {e : Ex} (h : fmB e = true) (h1 : e.op = 3 ∨ e.op = 9 ∨ e.op = 17 ∨ e.op = 20) : e.args.length = 1 := by
  have h7 := fm_len h
  unfold opsN at h7
  rw [if_neg (by omega), if_pos h1] at h7; omega
theorem lt_num {k n : Int} {s : ByteArray} (h : ltP k n s) (h1 : k = 1) : 0 ≤ n ∧ n ≤ 2147483648 := by
  unfold ltP at h; rw [if_neg (by omega), if_pos h1] at h; exact h.1
theorem lt_txt {k n : Int} {s : ByteArray} (h : ltP k n s) (h1 : k = 2) : s.size ≤ 16 := by
  unfold ltP at h; rw [if_neg (by omega), if_neg (by omega), if_pos h1] at h; exact h.2.2
theorem lt_kind {k n : Int} {s : ByteArray} (h : ltP k n s) : k = 0 ∨ k = 1 ∨ k = 2 := by
  unfold ltP at h; split at h
  · omega
  · split at h
    · omega
    · split at h <;> first | omega | exact h.elim
theorem getD_map {e : Ex} {i : Nat} (h : i < e.args.length) : (e.args.map prP).getD i (0, ⟨#[]⟩) = prP e.args[i] := by
  rw [List.getD_eq_getElem?_getD, List.getElem?_map, List.getElem?_eq_getElem h]; rfl
theorem wr_size (p : Int × ByteArray) (l : Int) : (wrB p l).size ≤ p.2.size + 2 := by
  unfold wrB
  split
  · rw [ByteArray.size_append, ByteArray.size_append]
    have h1 : (⟨#[40]⟩ : ByteArray).size = 1 := rfl
    have h2 : (⟨#[41]⟩ : ByteArray).size = 1 := rfl
    omega
  · omega
theorem sg_size (n : Int) : (sgB n).size ≤ 4 := by
  have key : ∀ k : Nat, (sgs.getD k ⟨#[]⟩).size ≤ 4 := fun k => by
    by_cases h : k < 20
    · have : ∀ k : Fin 20, (sgs.getD k.1 ⟨#[]⟩).size ≤ 4 := by decide
      exact this ⟨k, h⟩
    · rw [List.getD_eq_getElem?_getD, List.getElem?_eq_none (by show sgs.length ≤ k; rw [show sgs.length = 20 from rfl]; omega)]; decide
  exact key _

theorem pr_size (e : Ex) : fmB e = true → (prE e).size ≤ 70 * ndE e := by
  induction e using Ex.rec' with
  | h e ih =>
    intro h
    have h0 := ops_rng (fm_op h)
    have hn : ndE e = 1 + ndS e.args := by rw [ndE_eq, if_pos (by omega)]
    have hd : ∀ n : Nat, n < 10000000000 → (decB n).size ≤ 10 := fun n hn => decB_size hn
    rw [prE_eq]; unfold ndT
    split
    · rename_i h1
      have hl := fm_lit h h1
      split
      · rename_i h2
        have := lt_num hl h2
        have := hd e.vn.toNat (by omega); omega
      · split
        · rename_i h2
          have h3 := lt_txt hl h2
          have h4 := qtB_size (u := e.vs)
          rw [ByteArray.size_append, ByteArray.size_append]
          have h5 : (⟨#[39]⟩ : ByteArray).size = 1 := rfl
          omega
        · have h5 : (⟨#[78, 85, 76, 76]⟩ : ByteArray).size = 4 := rfl
          omega
    · split
      · rename_i h1 h2
        have hc := fm_col h h2
        split
        · omega
        · rw [ByteArray.size_append, ByteArray.size_append]
          have h5 : (⟨#[46]⟩ : ByteArray).size = 1 := rfl
          omega
      · have one : ∀ i (hi : i < e.args.length) (l : Int), (wrB ((e.args.map prP).getD i (0, ⟨#[]⟩)) l).size ≤ 70 * ndE e.args[i] + 2 := fun i hi l => by
          rw [getD_map hi]
          have h1 := wr_size (prP e.args[i]) l
          have h2 := ih _ (List.getElem_mem hi) (fm_arg h (List.getElem_mem hi))
          have h1 : (wrB (prP e.args[i]) l).size ≤ (prE e.args[i]).size + 2 := h1
          omega
        have mem : ∀ i (hi : i < e.args.length), ndE e.args[i] ≤ ndS e.args := fun i hi => ndS_mem (List.getElem_mem hi)
        have una : (e.op = 3 ∨ e.op = 9 ∨ e.op = 17 ∨ e.op = 20) → ∀ l : Int, (wrB ((e.args.map prP).getD 0 (0, ⟨#[]⟩)) l).size ≤ 70 * ndS e.args + 2 := fun hu l => by
          have h1 := fm_una h hu
          have h2 := one 0 (by omega) l
          have h3 := mem 0 (by omega)
          omega
        have c1 : (⟨#[45]⟩ : ByteArray).size = 1 := rfl
        have c2 : (⟨#[76, 69, 78, 71, 84, 72, 40]⟩ : ByteArray).size = 7 := rfl
        have c3 : (⟨#[41]⟩ : ByteArray).size = 1 := rfl
        have c4 : (⟨#[32, 73, 83, 32, 78, 85, 76, 76]⟩ : ByteArray).size = 8 := rfl
        have c5 : (⟨#[78, 79, 84, 32]⟩ : ByteArray).size = 4 := rfl
        have c6 : (⟨#[32]⟩ : ByteArray).size = 1 := rfl
        split
        · rename_i h3
          have := una (by omega) 8
          rw [ByteArray.size_append]; omega
        · split
          · rename_i h3
            have := una (by omega) 1
            rw [ByteArray.size_append, ByteArray.size_append]; omega
          · split
            · rename_i h3
              have := una (by omega) 5
              rw [ByteArray.size_append]; omega
            · split
              · rename_i h3
                have := una (by omega) 3
                rw [ByteArray.size_append]; omega
              · have hb := fm_bin h (by assumption) (by assumption) (by assumption) (by assumption) (by assumption) (by assumption)
                have h1 := one 0 (by omega) (lfN e.op)
                have h2 := one 1 (by omega) (lvA e.op + 1)
                have h3 : ndS e.args = ndE e.args[0] + ndE e.args[1] := by
                  obtain ⟨a, b, hx⟩ : ∃ a b, e.args = [a, b] := by
                    match hx : e.args, hb.1 with
                    | [a, b], _ => exact ⟨a, b, rfl⟩
                  simp [hx, ndS]
                have h4 := sg_size e.op
                simp only [ByteArray.size_append]
                omega

end Go.Proofs.YtihlgigaejhilaaGreatDoor.W
namespace Go.Proofs.YtihlgigaejhilaaGreatDoor.W
open Go.RowKit E
/-! the text of an expression, walked -/
theorem number_I {v : Int} (h0 : 0 ≤ v) (h : v ≤ 2147483648) : Pure Tryz.prog 149 [iC v] (.c (sC (decB v.toNat))) :=
  I_nat (P := fun v => Pure Tryz.prog 149 [iC v] (.c (sC (decB v.toNat)))) h0 fun n hn => number_any n (by omega)
theorem num_I {v : Int} (h0 : 0 ≤ v) (h : v ≤ 2147483648) : Pure Tryz.prog 117 [iC v] (.c (sC (decB v.toNat))) :=
  I_nat (P := fun v => Pure Tryz.prog 117 [iC v] (.c (sC (decB v.toNat)))) h0 fun n hn => num_any n (by omega)
theorem sg_ld {n : Int} (h : 0 ≤ n ∧ n.toNat < 20) : mkC false (((sgs.map fun s => A.t (.v (.string s))).drop (0 + n.toNat * 1)).take 1) = sC (sgB n) := by
  have hl : n.toNat < sgs.length := h.2
  rw [Nat.zero_add, Nat.mul_one, ← List.map_drop, ← List.map_take, List.drop_eq_getElem_cons hl, List.take_succ_cons, List.take_zero, sgB, List.getD_eq_getElem?_getD, List.getElem?_eq_getElem hl]; rfl
theorem prL_size {a : Ex} {l : Int} {N : Nat} (h : fmB a = true) (hn : ndE a ≤ N) : (prL a l).size ≤ 70 * N + 2 := by
  have h1 := wr_size (prP a) l
  have h2 := pr_size a h
  have h1 : (wrB (prP a) l).size ≤ (prE a).size + 2 := h1
  show (wrB (prP a) l).size ≤ _
  omega

set_option maxHeartbeats 8000000 in
set_option maxRecDepth 20000 in
theorem plain_of (e : Ex) (ho : okE e) (hf : fmB e = true) (hn : ndE e ≤ 1000) (ih : ∀ a ∈ e.args, ∀ l : Int, Pure Tryz.prog 110 [exC a, iC l] (.c (sC (prL a l)))) : Pure Tryz.prog 134 [exC e] (.c (sC (prE e))) := by
 have hnd : ndE e = (if e.op ≠ 0 then 1 else 0) + ndS e.args := ndE_eq e
 have hns : ndS e.args ≤ 1000 := by omega
 have c0 : (⟨#[39]⟩ : ByteArray).size = 1 := rfl
 have c1 : (⟨#[78, 85, 76, 76]⟩ : ByteArray).size = 4 := rfl
 have c2 : (⟨#[46]⟩ : ByteArray).size = 1 := rfl
 have c3 : (⟨#[45]⟩ : ByteArray).size = 1 := rfl
 have c4 : (⟨#[76, 69, 78, 71, 84, 72, 40]⟩ : ByteArray).size = 7 := rfl
 have c5 : (⟨#[41]⟩ : ByteArray).size = 1 := rfl
 have c6 : (⟨#[32, 73, 83, 32, 78, 85, 76, 76]⟩ : ByteArray).size = 8 := rfl
 have c7 : (⟨#[78, 79, 84, 32]⟩ : ByteArray).size = 4 := rfl
 have c8 : (⟨#[32]⟩ : ByteArray).size = 1 := rfl
 have c9 : (⟨#[40]⟩ : ByteArray).size = 1 := rfl
 have c10 : (⟨#[43]⟩ : ByteArray).size = 1 := rfl
 intro H
 refine Spec.enter Tryz.func134 rfl ?_
 refine AW.wk (Wk.keep 99 [(0, .c (exC e))] [] (H) rfl ⟨rfl, trivial⟩ trivial (fun _ _ h => h) rfl) ?_
 refine sR (Z16 (r := [_, _, _, _, _, _, _, _]) ?_)
 refine sB ?_
 refine AW.seq (sR (Z1 Fx.fl30_0 ?_))
 refine Z0 Fx.ty3 ?_
 refine Z3 (AW.block (sR (Z8 ?_)))
 refine sB ?_
 refine AW.condD rfl ?_ ?_ <;> intro h7
 ·
  have hlt := fm_lit hf h7
  refine AW.seq (sR (Z1 Fx.fl30_4 ?_))
  refine Z1 Fx.fl27_0 ?_
  refine Z0 Fx.ty3 ?_
  refine Z3 (AW.block (sR (Z8 ?_)))
  refine sB ?_
  refine AW.condD rfl ?_ ?_ <;> intro h12
  ·
   have hv := lt_num hlt h12
   refine sR (Z1 Fx.fl30_4 ?_)
   refine Z1 Fx.fl27_1 ?_
   refine Z0 Fx.ty2 ?_
   refine Z22 Fx.fn149 (number_I hv.1 hv.2) ?_
   refine sB ?_
   refine AW.ret ?_
   exact f1 (q := ⟨sCe (by rw [prE_eq, ndT, if_pos h7, if_pos h12]), rfl⟩)
  refine sR (Z8 ?_)
  refine sB ?_
  refine AW.condD rfl ?_ ?_ <;> intro h18
  ·
   have hv := lt_txt hlt h18
   have hq := qtB_size (u := e.vs)
   refine sR (Z1 Fx.fl30_4 ?_)
   refine Z1 Fx.fl27_2 ?_
   refine Z0 Fx.ty9 ?_
   refine SeqK.q (q_call _ rfl Fx.fn150 rfl (replace_b (by omega)) rfl) rfl rfl rfl ?_
   refine SeqK.q (q_addS rfl rfl rfl (by first | omega | (simp only [ByteArray.size_append]; omega))) rfl rfl rfl ?_
   refine SeqK.q (q_addS rfl rfl rfl (by first | omega | (simp only [ByteArray.size_append]; omega))) rfl rfl rfl ?_
   refine sB ?_
   refine AW.ret ?_
   exact f1 (q := ⟨sCe (by rw [prE_eq, ndT, if_pos h7, if_neg h12, if_pos h18]), rfl⟩)
  refine AW.skip (sR (sB ?_))
  refine AW.ret ?_
  exact f1 (q := ⟨sCe (by rw [prE_eq, ndT, if_pos h7, if_neg h12, if_neg h18]), rfl⟩)
 refine sR (Z8 ?_)
 refine sB ?_
 refine AW.condD rfl ?_ ?_ <;> intro h26
 ·
  have hc := fm_col hf h26
  refine AW.seq (sR (Z1 Fx.fl30_1 ?_))
  refine Z0 Fx.ty9 ?_
  refine SeqK.q (q_neqS rfl rfl rfl) rfl rfl rfl ?_
  refine Z3 ?_
  refine AW.condD rfl ?_ ?_ <;> intro h30
  ·
   refine sR (Z1 Fx.fl30_1 ?_)
   refine Z0 Fx.ty9 ?_
   refine SeqK.q (q_addS rfl rfl rfl (by first | omega | (simp only [ByteArray.size_append]; omega))) rfl rfl rfl ?_
   refine Z1 Fx.fl30_2 ?_
   refine Z0 Fx.ty9 ?_
   refine SeqK.q (q_addS rfl rfl rfl (by first | omega | (simp only [ByteArray.size_append]; omega))) rfl rfl rfl ?_
   refine sB ?_
   refine AW.ret ?_
   exact f1 (q := ⟨sCe (by rw [prE_eq, ndT, if_neg h7, if_pos h26, if_neg h30]), rfl⟩)
  refine AW.skip (sR (Z1 Fx.fl30_2 ?_))
  refine Z0 Fx.ty9 ?_
  refine sB ?_
  refine AW.ret ?_
  exact f1 (q := ⟨sCe (by rw [prE_eq, ndT, if_neg h7, if_pos h26, if_pos (Classical.not_not.1 h30)]), rfl⟩)
 refine sR (Z8 ?_)
 refine sB ?_
 refine AW.condD rfl ?_ ?_ <;> intro h39
 ·
  have hu := fm_una hf (.inl h39)
  have hz0 : ∀ l : Int, (prL (e.args[0]'(by omega)) l).size ≤ 70 * 1000 + 2 := fun l => prL_size (fm_arg hf (List.getElem_mem _)) (Nat.le_trans (ndS_mem (List.getElem_mem _)) (by omega))
  have hz0a := hz0 8
  have hz0b := hz0 1
  have hz0c := hz0 5
  have hz0d := hz0 3
  refine sR (Z1 Fx.fl30_5 ?_)
  refine Z0 Fx.ty28 ?_
  refine SeqK.q (q_index _ rfl Fx.sl28 rfl rfl (by omega) (idx_ex (show 0 < e.args.length by omega))) rfl rfl rfl ?_
  refine Z11 (.g [_, _, _, _, _, _, _, _]) Fx.ty30 ?_
  refine Z22 Fx.fn110 (ih _ (List.getElem_mem _) _) ?_
  refine SeqK.q (q_addS rfl rfl rfl (by first | omega | (simp only [ByteArray.size_append]; omega))) rfl rfl rfl ?_
  refine sB ?_
  refine AW.ret ?_
  exact f1 (q := ⟨sCe (by rw [prE_eq, ndT, if_neg h7, if_neg h26, if_pos h39, getD_map (show 0 < e.args.length by omega)]), rfl⟩)
 refine sR (Z8 ?_)
 refine sB ?_
 refine AW.condD rfl ?_ ?_ <;> intro h47
 ·
  have hu := fm_una hf (.inr <| .inl h47)
  have hz0 : ∀ l : Int, (prL (e.args[0]'(by omega)) l).size ≤ 70 * 1000 + 2 := fun l => prL_size (fm_arg hf (List.getElem_mem _)) (Nat.le_trans (ndS_mem (List.getElem_mem _)) (by omega))
  have hz0a := hz0 8
  have hz0b := hz0 1
  have hz0c := hz0 5
  have hz0d := hz0 3
  refine sR (Z1 Fx.fl30_5 ?_)
  refine Z0 Fx.ty28 ?_
  refine SeqK.q (q_index _ rfl Fx.sl28 rfl rfl (by omega) (idx_ex (show 0 < e.args.length by omega))) rfl rfl rfl ?_
  refine Z11 (.g [_, _, _, _, _, _, _, _]) Fx.ty30 ?_
  refine Z22 Fx.fn110 (ih _ (List.getElem_mem _) _) ?_
  refine SeqK.q (q_addS rfl rfl rfl (by first | omega | (simp only [ByteArray.size_append]; omega))) rfl rfl rfl ?_
  refine SeqK.q (q_addS rfl rfl rfl (by first | omega | (simp only [ByteArray.size_append]; omega))) rfl rfl rfl ?_
  refine sB ?_
  refine AW.ret ?_
  exact f1 (q := ⟨sCe (by rw [prE_eq, ndT, if_neg h7, if_neg h26, if_neg h39, if_pos h47, getD_map (show 0 < e.args.length by omega)]), rfl⟩)
 refine sR (Z8 ?_)
 refine sB ?_
 refine AW.condD rfl ?_ ?_ <;> intro h56
 ·
  have hu := fm_una hf (.inr <| .inr <| .inl h56)
  have hz0 : ∀ l : Int, (prL (e.args[0]'(by omega)) l).size ≤ 70 * 1000 + 2 := fun l => prL_size (fm_arg hf (List.getElem_mem _)) (Nat.le_trans (ndS_mem (List.getElem_mem _)) (by omega))
  have hz0a := hz0 8
  have hz0b := hz0 1
  have hz0c := hz0 5
  have hz0d := hz0 3
  refine sR (Z1 Fx.fl30_5 ?_)
  refine Z0 Fx.ty28 ?_
  refine SeqK.q (q_index _ rfl Fx.sl28 rfl rfl (by omega) (idx_ex (show 0 < e.args.length by omega))) rfl rfl rfl ?_
  refine Z11 (.g [_, _, _, _, _, _, _, _]) Fx.ty30 ?_
  refine Z22 Fx.fn110 (ih _ (List.getElem_mem _) _) ?_
  refine SeqK.q (q_addS rfl rfl rfl (by first | omega | (simp only [ByteArray.size_append]; omega))) rfl rfl rfl ?_
  refine sB ?_
  refine AW.ret ?_
  exact f1 (q := ⟨sCe (by rw [prE_eq, ndT, if_neg h7, if_neg h26, if_neg h39, if_neg h47, if_pos h56, getD_map (show 0 < e.args.length by omega)]), rfl⟩)
 refine sR (Z8 ?_)
 refine sB ?_
 refine AW.condD rfl ?_ ?_ <;> intro h64
 ·
  have hu := fm_una hf (.inr <| .inr <| .inr h64)
  have hz0 : ∀ l : Int, (prL (e.args[0]'(by omega)) l).size ≤ 70 * 1000 + 2 := fun l => prL_size (fm_arg hf (List.getElem_mem _)) (Nat.le_trans (ndS_mem (List.getElem_mem _)) (by omega))
  have hz0a := hz0 8
  have hz0b := hz0 1
  have hz0c := hz0 5
  have hz0d := hz0 3
  refine sR (Z1 Fx.fl30_5 ?_)
  refine Z0 Fx.ty28 ?_
  refine SeqK.q (q_index _ rfl Fx.sl28 rfl rfl (by omega) (idx_ex (show 0 < e.args.length by omega))) rfl rfl rfl ?_
  refine Z11 (.g [_, _, _, _, _, _, _, _]) Fx.ty30 ?_
  refine Z22 Fx.fn110 (ih _ (List.getElem_mem _) _) ?_
  refine SeqK.q (q_addS rfl rfl rfl (by first | omega | (simp only [ByteArray.size_append]; omega))) rfl rfl rfl ?_
  refine sB ?_
  refine AW.ret ?_
  exact f1 (q := ⟨sCe (by rw [prE_eq, ndT, if_neg h7, if_neg h26, if_neg h39, if_neg h47, if_neg h56, if_pos h64, getD_map (show 0 < e.args.length by omega)]), rfl⟩)
 have hb := fm_bin hf h7 h26 h39 h47 h56 h64
 have hz0 : ∀ l : Int, (prL (e.args[0]'(by omega)) l).size ≤ 70 * 1000 + 2 := fun l => prL_size (fm_arg hf (List.getElem_mem _)) (Nat.le_trans (ndS_mem (List.getElem_mem _)) (by omega))
 have hz1 : ∀ l : Int, (prL (e.args[1]'(by omega)) l).size ≤ 70 * 1000 + 2 := fun l => prL_size (fm_arg hf (List.getElem_mem _)) (Nat.le_trans (ndS_mem (List.getElem_mem _)) (by omega))
 have hz0a := hz0 (lfN e.op)
 have hz1a := hz1 (lvA e.op + 1)
 have hsg := sg_size e.op
 refine AW.skip (sR (Z34 (zs := [_, _, _, _, _, _, _, _, _, _, _, _, _, _, _, _, _, _, _, _]) (r := [_, _, _, _, _, _, _, _, _, _, _, _, _, _, _, _, _, _, _, _]) [(0, 1), (1, 1), (2, 1), (3, 1), (4, 1), (5, 1), (6, 1), (7, 1), (8, 1), (9, 1), (10, 1), (11, 1), (12, 1), (13, 1), (14, 1), (15, 1), (16, 1), (17, 1), (18, 1), (19, 1)] Fx.ze196 Fx.bp196 ?_))
 refine Z25 (r := [_, _, _, _, _, _, _, _, _, _, _, _, _, _, _, _, _, _, _, _]) Fx.ze196 ?_
 refine Z15 (r := [_, _, _, _, _, _, _, _, _, _, _, _, _, _, _, _, _, _, _, _]) Fx.ty196 ?_
 refine Z3 (sR (Z12 (r := .g [_, _, _, _, _, _, _, _]) Fx.ty30 ?_))
 refine Z22 Fx.fn135 (level_any e) ?_
 refine sB ?_
 refine AW.seqM (fun s => s = ⟨99, sp [(1, .lp 1 0), (2, .c (sC ⟨#[]⟩)), (3, .lp 3 0), (4, .c (iC (lfN e.op)))], lv [(1, .box (zEx e)), (3, .box [.t (.v (.string ⟨#[]⟩)), .t (.v (.string ⟨#[]⟩)), .t (.v (.string ⟨#[]⟩)), .t (.v (.string ⟨#[]⟩)), .t (.v (.string ⟨#[43]⟩)), .t (.v (.string ⟨#[45]⟩)), .t (.v (.string ⟨#[42]⟩)), .t (.v (.string ⟨#[47]⟩)), .t (.v (.string ⟨#[37]⟩)), .t (.v (.string ⟨#[]⟩)), .t (.v (.string ⟨#[61]⟩)), .t (.v (.string ⟨#[60, 62]⟩)), .t (.v (.string ⟨#[60]⟩)), .t (.v (.string ⟨#[60, 61]⟩)), .t (.v (.string ⟨#[62]⟩)), .t (.v (.string ⟨#[62, 61]⟩)), .t (.v (.string ⟨#[76, 73, 75, 69]⟩)), .t (.v (.string ⟨#[]⟩)), .t (.v (.string ⟨#[65, 78, 68]⟩)), .t (.v (.string ⟨#[79, 82]⟩))])], H⟩) ?_ ?_
 ·
  refine sR (sM ?_)
  refine Z8 ?_
  refine Z3 ?_
  refine AW.condD rfl ?_ ?_ <;> intro h76
  ·
   refine AW.reg (sB ?_)
   exact ⟨_, by exact Wk.keep 99 _ _ _ rfl ⟨rfl, rfl, rfl, iCe2 (by unfold lfN; first | (rw [if_pos h76]; done) | (rw [if_neg h76]; done)), trivial⟩ ⟨rfl, rfl, trivial⟩ (fun _ _ h => h) rfl, rfl⟩
  refine AW.skip ?_
  exact ⟨_, by exact Wk.keep 99 _ _ _ rfl ⟨rfl, rfl, rfl, iCe2 (by unfold lfN; first | (rw [if_pos h76]; done) | (rw [if_neg h76]; done)), trivial⟩ ⟨rfl, rfl, trivial⟩ (fun _ _ h => h) rfl, rfl⟩
 rintro s rfl
 refine AW.seq (AW.draw Fx.mo ?_)
 refine Z23 Fx.fl30_5 ?_
 refine Z20 Fx.ty28 ?_
 refine LexK.q (q_index _ rfl Fx.sl28 rfl rfl (by omega) (idx_ex (show 0 < e.args.length by omega))) rfl rfl rfl ?_
 refine Z26 (.g [_, _, _, _, _, _, _, _]) Fx.ty30 ?_
 refine Z18 ?_
 refine Z52 Fx.fn110 (ih _ (List.getElem_mem _) _) ?_
 refine LexK.q (q_addS rfl rfl rfl (by first | omega | (simp only [ByteArray.size_append]; omega))) rfl rfl rfl ?_
 refine Z23 Fx.fl30_0 ?_
 refine Z20 Fx.ty3 ?_
 refine LexK.q (q_indexL _ rfl Fx.ar196 rfl rfl (by omega) (by omega) rfl) rfl rfl rfl ?_
 refine LexK.r (b_load (r := .a (.t (.v (.string (sgB e.op))))) rfl Fx.ty9 rfl rfl (sg_ld hb.2) (Nat.ble_eq_true_of_le (by show 0 + e.op.toNat * 1 + 1 ≤ 20; omega)) rfl rfl) rfl ?_
 refine LexK.q (q_addS rfl rfl rfl (by first | omega | (simp only [ByteArray.size_append]; omega))) rfl rfl rfl ?_
 refine LexK.q (q_addS rfl rfl rfl (by first | omega | (simp only [ByteArray.size_append]; omega))) rfl rfl rfl ?_
 refine Z23 Fx.fl30_5 ?_
 refine Z20 Fx.ty28 ?_
 refine LexK.q (q_index _ rfl Fx.sl28 rfl rfl (by omega) (idx_ex (show 1 < e.args.length by omega))) rfl rfl rfl ?_
 refine Z26 (.g [_, _, _, _, _, _, _, _]) Fx.ty30 ?_
 refine Z45 (r := .g [_, _, _, _, _, _, _, _]) Fx.ty30 ?_
 refine Z52 Fx.fn135 (level_any e) ?_
 refine LexK.q (q_add _ rfl rfl rfl (w64 (by have := lvA_pos e.op; omega) (by have := lvA_pos e.op; omega))) rfl rfl rfl ?_
 refine Z52 Fx.fn110 (ih _ (List.getElem_mem _) _) ?_
 refine LexK.q (q_addS rfl rfl rfl (by first | omega | (simp only [ByteArray.size_append]; omega))) rfl rfl rfl ?_
 refine Z36 ?_
 refine Z30 ?_
 refine AW.ret ?_
 exact f1 (q := ⟨sCe (by rw [prE_eq, ndT, if_neg h7, if_neg h26, if_neg h39, if_neg h47, if_neg h56, if_neg h64, getD_map (show 0 < e.args.length by omega), getD_map (show 1 < e.args.length by omega)]), rfl⟩)

set_option maxHeartbeats 8000000 in
set_option maxRecDepth 20000 in
theorem expr_in (e : Ex) (l : Int) (hf : fmB e = true) (hn : ndE e ≤ 1000) (hp : Pure Tryz.prog 134 [exC e] (.c (sC (prE e)))) : Pure Tryz.prog 110 [exC e, iC l] (.c (sC (prL e l))) := by
 have hz := pr_size e hf
 have c0 : (⟨#[39]⟩ : ByteArray).size = 1 := rfl
 have c1 : (⟨#[78, 85, 76, 76]⟩ : ByteArray).size = 4 := rfl
 have c2 : (⟨#[46]⟩ : ByteArray).size = 1 := rfl
 have c3 : (⟨#[45]⟩ : ByteArray).size = 1 := rfl
 have c4 : (⟨#[76, 69, 78, 71, 84, 72, 40]⟩ : ByteArray).size = 7 := rfl
 have c5 : (⟨#[41]⟩ : ByteArray).size = 1 := rfl
 have c6 : (⟨#[32, 73, 83, 32, 78, 85, 76, 76]⟩ : ByteArray).size = 8 := rfl
 have c7 : (⟨#[78, 79, 84, 32]⟩ : ByteArray).size = 4 := rfl
 have c8 : (⟨#[32]⟩ : ByteArray).size = 1 := rfl
 have c9 : (⟨#[40]⟩ : ByteArray).size = 1 := rfl
 have c10 : (⟨#[43]⟩ : ByteArray).size = 1 := rfl
 intro H
 refine Spec.enter Tryz.func110 rfl ?_
 refine AW.wk (Wk.keep 16 [(0, .c (exC e)), (1, .c (iC l))] [] (H) rfl ⟨rfl, rfl, trivial⟩ trivial (fun _ _ h => h) rfl) ?_
 refine sR (Z16 (r := [_, _, _, _, _, _, _, _]) ?_)
 refine sB ?_
 refine sR (Z12 (r := .g [_, _, _, _, _, _, _, _]) Fx.ty30 ?_)
 refine Z22 Fx.fn134 (hp) ?_
 refine sB ?_
 refine AW.seq (sR (Z12 (r := .g [_, _, _, _, _, _, _, _]) Fx.ty30 ?_))
 refine Z22 Fx.fn135 (level_any e) ?_
 refine sM ?_
 refine Z10 ?_
 refine Z3 ?_
 refine AW.condD rfl ?_ ?_ <;> intro h11
 ·
  refine sR (sM ?_)
  refine SeqK.q (q_addS rfl rfl rfl (by first | omega | (simp only [ByteArray.size_append]; omega))) rfl rfl rfl ?_
  refine SeqK.q (q_addS rfl rfl rfl (by first | omega | (simp only [ByteArray.size_append]; omega))) rfl rfl rfl ?_
  refine sB ?_
  refine AW.ret ?_
  exact f1 (q := ⟨sCe (by show _ = wrB (prP e) l; unfold wrB; rw [if_pos (show (prP e).1 < l from h11)]), rfl⟩)
 refine AW.skip (sR (sM ?_))
 refine sB ?_
 refine AW.ret ?_
 exact f1 (q := ⟨sCe (by show _ = wrB (prP e) l; unfold wrB; rw [if_neg (show ¬ (prP e).1 < l from h11)]), rfl⟩)

theorem expr_txt (e : Ex) : okE e → fmB e = true → ndE e ≤ 1000 → ∀ l : Int, Pure Tryz.prog 110 [exC e, iC l] (.c (sC (prL e l))) := by
  induction e using Ex.rec' with
  | h e ih => exact fun ho hf hn l => expr_in e l hf hn (plain_of e ho hf hn fun a ha => ih a ha ((okE_iff.1 ho).2 a ha) (fm_arg hf ha) (Nat.le_trans (ndS_mem ha) (by have := ndE_eq e; omega)))

end Go.Proofs.YtihlgigaejhilaaGreatDoor.W
namespace Go.Proofs.YtihlgigaejhilaaGreatDoor.W
open Go.RowKit E
/-! the text of an expression, by the reference -/

set_option maxHeartbeats 8000000 in
set_option maxRecDepth 20000 in
theorem sign_any (n : Int) (h : 0 ≤ n ∧ n.toNat < 20) : Pure Tryz.prog 119 [iC n] (.c (sC (sgB n))) := by
 have hl : n.toNat < sgs.length := h.2
 intro H
 refine Spec.enter Tryz.func119 rfl ?_
 refine AW.wk (Wk.keep 9 [(0, .c (iC n))] [] (H) rfl ⟨rfl, trivial⟩ trivial (fun _ _ h => h) rfl) ?_
 refine sR (sB ?_)
 refine sR (Z38 Fx.el25 ?_)
 refine sB ?_
 refine AW.xw 3 rfl (XW.es (es' := sgs.map sT) rfl) ?_
 refine sR (sM ?_)
 refine sM ?_
 refine Z9 Fx.sl25 (idx_map (f := sT) hl) ?_
 refine Z11 (.a _) Fx.ty9 ?_
 refine sB ?_
 refine AW.ret ?_
 exact f1 (q := ⟨sCe (by rw [sgB, List.getD_eq_getElem?_getD, List.getElem?_eq_getElem hl]; rfl), rfl⟩)

set_option maxHeartbeats 8000000 in
set_option maxRecDepth 20000 in
theorem print_hi (e : Ex) (l : Int) (ho : okE e) (hf : fmB e = true) (hn : ndE e ≤ 1000) (ih : ∀ a ∈ e.args, ∀ l : Int, Pure Tryz.prog 80 [exC a, iC l] (.c (sC (prL a l)))) (hl : ¬ lvA e.op < l) : Pure Tryz.prog 80 [exC e, iC l] (.c (sC (prL e l))) := by
 have hnd : ndE e = (if e.op ≠ 0 then 1 else 0) + ndS e.args := ndE_eq e
 have hns : ndS e.args ≤ 1000 := by omega
 have hlv := lv_eq (fm_op hf)
 have hlp := lvA_pos e.op
 have hz := pr_size e hf
 have c0 : (⟨#[39]⟩ : ByteArray).size = 1 := rfl
 have c1 : (⟨#[78, 85, 76, 76]⟩ : ByteArray).size = 4 := rfl
 have c2 : (⟨#[46]⟩ : ByteArray).size = 1 := rfl
 have c3 : (⟨#[45]⟩ : ByteArray).size = 1 := rfl
 have c4 : (⟨#[76, 69, 78, 71, 84, 72, 40]⟩ : ByteArray).size = 7 := rfl
 have c5 : (⟨#[41]⟩ : ByteArray).size = 1 := rfl
 have c6 : (⟨#[32, 73, 83, 32, 78, 85, 76, 76]⟩ : ByteArray).size = 8 := rfl
 have c7 : (⟨#[78, 79, 84, 32]⟩ : ByteArray).size = 4 := rfl
 have c8 : (⟨#[32]⟩ : ByteArray).size = 1 := rfl
 have c9 : (⟨#[40]⟩ : ByteArray).size = 1 := rfl
 have c10 : (⟨#[43]⟩ : ByteArray).size = 1 := rfl
 intro H
 refine Spec.enter Tryz.func80 rfl ?_
 refine AW.wk (Wk.keep 108 [(0, .c (exC e)), (1, .c (iC l))] [] (H) rfl ⟨rfl, rfl, trivial⟩ trivial (fun _ _ h => h) rfl) ?_
 refine sR (Z16 (r := [_, _, _, _, _, _, _, _]) ?_)
 refine sB ?_
 refine AW.seq (sR (Z12 (r := .g [_, _, _, _, _, _, _, _]) Fx.ty30 ?_))
 refine Z22 Fx.fn116 (rlevel_any e) ?_
 refine sM ?_
 refine Z10 ?_
 refine Z3 ?_
 refine AW.condD rfl ?_ ?_ <;> intro h10
 ·
  exact absurd (hlv ▸ h10) hl
 refine AW.skip (AW.seq (sR (Z1 Fx.fl30_0 ?_)))
 refine Z0 Fx.ty3 ?_
 refine Z3 (AW.block (sR (Z8 ?_)))
 refine sB ?_
 refine AW.condD rfl ?_ ?_ <;> intro h17
 ·
  have hlt := fm_lit hf h17
  have hkd := lt_kind hlt
  refine AW.seq (sR (Z1 Fx.fl30_4 ?_))
  refine Z1 Fx.fl27_0 ?_
  refine Z0 Fx.ty3 ?_
  refine Z8 ?_
  refine Z3 ?_
  refine AW.condD rfl ?_ ?_ <;> intro h22
  ·
   refine sR (sB ?_)
   refine AW.ret ?_
   exact f1 (q := ⟨sCe (by show _ = wrB (prP e) l; unfold wrB; rw [if_neg (show ¬ (prP e).1 < l by show ¬ lvA e.op < l; rw [← hlv]; exact h10)]; show _ = prE e; rw [prE_eq, ndT, if_pos h17, if_neg (by omega), if_neg (by omega)]), rfl⟩)
  refine AW.skip (AW.seq (sR (Z1 Fx.fl30_4 ?_)))
  refine Z1 Fx.fl27_0 ?_
  refine Z0 Fx.ty3 ?_
  refine Z8 ?_
  refine Z3 ?_
  refine AW.condD rfl ?_ ?_ <;> intro h26
  ·
   have hv := lt_num hlt h26
   refine sR (Z1 Fx.fl30_4 ?_)
   refine Z1 Fx.fl27_1 ?_
   refine Z0 Fx.ty2 ?_
   refine Z22 Fx.fn117 (num_I hv.1 hv.2) ?_
   refine sB ?_
   refine AW.ret ?_
   exact f1 (q := ⟨sCe (by show _ = wrB (prP e) l; unfold wrB; rw [if_neg (show ¬ (prP e).1 < l by show ¬ lvA e.op < l; rw [← hlv]; exact h10)]; show _ = prE e; rw [prE_eq, ndT, if_pos h17, if_pos h26]), rfl⟩)
  have hv := lt_txt hlt (by omega)
  have hq := qtB_size (u := e.vs)
  refine AW.skip (sR (Z1 Fx.fl30_4 ?_))
  refine Z1 Fx.fl27_2 ?_
  refine Z0 Fx.ty9 ?_
  refine SeqK.q (q_call _ rfl Fx.fn118 rfl (quote_any e.vs (by omega)) rfl) rfl rfl rfl ?_
  refine sB ?_
  refine AW.ret ?_
  exact f1 (q := ⟨sCe (by show _ = wrB (prP e) l; unfold wrB; rw [if_neg (show ¬ (prP e).1 < l by show ¬ lvA e.op < l; rw [← hlv]; exact h10)]; show _ = prE e; rw [prE_eq, ndT, if_pos h17, if_neg h26, if_pos (by omega)]), rfl⟩)
 refine sR (Z8 ?_)
 refine sB ?_
 refine AW.condD rfl ?_ ?_ <;> intro h35
 ·
  have hc := fm_col hf h35
  refine AW.seq (sR (Z1 Fx.fl30_1 ?_))
  refine Z0 Fx.ty9 ?_
  refine SeqK.q (q_neqS rfl rfl rfl) rfl rfl rfl ?_
  refine Z3 ?_
  refine AW.condD rfl ?_ ?_ <;> intro h39
  ·
   refine sR (Z1 Fx.fl30_1 ?_)
   refine Z0 Fx.ty9 ?_
   refine SeqK.q (q_addS rfl rfl rfl (by first | omega | (simp only [ByteArray.size_append]; omega))) rfl rfl rfl ?_
   refine Z1 Fx.fl30_2 ?_
   refine Z0 Fx.ty9 ?_
   refine SeqK.q (q_addS rfl rfl rfl (by first | omega | (simp only [ByteArray.size_append]; omega))) rfl rfl rfl ?_
   refine sB ?_
   refine AW.ret ?_
   exact f1 (q := ⟨sCe (by show _ = wrB (prP e) l; unfold wrB; rw [if_neg (show ¬ (prP e).1 < l by show ¬ lvA e.op < l; rw [← hlv]; exact h10)]; show _ = prE e; rw [prE_eq, ndT, if_neg h17, if_pos h35, if_neg h39]), rfl⟩)
  refine AW.skip (sR (Z1 Fx.fl30_2 ?_))
  refine Z0 Fx.ty9 ?_
  refine sB ?_
  refine AW.ret ?_
  exact f1 (q := ⟨sCe (by show _ = wrB (prP e) l; unfold wrB; rw [if_neg (show ¬ (prP e).1 < l by show ¬ lvA e.op < l; rw [← hlv]; exact h10)]; show _ = prE e; rw [prE_eq, ndT, if_neg h17, if_pos h35, if_pos (Classical.not_not.1 h39)]), rfl⟩)
 refine sR (Z8 ?_)
 refine sB ?_
 refine AW.condD rfl ?_ ?_ <;> intro h48
 ·
  have hu := fm_una hf (.inl h48)
  have hz0 : ∀ l : Int, (prL (e.args[0]'(by omega)) l).size ≤ 70 * 1000 + 2 := fun l => prL_size (fm_arg hf (List.getElem_mem _)) (Nat.le_trans (ndS_mem (List.getElem_mem _)) (by omega))
  have hz0a := hz0 8
  have hz0b := hz0 1
  have hz0c := hz0 5
  have hz0d := hz0 3
  refine sR (Z1 Fx.fl30_5 ?_)
  refine Z0 Fx.ty28 ?_
  refine SeqK.q (q_index _ rfl Fx.sl28 rfl rfl (by omega) (idx_ex (show 0 < e.args.length by omega))) rfl rfl rfl ?_
  refine Z11 (.g [_, _, _, _, _, _, _, _]) Fx.ty30 ?_
  refine Z22 Fx.fn80 (ih _ (List.getElem_mem _) _) ?_
  refine SeqK.q (q_addS rfl rfl rfl (by first | omega | (simp only [ByteArray.size_append]; omega))) rfl rfl rfl ?_
  refine sB ?_
  refine AW.ret ?_
  exact f1 (q := ⟨sCe (by show _ = wrB (prP e) l; unfold wrB; rw [if_neg (show ¬ (prP e).1 < l by show ¬ lvA e.op < l; rw [← hlv]; exact h10)]; show _ = prE e; rw [prE_eq, ndT, if_neg h17, if_neg h35, if_pos h48, getD_map (show 0 < e.args.length by omega)]), rfl⟩)
 refine sR (Z8 ?_)
 refine sB ?_
 refine AW.condD rfl ?_ ?_ <;> intro h56
 ·
  have hu := fm_una hf (.inr <| .inl h56)
  have hz0 : ∀ l : Int, (prL (e.args[0]'(by omega)) l).size ≤ 70 * 1000 + 2 := fun l => prL_size (fm_arg hf (List.getElem_mem _)) (Nat.le_trans (ndS_mem (List.getElem_mem _)) (by omega))
  have hz0a := hz0 8
  have hz0b := hz0 1
  have hz0c := hz0 5
  have hz0d := hz0 3
  refine sR (Z1 Fx.fl30_5 ?_)
  refine Z0 Fx.ty28 ?_
  refine SeqK.q (q_index _ rfl Fx.sl28 rfl rfl (by omega) (idx_ex (show 0 < e.args.length by omega))) rfl rfl rfl ?_
  refine Z11 (.g [_, _, _, _, _, _, _, _]) Fx.ty30 ?_
  refine Z22 Fx.fn80 (ih _ (List.getElem_mem _) _) ?_
  refine SeqK.q (q_addS rfl rfl rfl (by first | omega | (simp only [ByteArray.size_append]; omega))) rfl rfl rfl ?_
  refine SeqK.q (q_addS rfl rfl rfl (by first | omega | (simp only [ByteArray.size_append]; omega))) rfl rfl rfl ?_
  refine sB ?_
  refine AW.ret ?_
  exact f1 (q := ⟨sCe (by show _ = wrB (prP e) l; unfold wrB; rw [if_neg (show ¬ (prP e).1 < l by show ¬ lvA e.op < l; rw [← hlv]; exact h10)]; show _ = prE e; rw [prE_eq, ndT, if_neg h17, if_neg h35, if_neg h48, if_pos h56, getD_map (show 0 < e.args.length by omega)]), rfl⟩)
 refine sR (Z8 ?_)
 refine sB ?_
 refine AW.condD rfl ?_ ?_ <;> intro h65
 ·
  have hu := fm_una hf (.inr <| .inr <| .inl h65)
  have hz0 : ∀ l : Int, (prL (e.args[0]'(by omega)) l).size ≤ 70 * 1000 + 2 := fun l => prL_size (fm_arg hf (List.getElem_mem _)) (Nat.le_trans (ndS_mem (List.getElem_mem _)) (by omega))
  have hz0a := hz0 8
  have hz0b := hz0 1
  have hz0c := hz0 5
  have hz0d := hz0 3
  refine sR (Z1 Fx.fl30_5 ?_)
  refine Z0 Fx.ty28 ?_
  refine SeqK.q (q_index _ rfl Fx.sl28 rfl rfl (by omega) (idx_ex (show 0 < e.args.length by omega))) rfl rfl rfl ?_
  refine Z11 (.g [_, _, _, _, _, _, _, _]) Fx.ty30 ?_
  refine Z22 Fx.fn80 (ih _ (List.getElem_mem _) _) ?_
  refine SeqK.q (q_addS rfl rfl rfl (by first | omega | (simp only [ByteArray.size_append]; omega))) rfl rfl rfl ?_
  refine sB ?_
  refine AW.ret ?_
  exact f1 (q := ⟨sCe (by show _ = wrB (prP e) l; unfold wrB; rw [if_neg (show ¬ (prP e).1 < l by show ¬ lvA e.op < l; rw [← hlv]; exact h10)]; show _ = prE e; rw [prE_eq, ndT, if_neg h17, if_neg h35, if_neg h48, if_neg h56, if_pos h65, getD_map (show 0 < e.args.length by omega)]), rfl⟩)
 refine sR (Z8 ?_)
 refine sB ?_
 refine AW.condD rfl ?_ ?_ <;> intro h73
 ·
  have hu := fm_una hf (.inr <| .inr <| .inr h73)
  have hz0 : ∀ l : Int, (prL (e.args[0]'(by omega)) l).size ≤ 70 * 1000 + 2 := fun l => prL_size (fm_arg hf (List.getElem_mem _)) (Nat.le_trans (ndS_mem (List.getElem_mem _)) (by omega))
  have hz0a := hz0 8
  have hz0b := hz0 1
  have hz0c := hz0 5
  have hz0d := hz0 3
  refine sR (Z1 Fx.fl30_5 ?_)
  refine Z0 Fx.ty28 ?_
  refine SeqK.q (q_index _ rfl Fx.sl28 rfl rfl (by omega) (idx_ex (show 0 < e.args.length by omega))) rfl rfl rfl ?_
  refine Z11 (.g [_, _, _, _, _, _, _, _]) Fx.ty30 ?_
  refine Z22 Fx.fn80 (ih _ (List.getElem_mem _) _) ?_
  refine SeqK.q (q_addS rfl rfl rfl (by first | omega | (simp only [ByteArray.size_append]; omega))) rfl rfl rfl ?_
  refine sB ?_
  refine AW.ret ?_
  exact f1 (q := ⟨sCe (by show _ = wrB (prP e) l; unfold wrB; rw [if_neg (show ¬ (prP e).1 < l by show ¬ lvA e.op < l; rw [← hlv]; exact h10)]; show _ = prE e; rw [prE_eq, ndT, if_neg h17, if_neg h35, if_neg h48, if_neg h56, if_neg h65, if_pos h73, getD_map (show 0 < e.args.length by omega)]), rfl⟩)
 have hb := fm_bin hf h17 h35 h48 h56 h65 h73
 have hz0 : ∀ l : Int, (prL (e.args[0]'(by omega)) l).size ≤ 70 * 1000 + 2 := fun l => prL_size (fm_arg hf (List.getElem_mem _)) (Nat.le_trans (ndS_mem (List.getElem_mem _)) (by omega))
 have hz1 : ∀ l : Int, (prL (e.args[1]'(by omega)) l).size ≤ 70 * 1000 + 2 := fun l => prL_size (fm_arg hf (List.getElem_mem _)) (Nat.le_trans (ndS_mem (List.getElem_mem _)) (by omega))
 have hz0a := hz0 (lfN e.op)
 have hz1a := hz1 (lvA e.op + 1)
 have hsg := sg_size e.op
 refine AW.skip (AW.seq (AW.draw Fx.mo ?_))
 refine Z45 (r := .g [_, _, _, _, _, _, _, _]) Fx.ty30 ?_
 refine Z52 Fx.fn116 (rlevel_any e) ?_
 refine Z45 (r := .g [_, _, _, _, _, _, _, _]) Fx.ty30 ?_
 refine Z52 Fx.fn116 (rlevel_any e) ?_
 refine LexK.q (q_add _ rfl rfl rfl (w64 (by omega) (by omega))) rfl rfl rfl ?_
 refine Z36 ?_
 refine Z36 ?_
 refine Z30 ?_
 refine AW.seqM (fun s => s = ⟨108, sp [(1, .c (iC l)), (2, .lp 2 0), (4, .c (sC ⟨#[]⟩)), (5, .c (iC (lfN e.op))), (6, .c (iC (lvA e.op + 1)))], lv [(2, .box (zEx e))], H⟩) ?_ ?_
 ·
  refine sR (Z12 (r := .g [_, _, _, _, _, _, _, _]) Fx.ty30 ?_)
  refine Z22 Fx.fn116 (rlevel_any e) ?_
  refine Z8 ?_
  refine Z3 ?_
  refine AW.condD rfl ?_ ?_ <;> intro h88
  ·
   refine AW.reg (sB ?_)
   exact ⟨_, by exact Wk.keep 108 _ _ _ rfl ⟨rfl, rfl, rfl, iCe2 (by unfold lfN; rw [← hlv]; first | (rw [if_pos h88]; done) | (rw [if_neg h88]; done)), iCe2 (by rw [← hlv]), trivial⟩ ⟨rfl, trivial⟩ (fun _ _ h => h) rfl, rfl⟩
  refine AW.skip ?_
  exact ⟨_, by exact Wk.keep 108 _ _ _ rfl ⟨rfl, rfl, rfl, iCe2 (by unfold lfN; rw [← hlv]; first | (rw [if_pos h88]; done) | (rw [if_neg h88]; done)), iCe2 (by rw [← hlv]), trivial⟩ ⟨rfl, trivial⟩ (fun _ _ h => h) rfl, rfl⟩
 rintro s rfl
 refine AW.seq (AW.draw Fx.mo ?_)
 refine Z23 Fx.fl30_5 ?_
 refine Z20 Fx.ty28 ?_
 refine LexK.q (q_index _ rfl Fx.sl28 rfl rfl (by omega) (idx_ex (show 0 < e.args.length by omega))) rfl rfl rfl ?_
 refine Z26 (.g [_, _, _, _, _, _, _, _]) Fx.ty30 ?_
 refine Z18 ?_
 refine Z52 Fx.fn80 (ih _ (List.getElem_mem _) _) ?_
 refine LexK.q (q_addS rfl rfl rfl (by first | omega | (simp only [ByteArray.size_append]; omega))) rfl rfl rfl ?_
 refine Z23 Fx.fl30_0 ?_
 refine Z20 Fx.ty3 ?_
 refine Z52 Fx.fn119 (sign_any e.op hb.2) ?_
 refine LexK.q (q_addS rfl rfl rfl (by first | omega | (simp only [ByteArray.size_append]; omega))) rfl rfl rfl ?_
 refine LexK.q (q_addS rfl rfl rfl (by first | omega | (simp only [ByteArray.size_append]; omega))) rfl rfl rfl ?_
 refine Z23 Fx.fl30_5 ?_
 refine Z20 Fx.ty28 ?_
 refine LexK.q (q_index _ rfl Fx.sl28 rfl rfl (by omega) (idx_ex (show 1 < e.args.length by omega))) rfl rfl rfl ?_
 refine Z26 (.g [_, _, _, _, _, _, _, _]) Fx.ty30 ?_
 refine Z18 ?_
 refine Z52 Fx.fn80 (ih _ (List.getElem_mem _) _) ?_
 refine LexK.q (q_addS rfl rfl rfl (by first | omega | (simp only [ByteArray.size_append]; omega))) rfl rfl rfl ?_
 refine Z36 ?_
 refine Z30 ?_
 refine AW.ret ?_
 exact f1 (q := ⟨sCe (by show _ = wrB (prP e) l; unfold wrB; rw [if_neg (show ¬ (prP e).1 < l by show ¬ lvA e.op < l; rw [← hlv]; exact h10)]; show _ = prE e; rw [prE_eq, ndT, if_neg h17, if_neg h35, if_neg h48, if_neg h56, if_neg h65, if_neg h73, getD_map (show 0 < e.args.length by omega), getD_map (show 1 < e.args.length by omega)]), rfl⟩)

set_option maxHeartbeats 8000000 in
set_option maxRecDepth 20000 in
theorem print_lo (e : Ex) (l : Int) (ho : okE e) (hf : fmB e = true) (hn : ndE e ≤ 1000) (ih : ∀ a ∈ e.args, ∀ l : Int, Pure Tryz.prog 80 [exC a, iC l] (.c (sC (prL a l)))) (hl : lvA e.op < l) : Pure Tryz.prog 80 [exC e, iC l] (.c (sC (prL e l))) := by
 have hnd : ndE e = (if e.op ≠ 0 then 1 else 0) + ndS e.args := ndE_eq e
 have hns : ndS e.args ≤ 1000 := by omega
 have hlv := lv_eq (fm_op hf)
 have hlp := lvA_pos e.op
 have hz := pr_size e hf
 have c0 : (⟨#[39]⟩ : ByteArray).size = 1 := rfl
 have c1 : (⟨#[78, 85, 76, 76]⟩ : ByteArray).size = 4 := rfl
 have c2 : (⟨#[46]⟩ : ByteArray).size = 1 := rfl
 have c3 : (⟨#[45]⟩ : ByteArray).size = 1 := rfl
 have c4 : (⟨#[76, 69, 78, 71, 84, 72, 40]⟩ : ByteArray).size = 7 := rfl
 have c5 : (⟨#[41]⟩ : ByteArray).size = 1 := rfl
 have c6 : (⟨#[32, 73, 83, 32, 78, 85, 76, 76]⟩ : ByteArray).size = 8 := rfl
 have c7 : (⟨#[78, 79, 84, 32]⟩ : ByteArray).size = 4 := rfl
 have c8 : (⟨#[32]⟩ : ByteArray).size = 1 := rfl
 have c9 : (⟨#[40]⟩ : ByteArray).size = 1 := rfl
 have c10 : (⟨#[43]⟩ : ByteArray).size = 1 := rfl
 have hz1 : (prL e 1).size ≤ 70 * 1000 + 2 := prL_size hf hn
 intro H
 refine Spec.enter Tryz.func80 rfl ?_
 refine AW.wk (Wk.keep 108 [(0, .c (exC e)), (1, .c (iC l))] [] (H) rfl ⟨rfl, rfl, trivial⟩ trivial (fun _ _ h => h) rfl) ?_
 refine sR (Z16 (r := [_, _, _, _, _, _, _, _]) ?_)
 refine sB ?_
 refine AW.seq (sR (Z12 (r := .g [_, _, _, _, _, _, _, _]) Fx.ty30 ?_))
 refine Z22 Fx.fn116 (rlevel_any e) ?_
 refine sM ?_
 refine Z10 ?_
 refine Z3 ?_
 refine AW.condD rfl ?_ ?_ <;> intro h10
 ·
  refine sR (Z12 (r := .g [_, _, _, _, _, _, _, _]) Fx.ty30 ?_)
  refine SeqK.q (q_call _ rfl Fx.fn80 rfl (print_hi e 1 ho hf hn ih (by omega)) rfl) rfl rfl rfl ?_
  refine SeqK.q (q_addS rfl rfl rfl (by first | omega | (simp only [ByteArray.size_append]; omega))) rfl rfl rfl ?_
  refine SeqK.q (q_addS rfl rfl rfl (by first | omega | (simp only [ByteArray.size_append]; omega))) rfl rfl rfl ?_
  refine sB ?_
  refine AW.ret ?_
  exact f1 (q := ⟨sCe (by rw [show prL e 1 = prE e from by show wrB (prP e) 1 = _; unfold wrB; rw [if_neg (show ¬ (prP e).1 < 1 by show ¬ lvA e.op < 1; omega)]]; show _ = wrB (prP e) l; unfold wrB; rw [if_pos (show (prP e).1 < l from hl)]), rfl⟩)
 exact absurd hl (hlv ▸ h10)

theorem print_txt (e : Ex) : okE e → fmB e = true → ndE e ≤ 1000 → ∀ l : Int, Pure Tryz.prog 80 [exC e, iC l] (.c (sC (prL e l))) := by
  induction e using Ex.rec' with
  | h e ih =>
    intro ho hf hn l
    have ih2 : ∀ a ∈ e.args, ∀ l : Int, Pure Tryz.prog 80 [exC a, iC l] (.c (sC (prL a l))) := fun a ha => ih a ha ((okE_iff.1 ho).2 a ha) (fm_arg hf ha) (Nat.le_trans (ndS_mem ha) (by have := ndE_eq e; omega))
    by_cases hl : lvA e.op < l
    · exact print_lo e l ho hf hn ih2 hl
    · exact print_hi e l ho hf hn ih2 hl

end Go.Proofs.YtihlgigaejhilaaGreatDoor.W
namespace Go.Proofs.YtihlgigaejhilaaGreatDoor.W
open Go.RowKit E
/-! the text of any expression: empty, unless it is valid -/
abbrev vdN (e : Ex) : Int := if 50 < depN e then 3 else if fmB e = true then 0 else 1
abbrev fxT (e : Ex) : ByteArray := if vdN e = 0 then prL e 1 else ⟨#[]⟩
theorem vd_0 {e : Ex} (h : vdN e = 0) : fmB e = true := by
  unfold vdN at h
  split at h
  · omega
  · split at h
    · assumption
    · omega
abbrev tup2 (a : ByteArray) (n : Int) : X := .tup [sC a, iC n]
theorem tup2E {a b : ByteArray} {n m : Int} (h : a = b) (k : n = m) : tup2 a n = tup2 b m := by rw [h, k]

set_option maxRecDepth 20000 in
theorem deep_any (e : Ex) (ho : okE e) (hd : depN e ≤ 1000000) : Pure Tryz.prog 143 [exC e] (.c (bC (decide (50 < depN e)))) := by
 intro H
 refine Spec.enter Tryz.func143 rfl ?_
 refine AW.wk (Wk.keep 6 [(0, .c (exC e))] [] (H) rfl ⟨rfl, trivial⟩ trivial (fun _ _ h => h) rfl) ?_
 refine sR (Z16 (r := [_, _, _, _, _, _, _, _]) ?_)
 refine sB ?_
 refine sR (Z12 (r := .g [_, _, _, _, _, _, _, _]) Fx.ty30 ?_)
 refine SeqK.q (q_call _ rfl Fx.fn144 rfl (depth_any e ho (by omega)) rfl) rfl rfl rfl ?_
 refine SeqK.q (q_gtr rfl rfl rfl) rfl rfl rfl ?_
 refine sB ?_
 refine AW.ret ?_
 exact f1 (q := ⟨bCe (dI ⟨fun h => by omega, fun h => by omega⟩), rfl⟩)

set_option maxHeartbeats 8000000 in
set_option maxRecDepth 20000 in
theorem large_any (e : Ex) (z : Nz) (ho : okE e) (hn : ndE e ≤ 400) (hd : depN e ≤ 1000000) : Pure Tryz.prog 132 [exsC z [e]] (.c (bC (decide (50 < depN e)))) := by
 intro H
 refine Spec.enter Tryz.func132 rfl ?_
 refine AW.wk (Wk.keep 10 [(0, .c (exsC z [e]))] [] (H) rfl ⟨rfl, trivial⟩ trivial (fun _ _ h => h) rfl) ?_
 refine sR (sB ?_)
 refine sR (sM ?_)
 refine SeqK.q (q_call _ rfl Fx.fn142 rfl (counted_any [e] z 400 (by simp) (fun a ha => by rw [List.mem_singleton.1 ha]; exact ho) (by rw [ndS, ndS]; omega) (by omega)) rfl) rfl rfl rfl ?_
 refine SeqK.q (q_gtr rfl rfl rfl) rfl rfl rfl ?_
 refine Z19 (fun g6 => ?_) (fun g6 => ?_)
 ·
  have h9 : ndS [e] = ndE e := by rw [ndS, ndS]; rfl
  exfalso; rw [h9] at g6; omega
 refine Z13 ?_
 refine SeqK.rOn (g_call rfl Fx.fn95 rfl (Spec.arg (l := [exsC z [e]]) (r := []) XW.fn0 (anyF_ex _ 143 [] (fun a => decide (50 < depN a)) [e] z Fx.fn143 (by simp) fun a ha H1 h1 => by rw [List.mem_singleton.1 ha]; exact deep_any e ho hd H1)) rfl rfl rfl) rfl rfl rfl ?_
 refine Z7 ?_
 refine sB ?_
 refine AW.ret ?_
 exact f1 (q := ⟨bCe (by simp), rfl⟩)

set_option maxHeartbeats 8000000 in
set_option maxRecDepth 20000 in
theorem valid_any (e : Ex) (ho : okE e) (hn : ndE e ≤ 400) : Pure Tryz.prog 109 [exC e] (.c (iC (vdN e))) := by
 have hd : depN e ≤ 1000000 := by have := dep_nd e; omega
 intro H
 refine Spec.enter Tryz.func109 rfl ?_
 refine AW.wk (Wk.keep 11 [(0, .c (exC e))] [] (H) rfl ⟨rfl, trivial⟩ trivial (fun _ _ h => h) rfl) ?_
 refine sR (Z16 (r := [_, _, _, _, _, _, _, _]) ?_)
 refine sB ?_
 refine AW.seq (AW.block (sR (Z12 (r := .g [_, _, _, _, _, _, _, _]) Fx.ty30 ?_)))
 refine Z38 Fx.el28 ?_
 refine SeqK.xw 5 rfl (XW.es (show _ = [e].map exT' by rw [List.map_singleton, exT_eq])) ?_
 refine Z22 Fx.fn132 (large_any e _ ho hn hd) ?_
 refine sB ?_
 refine AW.cond _ rfl (fun h3 => ?_) (fun h3 => ?_)
 ·
  have h3a := of_decide_eq_true h3
  refine sR (sB ?_)
  refine AW.ret ?_
  exact f1 (q := ⟨iCe2 (by first | (rw [vdN, if_pos h3a]; done) | (rw [vdN, if_neg h3a]; simp_all)), rfl⟩)
 have h3a := of_decide_eq_false h3
 refine sR (Z12 (r := .g [_, _, _, _, _, _, _, _]) Fx.ty30 ?_)
 refine Z22 Fx.fn133 (formed_any e ho) ?_
 refine Z33 ?_
 refine sB ?_
 refine AW.cond _ rfl (fun h7 => ?_) (fun h7 => ?_)
 ·
  refine sR (sB ?_)
  refine AW.ret ?_
  exact f1 (q := ⟨iCe2 (by first | (rw [vdN, if_pos h3a]; done) | (rw [vdN, if_neg h3a]; simp_all)), rfl⟩)
 refine AW.skip (sR (sB ?_))
 refine AW.ret ?_
 exact f1 (q := ⟨iCe2 (by first | (rw [vdN, if_pos h3a]; done) | (rw [vdN, if_neg h3a]; simp_all)), rfl⟩)

set_option maxHeartbeats 8000000 in
set_option maxRecDepth 20000 in
theorem formatExpr_any (e : Ex) (ho : okE e) (hn : ndE e ≤ 400) : Pure Tryz.prog 75 [exC e] (tup2 (fxT e) (vdN e)) := by
 intro H
 refine Spec.enter Tryz.func75 rfl ?_
 refine AW.wk (Wk.keep 12 [(0, .c (exC e))] [] (H) rfl ⟨rfl, trivial⟩ trivial (fun _ _ h => h) rfl) ?_
 refine sR (Z16 (r := [_, _, _, _, _, _, _, _]) ?_)
 refine sA ?_
 refine sB ?_
 refine AW.seq (sR (Z12 (r := .g [_, _, _, _, _, _, _, _]) Fx.ty30 ?_))
 refine Z22 Fx.fn109 (valid_any e ho hn) ?_
 refine sB ?_
 refine sR (sM ?_)
 refine Z49 ?_
 refine Z3 ?_
 refine AW.condD rfl ?_ ?_ <;> intro h8
 ·
  refine sR (sM ?_)
  refine sA ?_
  refine sB ?_
  refine AW.ret ?_
  exact fin_x (x := .tup [_, _]) (H) (.tmp rfl (.tmp rfl .nil)) rfl (fun _ _ h => h) (⟨tup2E (by rw [fxT, if_neg h8]) rfl, rfl⟩)
 have h8b : vdN e = 0 := Classical.not_not.1 h8
 refine AW.skip (sR (Z12 (r := .g [_, _, _, _, _, _, _, _]) Fx.ty30 ?_))
 refine SeqK.q (q_call _ rfl Fx.fn110 rfl (expr_txt e ho (vd_0 h8b) (by omega) 1) rfl) rfl rfl rfl ?_
 refine sA ?_
 refine sB ?_
 refine AW.ret ?_
 exact fin_x (x := .tup [_, _]) (H) (.tmp rfl (.tmp rfl .nil)) rfl (fun _ _ h => h) (⟨tup2E (by rw [fxT, if_pos h8b]) h8b.symm, rfl⟩)

set_option maxHeartbeats 8000000 in
set_option maxRecDepth 20000 in
theorem text_plan (e : Ex) (ho : okE e) (hn : ndE e ≤ 400) : Pure Tryz.prog 45 [exC e] (.c (sC (fxT e))) := by
 intro H
 refine Spec.enter Tryz.func45 rfl ?_
 refine AW.wk (Wk.keep 11 [(0, .c (exC e))] [] (H) rfl ⟨rfl, trivial⟩ trivial (fun _ _ h => h) rfl) ?_
 refine sR (Z16 (r := [_, _, _, _, _, _, _, _]) ?_)
 refine sB ?_
 refine sR (Z12 (r := .g [_, _, _, _, _, _, _, _]) Fx.ty30 ?_)
 refine Z22 Fx.fn75 (formatExpr_any e ho hn) ?_
 refine SeqK.q (q_mvT rfl rfl) rfl rfl rfl ?_
 refine Z47 ?_
 refine Z47 ?_
 refine sA ?_
 refine sB ?_
 refine sR (sM ?_)
 refine sB ?_
 refine AW.ret ?_
 exact f1 (q := ⟨rfl, rfl⟩)

set_option maxHeartbeats 8000000 in
set_option maxRecDepth 20000 in
theorem rvalid10_any (e : Ex) (ho : okE e) (hn : ndE e ≤ 400) : Pure Tryz.prog 79 [exC e] (.c (iC (vdN e))) := by
 have hd : depN e ≤ 1000000 := by have := dep_nd e; omega
 intro H
 refine Spec.enter Tryz.func79 rfl ?_
 refine AW.wk (Wk.keep 14 [(0, .c (exC e))] [] (H) rfl ⟨rfl, trivial⟩ trivial (fun _ _ h => h) rfl) ?_
 refine sR (Z16 (r := [_, _, _, _, _, _, _, _]) ?_)
 refine sB ?_
 refine AW.seq (sR (Z12 (r := .g [_, _, _, _, _, _, _, _]) Fx.ty30 ?_))
 refine SeqK.q (q_call _ rfl Fx.fn113 rfl (upTo_any e ho 400 hn (by omega)) rfl) rfl rfl rfl ?_
 refine SeqK.q (q_gtr rfl rfl rfl) rfl rfl rfl ?_
 refine Z19 (fun g6 => ?_) (fun g6 => ?_)
 ·
  exfalso; omega
 refine Z37 (r := .g [_, _, _, _, _, _, _, _]) Fx.ty30 ?_
 refine SeqK.on (q_call _ rfl Fx.fn114 rfl (rdepth_any e ho hd) rfl) rfl rfl rfl rfl rfl ?_
 refine Z35 ?_
 refine Z7 ?_
 refine Z3 ?_
 refine AW.condD rfl ?_ ?_ <;> intro h10
 ·
  refine sR (sB ?_)
  refine AW.ret ?_
  exact f1 (q := ⟨iCe2 (by rw [vdN, if_pos (by omega)]), rfl⟩)
 refine AW.skip (AW.seq (sR (Z12 (r := .g [_, _, _, _, _, _, _, _]) Fx.ty30 ?_)))
 refine Z22 Fx.fn115 (rformed_any e ho) ?_
 refine Z33 ?_
 refine Z3 ?_
 refine AW.cond _ rfl (fun h13 => ?_) (fun h13 => ?_)
 ·
  refine sR (sB ?_)
  refine AW.ret ?_
  exact f1 (q := ⟨iCe2 (by rw [vdN, if_neg (by omega)]; simp_all), rfl⟩)
 refine AW.skip (sR (sB ?_))
 refine AW.ret ?_
 exact f1 (q := ⟨iCe2 (by rw [vdN, if_neg (by omega)]; simp_all), rfl⟩)

set_option maxHeartbeats 8000000 in
set_option maxRecDepth 20000 in
theorem textExpr_any (e : Ex) (ho : okE e) (hn : ndE e ≤ 400) : Pure Tryz.prog 48 [exC e] (tup2 (fxT e) (vdN e)) := by
 intro H
 refine Spec.enter Tryz.func48 rfl ?_
 refine AW.wk (Wk.keep 12 [(0, .c (exC e))] [] (H) rfl ⟨rfl, trivial⟩ trivial (fun _ _ h => h) rfl) ?_
 refine sR (Z16 (r := [_, _, _, _, _, _, _, _]) ?_)
 refine sA ?_
 refine sB ?_
 refine AW.seq (sR (Z12 (r := .g [_, _, _, _, _, _, _, _]) Fx.ty30 ?_))
 refine Z22 Fx.fn79 (rvalid10_any e ho hn) ?_
 refine sB ?_
 refine sR (sM ?_)
 refine Z49 ?_
 refine Z3 ?_
 refine AW.condD rfl ?_ ?_ <;> intro h8
 ·
  refine sR (sM ?_)
  refine sA ?_
  refine sB ?_
  refine AW.ret ?_
  exact fin_x (x := .tup [_, _]) (H) (.tmp rfl (.tmp rfl .nil)) rfl (fun _ _ h => h) (⟨tup2E (by rw [fxT, if_neg h8]) rfl, rfl⟩)
 have h8b : vdN e = 0 := Classical.not_not.1 h8
 refine AW.skip (sR (Z12 (r := .g [_, _, _, _, _, _, _, _]) Fx.ty30 ?_))
 refine SeqK.q (q_call _ rfl Fx.fn80 rfl (print_txt e ho (vd_0 h8b) (by omega) 1) rfl) rfl rfl rfl ?_
 refine sA ?_
 refine sB ?_
 refine AW.ret ?_
 exact fin_x (x := .tup [_, _]) (H) (.tmp rfl (.tmp rfl .nil)) rfl (fun _ _ h => h) (⟨tup2E (by rw [fxT, if_pos h8b]) h8b.symm, rfl⟩)

set_option maxHeartbeats 8000000 in
set_option maxRecDepth 20000 in
theorem expr44_any (e : Ex) (ho : okE e) (hn : ndE e ≤ 400) : Pure Tryz.prog 25 [exC e] (.c (sC (fxT e))) := by
 intro H
 refine Spec.enter Tryz.func25 rfl ?_
 refine AW.wk (Wk.keep 11 [(0, .c (exC e))] [] (H) rfl ⟨rfl, trivial⟩ trivial (fun _ _ h => h) rfl) ?_
 refine sR (Z16 (r := [_, _, _, _, _, _, _, _]) ?_)
 refine sB ?_
 refine sR (Z12 (r := .g [_, _, _, _, _, _, _, _]) Fx.ty30 ?_)
 refine Z22 Fx.fn48 (textExpr_any e ho hn) ?_
 refine SeqK.q (q_mvT rfl rfl) rfl rfl rfl ?_
 refine Z47 ?_
 refine Z47 ?_
 refine sA ?_
 refine sB ?_
 refine sR (sM ?_)
 refine sB ?_
 refine AW.ret ?_
 exact f1 (q := ⟨rfl, rfl⟩)

end Go.Proofs.YtihlgigaejhilaaGreatDoor.W
namespace Go.Proofs.YtihlgigaejhilaaGreatDoor.W
open Go.RowKit E
/-! the text of a plan, plain -/
theorem join_snoc (l : List ByteArray) (x sep : ByteArray) : joinB (l ++ [x]) sep = if l = [] then x else joinB l sep ++ sep ++ x := by
  apply ByteArray.ext
  apply Array.toList_inj.1
  show Lib.join ((l ++ [x]).map (·.data.toList)) sep.data.toList = _
  unfold Lib.join
  by_cases h : l = []
  · rw [if_pos h, h]; simp
  · rw [if_neg h]
    have key : ∀ (s : List UInt8) (a : List (List UInt8)) (b : List UInt8), a ≠ [] → s.intercalate (a ++ [b]) = s.intercalate a ++ s ++ b := by
      intro s a b ha
      induction a with
      | nil => exact absurd rfl ha
      | cons c r ih =>
        cases r with
        | nil => simp [List.intercalate]
        | cons d r =>
          have := ih (by simp)
          simp [List.intercalate] at this ⊢
          rw [this]
    rw [List.map_append, List.map_singleton, key _ _ _ (by simpa using h)]
    simp [ByteArray.data_append, joinB, Lib.join]
abbrev cmB : ByteArray := ⟨#[44, 32]⟩
abbrev cnmB (d0 : List Tb) (b : Bd) (p : Pl) (n : Int) : ByteArray := ((tbAt d0 (tabI b.tabs p.src)).cols.map Co.nm).getD n.toNat ⟨#[]⟩
abbrev sgK (p : Pl) (i : Nat) : ByteArray := if p.k = 2 then ⟨#[32, 61, 32]⟩ else if i = 0 then ⟨#[32, 62, 61, 32]⟩ else ⟨#[32, 60, 61, 32]⟩
abbrev itB (d0 : List Tb) (b : Bd) (p : Pl) (i : Nat) (k : Ex) : ByteArray := cnmB d0 b p (colK p i) ++ sgK p i ++ fxT k
def itK (d0 : List Tb) (b : Bd) (p : Pl) : List Ex → Nat → List ByteArray
  | [], _ => []
  | k :: r, i => (if k.op = 0 then [] else [itB d0 b p i k]) ++ itK d0 b p r (i + 1)
theorem itK_app {d0 : List Tb} {b : Bd} {p : Pl} : ∀ (x y : List Ex) (n : Nat), itK d0 b p (x ++ y) n = itK d0 b p x n ++ itK d0 b p y (n + x.length)
  | [], y, n => by rw [itK]; rfl
  | k :: r, y, n => by
    rw [List.cons_append, itK, itK_app r y (n + 1), itK, List.append_assoc, List.length_cons]
    congr 3; omega
theorem itK_take {d0 : List Tb} {b : Bd} {p : Pl} {l : List Ex} {i : Nat} (hi : i < l.length) : itK d0 b p (l.take (i + 1)) 0 = itK d0 b p (l.take i) 0 ++ if l[i].op = 0 then [] else [itB d0 b p i l[i]] := by
  rw [take_put hi, itK_app, List.length_take, Nat.min_eq_left (by omega), Nat.zero_add, itK, itK, List.append_nil]
theorem itK_len {d0 : List Tb} {b : Bd} {p : Pl} : ∀ (l : List Ex) (n : Nat), (itK d0 b p l n).length ≤ l.length
  | [], _ => by rw [itK]; simp
  | k :: r, n => by
    rw [itK, List.length_append, List.length_cons]
    have := itK_len (d0 := d0) (b := b) (p := p) r (n + 1)
    split <;> simp <;> omega
abbrev nmS (d0 : List Tb) (b : Bd) (v : Int) : ByteArray := if (b.frm.getD v.toNat (⟨#[]⟩, ⟨#[]⟩)).2 = ⟨#[]⟩ then (tbAt d0 (tabI b.tabs v)).nm else (b.frm.getD v.toNat (⟨#[]⟩, ⟨#[]⟩)).2
def plX (d0 : List Tb) (b : Bd) (p : Pl) : ByteArray :=
  if p.k = 4 then (if h : 0 < p.args.length then ⟨#[70, 73, 76, 84, 69, 82, 32, 40]⟩ ++ plX d0 b p.args[0] ++ ⟨#[41, 32, 66, 89, 32]⟩ ++ fxT p.flt else ⟨#[]⟩)
  else if p.k = 5 then (if h : 1 < p.args.length then ⟨#[74, 79, 73, 78, 32, 40]⟩ ++ plX d0 b p.args[0] ++ ⟨#[41, 32, 40]⟩ ++ plX d0 b p.args[1] ++ ⟨#[41]⟩ else ⟨#[]⟩)
  else if p.k = 1 then ⟨#[83, 67, 65, 78, 32]⟩ ++ nmS d0 b p.src
  else if p.k = 2 then ⟨#[76, 79, 79, 75, 85, 80, 32]⟩ ++ nmS d0 b p.src ++ ⟨#[32, 40]⟩ ++ joinB (itK d0 b p p.keys 0) cmB ++ ⟨#[41]⟩
  else ⟨#[82, 65, 78, 71, 69, 32]⟩ ++ nmS d0 b p.src ++ ⟨#[32, 40]⟩ ++ joinB (itK d0 b p p.keys 0) cmB ++ ⟨#[41]⟩
termination_by SizeOf.sizeOf p
decreasing_by all_goals exact pargs_lt (List.getElem_mem _)
theorem plX_4 {d0 : List Tb} {b : Bd} {p : Pl} (h : p.k = 4) (h2 : 0 < p.args.length) : plX d0 b p = ⟨#[70, 73, 76, 84, 69, 82, 32, 40]⟩ ++ plX d0 b p.args[0] ++ ⟨#[41, 32, 66, 89, 32]⟩ ++ fxT p.flt := by rw [plX, if_pos h, dif_pos h2]
theorem plX_5 {d0 : List Tb} {b : Bd} {p : Pl} (h : p.k = 5) (h2 : 1 < p.args.length) : plX d0 b p = ⟨#[74, 79, 73, 78, 32, 40]⟩ ++ plX d0 b p.args[0] ++ ⟨#[41, 32, 40]⟩ ++ plX d0 b p.args[1] ++ ⟨#[41]⟩ := by rw [plX, if_neg (by omega), if_pos h, dif_pos h2]
theorem plX_1 {d0 : List Tb} {b : Bd} {p : Pl} (h : p.k = 1) : plX d0 b p = ⟨#[83, 67, 65, 78, 32]⟩ ++ nmS d0 b p.src := by rw [plX, if_neg (by omega), if_neg (by omega), if_pos h]
theorem plX_2 {d0 : List Tb} {b : Bd} {p : Pl} (h : p.k = 2) : plX d0 b p = ⟨#[76, 79, 79, 75, 85, 80, 32]⟩ ++ nmS d0 b p.src ++ ⟨#[32, 40]⟩ ++ joinB (itK d0 b p p.keys 0) cmB ++ ⟨#[41]⟩ := by rw [plX, if_neg (by omega), if_neg (by omega), if_neg (by omega), if_pos h]
theorem plX_3 {d0 : List Tb} {b : Bd} {p : Pl} (h : p.k = 3) : plX d0 b p = ⟨#[82, 65, 78, 71, 69, 32]⟩ ++ nmS d0 b p.src ++ ⟨#[32, 40]⟩ ++ joinB (itK d0 b p p.keys 0) cmB ++ ⟨#[41]⟩ := by rw [plX, if_neg (by omega), if_neg (by omega), if_neg (by omega), if_neg (by omega)]
/-- short names -/
structure okN (d0 : List Tb) (b : Bd) : Prop where
  tn : ∀ t ∈ d0, t.nm.size ≤ 60
  cn : ∀ t ∈ d0, ∀ c ∈ t.cols, c.nm.size ≤ 60
  al : ∀ f ∈ b.frm, f.2.size ≤ 60
  len : b.frm.length = b.tabs.length
theorem join_size (sep : ByteArray) (N : Nat) : ∀ l : List ByteArray, (∀ x ∈ l, x.size ≤ N) → (joinB l sep).size ≤ l.length * (N + sep.size) := by
  intro l h
  have key : ∀ k, k ≤ l.length → (joinB (l.take k) sep).size ≤ k * (N + sep.size) := by
    intro k
    induction k with
    | zero => intro _; rw [List.take_zero]; show (0 : Nat) ≤ _; omega
    | succ k ih =>
      intro hk
      have h1 := ih (by omega)
      have h2 := h l[k] (List.getElem_mem (by omega))
      rw [take_put (by omega), join_snoc, Nat.add_mul]
      split
      · omega
      · rw [ByteArray.size_append, ByteArray.size_append]; omega
  have := key l.length (Nat.le_refl _)
  rwa [List.take_length] at this
theorem fx_size {e : Ex} (h : ndE e ≤ 400) : (fxT e).size ≤ 28002 := by
  unfold fxT
  split
  · rename_i h1
    exact prL_size (vd_0 h1) h
  · decide

end Go.Proofs.YtihlgigaejhilaaGreatDoor.W
namespace Go.Proofs.YtihlgigaejhilaaGreatDoor.W
open Go.RowKit E
/-! the text of a plan, walked -/
theorem few_nd {d : Nat} {p : Pl} (h : fewB d p = true) : ndE p.flt ≤ 400 ∧ ∀ k ∈ p.keys, ndE k ≤ 400 := by
  cases d with
  | zero => rw [fewB] at h; cases h
  | succ d =>
    rw [fewB, Bool.and_eq_true, Bool.and_eq_true, List.all_eq_true] at h
    have h1 := (of_decide_eq_true h.1).2.2.2
    exact ⟨Nat.le_trans (nd_nod _ _ h1) h1, fun k hk => by have h2 := of_decide_eq_true (h.2.1 k hk); exact Nat.le_trans (nd_nod _ _ h2) h2⟩
theorem few_dec {d : Nat} {p a : Pl} (h : fewB d p = true) (ha : a ∈ p.args) : 0 < d ∧ fewB (d - 1) a = true := by
  cases d with
  | zero => rw [fewB] at h; cases h
  | succ d =>
    rw [fewB, Bool.and_eq_true, Bool.and_eq_true, List.all_eq_true (l := p.args)] at h
    exact ⟨by omega, h.2.2 a ha⟩
theorem few_kl {d : Nat} {p : Pl} (h : fewB d p = true) : p.keys.length ≤ 10 := by
  cases d with
  | zero => rw [fewB] at h; cases h
  | succ d =>
    rw [fewB, Bool.and_eq_true] at h; exact (of_decide_eq_true h.1).2.1
theorem nm_size {d0 : List Tb} {b : Bd} (h : okN d0 b) (v : Int) : (nmS d0 b v).size ≤ 60 := by
  unfold nmS
  split
  · unfold tbAt
    rw [List.getD_eq_getElem?_getD]
    by_cases hv : (tabI b.tabs v).toNat < d0.length
    · rw [List.getElem?_eq_getElem hv]; exact h.tn _ (List.getElem_mem hv)
    · rw [List.getElem?_eq_none (by omega)]; decide
  · rw [List.getD_eq_getElem?_getD]
    by_cases hv : v.toNat < b.frm.length
    · rw [List.getElem?_eq_getElem hv]; exact h.al _ (List.getElem_mem hv)
    · rw [List.getElem?_eq_none (by omega)]; decide
theorem cnm_size {d0 : List Tb} {b : Bd} (h : okN d0 b) (p : Pl) (n : Int) : (cnmB d0 b p n).size ≤ 60 := by
  unfold cnmB
  rw [List.getD_eq_getElem?_getD]
  by_cases hn : n.toNat < ((tbAt d0 (tabI b.tabs p.src)).cols.map Co.nm).length
  · rw [List.getElem?_eq_getElem hn, List.getElem_map]
    rw [List.length_map] at hn
    by_cases hv : (tabI b.tabs p.src).toNat < d0.length
    · have e : (tbAt d0 (tabI b.tabs p.src)) = d0[(tabI b.tabs p.src).toNat] := tbAt_get hv
      exact h.cn (tbAt d0 (tabI b.tabs p.src)) (by rw [e]; exact List.getElem_mem hv) _ (List.getElem_mem hn)
    · have e : (tbAt d0 (tabI b.tabs p.src)).cols = [] := by unfold tbAt; rw [List.getD_eq_getElem?_getD, List.getElem?_eq_none (by omega)]; rfl
      rw [e] at hn; simp at hn
  · rw [List.getElem?_eq_none (by omega)]; decide
theorem sgK_size (p : Pl) (i : Nat) : (sgK p i).size ≤ 4 := by
  unfold sgK; split
  · decide
  · split <;> decide
theorem it_size {d0 : List Tb} {b : Bd} (h : okN d0 b) (p : Pl) : ∀ (l : List Ex) (i : Nat), (∀ k ∈ l, ndE k ≤ 400) → ∀ x ∈ itK d0 b p l i, x.size ≤ 28066
  | [], i, _, x, hx => by rw [itK] at hx; simp at hx
  | k :: r, i, hk, x, hx => by
    rw [itK, List.mem_append] at hx
    rcases hx with hx | hx
    · split at hx
      · simp at hx
      · rw [List.mem_singleton.1 hx, ByteArray.size_append, ByteArray.size_append]
        have h1 := cnm_size h p (colK p i)
        have h2 := sgK_size p i
        have h3 := fx_size (hk k (by simp))
        omega
    · exact it_size h p r (i + 1) (fun q hq => hk q (by simp [hq])) x hx
theorem join_leaf {d0 : List Tb} {b : Bd} {p : Pl} {d : Nat} (h : okN d0 b) (hf : fewB d p = true) : (joinB (itK d0 b p p.keys 0) cmB).size ≤ 300000 := by
  have h1 := join_size cmB 28066 (itK d0 b p p.keys 0) (it_size h p p.keys 0 (few_nd hf).2)
  have h2 := itK_len (d0 := d0) (b := b) (p := p) p.keys 0
  have h3 := few_kl hf
  have h4 : cmB.size = 2 := rfl
  rw [h4] at h1
  have h5 : (itK d0 b p p.keys 0).length * (28066 + 2) ≤ 10 * (28066 + 2) := Nat.mul_le_mul_right _ (by omega)
  omega
theorem plX_size {d0 : List Tb} {b : Bd} (h : okN d0 b) : ∀ (d : Nat) (p : Pl), fewB d p = true → (plX d0 b p).size ≤ 1000000 * 4 ^ d
  | 0, p, hf => by rw [fewB] at hf; cases hf
  | d + 1, p, hf => by
    have hp : 1 ≤ 4 ^ d := Nat.one_le_pow _ _ (by omega)
    have hs : (4 : Nat) ^ (d + 1) = 4 * 4 ^ d := by rw [Nat.pow_succ, Nat.mul_comm]
    have hm := nm_size h p.src
    have hj := join_leaf h hf
    have hx := fx_size (few_nd hf).1
    have ha : ∀ i (hi : i < p.args.length), (plX d0 b p.args[i]).size ≤ 1000000 * 4 ^ d := fun i hi => plX_size h d _ (few_dec hf (List.getElem_mem hi)).2
    rw [plX]
    split
    · split
      · have h0 := ha 0 (by assumption)
        simp only [ByteArray.size_append]
        have c1 : (⟨#[70, 73, 76, 84, 69, 82, 32, 40]⟩ : ByteArray).size = 8 := rfl
        have c2 : (⟨#[41, 32, 66, 89, 32]⟩ : ByteArray).size = 5 := rfl
        omega
      · show (0 : Nat) ≤ _; omega
    · split
      · split
        · have h0 := ha 0 (by omega)
          have h1 := ha 1 (by assumption)
          simp only [ByteArray.size_append]
          have c1 : (⟨#[74, 79, 73, 78, 32, 40]⟩ : ByteArray).size = 6 := rfl
          have c2 : (⟨#[41, 32, 40]⟩ : ByteArray).size = 3 := rfl
          have c3 : (⟨#[41]⟩ : ByteArray).size = 1 := rfl
          omega
        · show (0 : Nat) ≤ _; omega
      · have c1 : (⟨#[83, 67, 65, 78, 32]⟩ : ByteArray).size = 5 := rfl
        have c2 : (⟨#[76, 79, 79, 75, 85, 80, 32]⟩ : ByteArray).size = 7 := rfl
        have c3 : (⟨#[82, 65, 78, 71, 69, 32]⟩ : ByteArray).size = 6 := rfl
        have c4 : (⟨#[32, 40]⟩ : ByteArray).size = 2 := rfl
        have c5 : (⟨#[41]⟩ : ByteArray).size = 1 := rfl
        split
        · simp only [ByteArray.size_append]; omega
        · split
          · simp only [ByteArray.size_append]; omega
          · simp only [ByteArray.size_append]; omega
theorem join_any (l : List ByteArray) (z : Nz) (hN : l.length ≤ 1000) (hl : (joinB l cmB).size ≤ 1000000) : Pure Tryz.prog 47 [.a (.t (.sl z 1 (l.map txT))), sC cmB] (.c (sC (joinB l cmB))) :=
  Pure.join (fun a c sep w => Tryz.strings_Join_none a c sep w) (fun bk o c xs sep w h1 h2 h3 h4 h5 => Tryz.strings_Join bk o c xs sep w h1 h2 h3 h4 h5) z l cmB (by omega) (by omega)
theorem cnm_eq {d0 : List Tb} {b : Bd} {p : Pl} {n : Int} (h : n.toNat < (tbAt d0 (tabI b.tabs p.src)).cols.length) : cnmB d0 b p n = (tbAt d0 (tabI b.tabs p.src)).cols[n.toNat].nm := by
  unfold cnmB
  rw [List.getD_eq_getElem?_getD, List.getElem?_map, List.getElem?_eq_getElem h]; rfl
theorem sg2 {i : Nat} (h : i < 2) (x y : ByteArray) : ([txT x, txT y] : List (List E.T))[((i : Nat) : Int).toNat]? = some (txT (if i = 0 then x else y)) := by
  match i, h with
  | 0, _ => rfl
  | 1, _ => rfl

end Go.Proofs.YtihlgigaejhilaaGreatDoor.W
namespace Go.Proofs.YtihlgigaejhilaaGreatDoor.W
open Go.RowKit E
abbrev FX (d0 : List Tb) (b : Bd) (kx : Nat) (a : Pl) : Prop := ∀ H : Heap, H kx = some (.box (stA d0 b)) → E.Spec Tryz.prog 24 [.a (.bp kx 0), plC a] H fun x H' => x = .c (sC (plX d0 b a)) ∧ H' = H
theorem sh_kind {d0 : List Tb} {b : Bd} {p : Pl} {l : List Int} (h : shB d0 b p l = true) : (p.k = 4 ∧ p.args.length = 1) ∨ (p.k = 5 ∧ p.args.length = 2) ∨ (lfK p ∧ lfP d0 b l p) := by
  by_cases hl : lfK p
  · rw [shB_leaf hl] at h
    exact .inr (.inr ⟨hl, of_decide_eq_true h⟩)
  · by_cases hn : npP p
    · by_cases h4 : p.k = 4
      · by_cases h5 : p.args.length = 1
        · exact .inl ⟨h4, h5⟩
        · rw [shB_4n hn h4 h5] at h; cases h
      · by_cases h5 : p.args.length = 2
        · exact .inr (.inl ⟨by have := hn.1; omega, h5⟩)
        · rw [shB_5n hn h4 h5] at h; cases h
    · rw [shB_no hl hn] at h; cases h

set_option maxHeartbeats 8000000 in
set_option maxRecDepth 20000 in
theorem format_of (H : Heap) (kx : Nat) (d0 : List Tb) (b : Bd) (hx : H kx = some (.box (stA d0 b))) (hb : okB d0 b) (hN : okN d0 b) (p : Pl) (ho : okP p) (d : Nat) (hd : d ≤ 7) (hf : fewB d p = true) (hsh : ∃ l, shB d0 b p l = true) (ih : ∀ a ∈ p.args, FX d0 b kx a) : E.Spec Tryz.prog 24 [.a (.bp kx 0), plC p] H fun x H' => x = .c (sC (plX d0 b p)) ∧ H' = H := by
 obtain ⟨⟨k1, k2, k3, kf, kk⟩, k5⟩ := okP_iff.1 ho
 obtain ⟨l, hl⟩ := hsh
 have hfl := fx_size (few_nd hf).1
 have c0 : (⟨#[70, 73, 76, 84, 69, 82, 32, 40]⟩ : ByteArray).size = 8 := rfl
 have c1 : (⟨#[41, 32, 66, 89, 32]⟩ : ByteArray).size = 5 := rfl
 have c2 : (⟨#[74, 79, 73, 78, 32, 40]⟩ : ByteArray).size = 6 := rfl
 have c3 : (⟨#[41, 32, 40]⟩ : ByteArray).size = 3 := rfl
 have c4 : (⟨#[41]⟩ : ByteArray).size = 1 := rfl
 have c5 : (⟨#[83, 67, 65, 78, 32]⟩ : ByteArray).size = 5 := rfl
 have c6 : (⟨#[76, 79, 79, 75, 85, 80, 32]⟩ : ByteArray).size = 7 := rfl
 have c7 : (⟨#[82, 65, 78, 71, 69, 32]⟩ : ByteArray).size = 6 := rfl
 have c8 : (⟨#[32, 40]⟩ : ByteArray).size = 2 := rfl
 have c9 : (⟨#[32, 61, 32]⟩ : ByteArray).size = 3 := rfl
 have c10 : (⟨#[32, 62, 61, 32]⟩ : ByteArray).size = 4 := rfl
 have c11 : (⟨#[32, 60, 61, 32]⟩ : ByteArray).size = 4 := rfl
 refine Spec.enter Tryz.func24 rfl ?_
 refine AW.wk (Wk.keep 167 [(0, .c (.a (.bp kx 0))), (1, .c (plC p))] [] (H) rfl ⟨rfl, rfl, trivial⟩ trivial (fun _ _ h => h) rfl) ?_
 refine sR (Z16 (r := [_, _, _, _, _, _, _, _, _, _, _, _, _]) ?_)
 refine sB ?_
 refine AW.seq (sR (Z1 Fx.fl35_0 ?_))
 refine Z0 Fx.ty3 ?_
 refine Z3 (AW.block (sR (Z8 ?_)))
 refine sB ?_
 refine AW.condD rfl ?_ ?_ <;> intro h14
 ·
  have hq : p.args.length = 1 := by rcases sh_kind hl with hq | hq | hq; exact hq.2; omega; exact absurd hq.1 (by omega)
  have hz0 : (plX d0 b (p.args[0]'(by omega))).size ≤ 1000000 * 4 ^ 7 := by have h8 := few_dec hf (show p.args[0]'(by omega) ∈ p.args from List.getElem_mem _); exact Nat.le_trans (plX_size hN _ _ h8.2) (Nat.mul_le_mul_left _ (Nat.pow_le_pow_right (by omega) (by omega)))
  refine AW.seq (AW.draw Fx.mo ?_)
  refine Z18 ?_
  refine Z23 Fx.fl35_5 ?_
  refine Z20 Fx.ty33 ?_
  refine LexK.q (q_index _ rfl Fx.sl33 rfl rfl (by omega) (idx_pl (show 0 < p.args.length by omega))) rfl rfl rfl ?_
  refine Z26 (.g [_, _, _, _, _, _, _, _, _, _, _, _, _]) Fx.ty35 ?_
  refine LexK.r (g_call rfl Fx.fn24 rfl (ih (p.args[0]'(by omega)) (List.getElem_mem _) _ hx) rfl rfl rfl) rfl ?_
  refine LexK.q (q_addS rfl rfl rfl (by first | omega | (simp only [ByteArray.size_append]; omega))) rfl rfl rfl ?_
  refine LexK.q (q_addS rfl rfl rfl (by first | omega | (simp only [ByteArray.size_append]; omega))) rfl rfl rfl ?_
  refine Z23 Fx.fl35_4 ?_
  refine Z45 (r := .g [_, _, _, _, _, _, _, _]) Fx.ty30 ?_
  refine Z52 Fx.fn45 (text_plan p.flt kf (few_nd hf).1) ?_
  refine LexK.q (q_addS rfl rfl rfl (by first | omega | (simp only [ByteArray.size_append]; omega))) rfl rfl rfl ?_
  refine Z36 ?_
  refine Z30 ?_
  refine AW.ret ?_
  exact f1 (q := ⟨sCe (by rw [plX_4 h14 (show 0 < p.args.length by omega)]), rfl⟩)
 refine sR (Z8 ?_)
 refine sB ?_
 refine AW.condD rfl ?_ ?_ <;> intro h28
 ·
  have hq : p.args.length = 2 := by rcases sh_kind hl with hq | hq | hq; omega; exact hq.2; exact absurd hq.1 (by omega)
  have hz0 : (plX d0 b (p.args[0]'(by omega))).size ≤ 1000000 * 4 ^ 7 := by have h8 := few_dec hf (show p.args[0]'(by omega) ∈ p.args from List.getElem_mem _); exact Nat.le_trans (plX_size hN _ _ h8.2) (Nat.mul_le_mul_left _ (Nat.pow_le_pow_right (by omega) (by omega)))
  have hz1 : (plX d0 b (p.args[1]'(by omega))).size ≤ 1000000 * 4 ^ 7 := by have h8 := few_dec hf (show p.args[1]'(by omega) ∈ p.args from List.getElem_mem _); exact Nat.le_trans (plX_size hN _ _ h8.2) (Nat.mul_le_mul_left _ (Nat.pow_le_pow_right (by omega) (by omega)))
  refine AW.seq (AW.draw Fx.mo ?_)
  refine Z18 ?_
  refine Z23 Fx.fl35_5 ?_
  refine Z20 Fx.ty33 ?_
  refine LexK.q (q_index _ rfl Fx.sl33 rfl rfl (by omega) (idx_pl (show 0 < p.args.length by omega))) rfl rfl rfl ?_
  refine Z26 (.g [_, _, _, _, _, _, _, _, _, _, _, _, _]) Fx.ty35 ?_
  refine LexK.r (g_call rfl Fx.fn24 rfl (ih (p.args[0]'(by omega)) (List.getElem_mem _) _ hx) rfl rfl rfl) rfl ?_
  refine LexK.q (q_addS rfl rfl rfl (by first | omega | (simp only [ByteArray.size_append]; omega))) rfl rfl rfl ?_
  refine LexK.q (q_addS rfl rfl rfl (by first | omega | (simp only [ByteArray.size_append]; omega))) rfl rfl rfl ?_
  refine Z18 ?_
  refine Z23 Fx.fl35_5 ?_
  refine Z20 Fx.ty33 ?_
  refine LexK.q (q_index _ rfl Fx.sl33 rfl rfl (by omega) (idx_pl (show 1 < p.args.length by omega))) rfl rfl rfl ?_
  refine Z26 (.g [_, _, _, _, _, _, _, _, _, _, _, _, _]) Fx.ty35 ?_
  refine LexK.r (g_call rfl Fx.fn24 rfl (ih (p.args[1]'(by omega)) (List.getElem_mem _) _ hx) rfl rfl rfl) rfl ?_
  refine LexK.q (q_addS rfl rfl rfl (by first | omega | (simp only [ByteArray.size_append]; omega))) rfl rfl rfl ?_
  refine LexK.q (q_addS rfl rfl rfl (by first | omega | (simp only [ByteArray.size_append]; omega))) rfl rfl rfl ?_
  refine Z36 ?_
  refine Z30 ?_
  refine AW.ret ?_
  exact f1 (q := ⟨sCe (by rw [plX_5 h28 (show 1 < p.args.length by omega)]), rfl⟩)
 have hlk : lfK p ∧ lfP d0 b l p := by rcases sh_kind hl with hq | hq | hq; omega; omega; exact hq
 have hs : 0 ≤ p.src ∧ p.src < b.tabs.length := hlk.2.1.1
 have hfu : p.src.toNat < b.frm.length := by have := hN.len; omega
 have hgd : b.frm.getD p.src.toNat (⟨#[]⟩, ⟨#[]⟩) = b.frm[p.src.toNat] := by rw [List.getD_eq_getElem?_getD, List.getElem?_eq_getElem hfu]; rfl
 have hlq := hlk.2.2.2.2
 unfold lf4 at hlq
 have hnc : ncol d0 (tabI b.tabs p.src) = (tbAt d0 (tabI b.tabs p.src)).cols.length := rfl
 refine AW.skip (sR (sM ?_))
 refine Z1 Fx.fl35_1 ?_
 refine Z0 Fx.ty3 ?_
 refine Z53 Fx.fn46 (table_st H kx d0 b hx hb p.src hs) ?_
 refine Z25 (r := [_, _, _, _, _]) Fx.ze64 ?_
 refine Z15 (r := [_, _, _, _, _]) Fx.ty64 ?_
 refine Z3 (sR (Z1 Fx.fl64_0 ?_))
 refine Z0 Fx.ty9 ?_
 refine sB ?_
 refine AW.seqM (fun s => s = ⟨167, sp [(0, .c (.a (.bp kx 0))), (3, .lp 3 0), (4, .c (sC ⟨#[]⟩)), (5, .lp 5 0), (6, .c (sC (nmS d0 b p.src)))], lv [(3, .box (zPl p)), (5, .box (zTb (tbAt d0 (tabI b.tabs p.src))))], H⟩) ?_ ?_
 ·
  refine AW.seq (AW.draw Fx.mo ?_)
  refine Z23 Fx.fl35_1 ?_
  refine Z20 Fx.ty3 ?_
  refine Z18 ?_
  refine LexK.q (q_nilH rfl rfl) rfl rfl rfl ?_
  refine LexK.q (q_fieldH _ rfl Fx.fl78_1 rfl rfl) rfl rfl rfl ?_
  refine LexK.q (q_fieldH _ rfl Fx.fl51_0 rfl rfl) rfl rfl rfl ?_
  refine LexK.q (q_fieldH _ rfl Fx.fl47_6 rfl rfl) rfl rfl rfl ?_
  refine Z51 Fx.ty44 ?_
  refine LexK.q (q_len rfl Fx.un44 rfl) rfl rfl rfl ?_
  refine LexK.q (q_lss rfl rfl rfl) rfl rfl rfl ?_
  refine LexK.qD (q_mvC rfl rfl) rfl rfl rfl (fun g62 => ?_) (fun g62 => ?_)
  ·
   refine Z29 ?_
   refine LexK.on (q_nilH rfl rfl) rfl rfl rfl rfl rfl ?_
   refine LexK.on (q_fieldH _ rfl Fx.fl78_1 rfl rfl) rfl rfl rfl rfl rfl ?_
   refine LexK.on (q_fieldH _ rfl Fx.fl51_0 rfl rfl) rfl rfl rfl rfl rfl ?_
   refine LexK.on (q_fieldH _ rfl Fx.fl47_6 rfl rfl) rfl rfl rfl rfl rfl ?_
   refine LexK.rOn (g_load (r := .a _) rfl Fx.ty44 rfl (by (repeat rw [upd_ne _ _ (by first | assumption | exact Ne.symm (by assumption))]); first | assumption | exact upd_same _ _ _) rfl rfl rfl rfl) rfl rfl rfl ?_
   refine Z24 Fx.fl35_1 ?_
   refine Z21 Fx.ty3 ?_
   refine Z48 Fx.sl44 (idx_map (f := srT) hfu) ?_
   refine LexK.on (q_fieldP _ rfl Fx.fl66_1 rfl rfl) rfl rfl rfl rfl rfl ?_
   refine Z39 (.a _) Fx.ty9 ?_
   refine LexK.on (q_neqS rfl rfl rfl) rfl rfl rfl rfl rfl ?_
   refine Z43 ?_
   refine Z30 ?_
   refine AW.condD rfl ?_ ?_ <;> intro h75
   ·
    refine AW.draw Fx.mo ?_
    refine Z18 ?_
    refine LexK.q (q_nilH rfl rfl) rfl rfl rfl ?_
    refine LexK.q (q_fieldH _ rfl Fx.fl78_1 rfl rfl) rfl rfl rfl ?_
    refine LexK.q (q_fieldH _ rfl Fx.fl51_0 rfl rfl) rfl rfl rfl ?_
    refine LexK.q (q_fieldH _ rfl Fx.fl47_6 rfl rfl) rfl rfl rfl ?_
    refine Z51 Fx.ty44 ?_
    refine Z23 Fx.fl35_1 ?_
    refine Z20 Fx.ty3 ?_
    refine Z27 Fx.sl44 (idx_map (f := srT) hfu) ?_
    refine LexK.q (q_fieldP _ rfl Fx.fl66_1 rfl rfl) rfl rfl rfl ?_
    refine Z26 (.a _) Fx.ty9 ?_
    refine Z36 ?_
    refine Z30 ?_
    exact ⟨_, by exact Wk.keep 167 _ _ _ rfl ⟨rfl, rfl, rfl, rfl, sCe (by unfold nmS; first | (rw [if_pos (by rw [hgd]; exact Classical.not_not.1 h75)]; done) | (rw [if_neg (by rw [hgd]; exact h75), hgd]; done)), trivial⟩ ⟨rfl, rfl, trivial⟩ (fun _ _ h => h) rfl, rfl⟩
   refine AW.skip ?_
   exact ⟨_, by exact Wk.keep 167 _ _ _ rfl ⟨rfl, rfl, rfl, rfl, sCe (by unfold nmS; first | (rw [if_pos (by rw [hgd]; exact Classical.not_not.1 h75)]; done) | (rw [if_neg (by rw [hgd]; exact h75), hgd]; done)), trivial⟩ ⟨rfl, rfl, trivial⟩ (fun _ _ h => h) rfl, rfl⟩
  exfalso; have := hN.len; simp only [List.length_map] at *; omega
 rintro s rfl
 refine sR (sB ?_)
 refine AW.seq (AW.seq ?_)
 refine AW.tip 7 9 1 rfl (fun k0 hk0 => ?_)
 have hnl := nm_size hN p.src
 refine AW.reg (Z1 Fx.fl35_0 ?_)
 refine Z0 Fx.ty3 ?_
 refine Z3 (AW.block (sR (Z8 ?_)))
 refine sB ?_
 refine AW.condD rfl ?_ ?_ <;> intro h89
 ·
  refine sR (sM ?_)
  refine SeqK.q (q_addS rfl rfl rfl (by first | omega | (simp only [ByteArray.size_append]; omega))) rfl rfl rfl ?_
  refine sB ?_
  refine AW.ret ?_
  exact fin_x (x := .c _) (H) (.tmp rfl .nil) rfl ((fun j o h => upd_sub hk0 j o h)) (⟨sCe (by rw [plX_1 h89]), rfl⟩)
 refine sR (Z8 ?_)
 refine sB ?_
 refine AW.condD rfl ?_ ?_ <;> intro h93
 ·
  rw [if_neg (by omega), if_pos h93] at hlq
  refine AW.seq (sR (Z1 Fx.fl35_2 ?_))
  refine Z0 Fx.ty24 ?_
  refine Z14 Fx.un24 ?_
  refine sM ?_
  refine Z3 (AW.block ?_)
  refine AW.loop (fun (i : Nat) s => ∃ (kt : Nat) (zs : List (List E.T)), (i ≤ p.keys.length ∧ H kt = none ∧ zs = (itK d0 b p (p.keys.take i) 0).map txT) ∧ s = ⟨167, sp [(0, .c (.a (.bp kx 0))), (3, .lp 3 0), (4, .c (sC ⟨#[]⟩)), (5, .lp 5 0), (6, .c (sC (nmS d0 b p.src))), (7, .c (.a (.ts kt .ne 1 zs))), (96, .c (iL .un p.cols)), (97, iX .i64 (((p.cols.map i64T).length : Nat) : Int)), (98, iX .i64 ((i : Nat) : Int))], lv [(3, .box (zPl p)), (5, .box (zTb (tbAt d0 (tabI b.tabs p.src))))], upd H kt (some (.tip 9 1 zs.length))⟩) (fun i => p.keys.length - i) 0 ⟨_, by exact Wk.keep 167 _ _ _ rfl ⟨rfl, rfl, rfl, rfl, rfl, rfl, rfl, rfl, rfl, trivial⟩ ⟨rfl, rfl, trivial⟩ (fun _ _ h => h) rfl, k0, [], ⟨Nat.zero_le _, hk0, by rw [List.take_zero, itK]; rfl⟩, rfl⟩ (fun i s hs => ?_)
  obtain ⟨kt, zs, ⟨hi0, hkt, hzs⟩, rfl⟩ := hs
  refine sR (Z10 ?_)
  refine Z3 (AW.seq ?_)
  refine AW.condD rfl ?_ ?_ <;> intro h99
  ·
   have hi : i < p.keys.length := by rw [List.length_map] at h99; omega
   have hic : i < p.cols.length := by omega
   have hcq := hlk.2.2.1 i hic
   have hcx : p.cols[i].toNat < (tbAt d0 (tabI b.tabs p.src)).cols.length := by omega
   have hop : ¬ p.keys[i].op = 0 := prs_all.1 hlq.2.2 _ (List.getElem_mem hi)
   have hcs := cnm_size hN p p.cols[i]
   rw [cnm_eq hcx] at hcs
   have hfs := fx_size ((few_nd hf).2 _ (List.getElem_mem hi))
   have hit : itB d0 b p i p.keys[i] = ((tbAt d0 (tabI b.tabs p.src)).cols[p.cols[i].toNat]'hcx).nm ++ ⟨#[32, 61, 32]⟩ ++ fxT p.keys[i] := by rw [itB, sgK, if_pos h93, colK, if_pos h93, List.getD_eq_getElem?_getD, List.getElem?_eq_getElem hic]; show cnmB d0 b p p.cols[i] ++ _ ++ _ = _; rw [cnm_eq hcx]
   refine AW.skip (AW.seq (AW.block (sR (sM ?_))))
   refine Z9 Fx.sl24 (idx_map (f := i64T) hic) ?_
   refine Z11 (.a _) Fx.ty3 ?_
   refine sA ?_
   refine sB ?_
   refine AW.drawO [0, 1, 2, 3, 4, 5, 6, 7, 8, 9, 10, 11, 12, 13, 14, 15, 16, 17] Fx.mo (by kernel_rfl) ?_
   refine LexO.q rfl (by kernel_rfl) (q_mvC rfl rfl) rfl rfl rfl ?_
   refine Z32 Fx.fl64_1 ?_
   refine Z40 Fx.ty36 ?_
   refine LexO.q rfl (by kernel_rfl) (q_mvC rfl rfl) rfl rfl rfl ?_
   refine LexO.q rfl (by kernel_rfl) (q_index _ rfl Fx.sl36 rfl rfl (by omega) (idx_map (f := coT) hcx)) rfl rfl rfl ?_
   refine LexO.q rfl (by kernel_rfl) (q_fieldP _ rfl Fx.fl82_0 rfl rfl) rfl rfl rfl ?_
   refine LexO.q rfl (by kernel_rfl) (q_load (.a _) rfl Fx.ty9 rfl rfl rfl) rfl rfl rfl ?_
   refine LexO.q rfl (by kernel_rfl) (q_addS rfl rfl rfl (by first | omega | (simp only [ByteArray.size_append]; omega))) rfl rfl rfl ?_
   refine Z32 Fx.fl35_3 ?_
   refine Z40 Fx.ty28 ?_
   refine LexO.q rfl (by kernel_rfl) (q_mvC rfl rfl) rfl rfl rfl ?_
   refine LexO.q rfl (by kernel_rfl) (q_index _ rfl Fx.sl28 rfl rfl (by omega) (idx_ex hi)) rfl rfl rfl ?_
   refine LexO.q rfl (by kernel_rfl) (q_load (.g [_, _, _, _, _, _, _, _]) rfl Fx.ty30 rfl rfl rfl) rfl rfl rfl ?_
   refine LexO.q rfl (by kernel_rfl) (q_call _ rfl Fx.fn45 rfl (text_plan p.keys[i] (kk _ (List.getElem_mem hi)) ((few_nd hf).2 _ (List.getElem_mem hi))) rfl) rfl rfl rfl ?_
   refine LexO.q rfl (by kernel_rfl) (q_addS rfl rfl rfl (by first | omega | (simp only [ByteArray.size_append]; omega))) rfl rfl rfl ?_
   refine LexO.q rfl (by kernel_rfl) (q_buildSlice _ rfl Fx.el25 rfl (by decide) rfl) rfl rfl rfl ?_
   refine LexO.app1 rfl (by kernel_rfl) (by kernel_rfl) (by kernel_rfl) rfl (hkt) rfl Fx.el25 rfl rfl (by have hle := itK_len (d0 := d0) (b := b) (p := p) (p.keys.take i) 0; rw [List.length_take] at hle; have hkl := few_kl hf; simp only [hzs, List.length_map, List.length_append, List.length_cons, List.length_nil] at *; omega) rfl rfl (fun k119 hk119 => ?_)
   refine LexO.q rfl (by kernel_rfl) (q_asC rfl rfl) rfl rfl rfl ?_
   refine LexO.nil (by kernel_rfl) ?_
   refine AW.reg (Z2 ?_)
   refine sM ?_
   refine Z3 ?_
   exact ⟨i + 1, _, by exact Wk.keep 167 _ _ _ rfl ⟨rfl, rfl, rfl, rfl, rfl, rfl, rfl, rfl, rfl, trivial⟩ ⟨rfl, rfl, trivial⟩ (fun _ _ h => h) rfl, by omega, k119, zs ++ [txT (((tbAt d0 (tabI b.tabs p.src)).cols[p.cols[i].toNat]'hcx).nm ++ ⟨#[32, 61, 32]⟩ ++ fxT p.keys[i])], ⟨hi, hk119, by rw [hzs, itK_take hi, if_neg hop, List.map_append, hit]; rfl⟩, rfl⟩
  refine AW.exit ?_
  refine eth_e ?_
  refine eth_e ?_
  refine exit_here ?_
  refine AW.seq ?_
  have hfin : zs = (itK d0 b p p.keys 0).map txT := by rw [hzs, List.take_of_length_le (by first | omega | (simp only [List.length_map] at *; omega))]
  have hjl := join_leaf hN hf
  have hnl := nm_size hN p.src
  have hkl := few_kl hf
  have hil := itK_len (d0 := d0) (b := b) (p := p) p.keys 0
  refine AW.xw 7 rfl (XW.ts.trans (XW.es hfin)) ?_
  refine AW.reg (sM ?_)
  refine SeqK.q (q_addS rfl rfl rfl (by first | omega | (simp only [ByteArray.size_append]; omega))) rfl rfl rfl ?_
  refine SeqK.q (q_addS rfl rfl rfl (by first | omega | (simp only [ByteArray.size_append]; omega))) rfl rfl rfl ?_
  refine sM ?_
  refine SeqK.q (q_call _ rfl Fx.fn47 rfl (join_any (itK d0 b p p.keys 0) .un (by omega) (by omega)) rfl) rfl rfl rfl ?_
  refine SeqK.q (q_addS rfl rfl rfl (by first | omega | (simp only [ByteArray.size_append]; omega))) rfl rfl rfl ?_
  refine SeqK.q (q_addS rfl rfl rfl (by first | omega | (simp only [ByteArray.size_append]; omega))) rfl rfl rfl ?_
  refine sB ?_
  refine AW.ret ?_
  exact fin_x (x := .c _) (H) (.tmp rfl .nil) rfl ((fun j o h => upd_sub hkt j o h)) (⟨sCe (by rw [plX_2 h93]), rfl⟩)
 have hk3 : p.k = 3 := by have := hlk.1; omega
 rw [if_neg (by omega), if_neg (by omega)] at hlq
 refine AW.skip (AW.seq (sR (Z1 Fx.fl35_3 ?_)))
 refine Z0 Fx.ty28 ?_
 refine Z14 Fx.un28 ?_
 refine sM ?_
 refine Z3 (AW.block ?_)
 refine AW.loop (fun (i : Nat) s => ∃ (kt : Nat) (zs : List (List E.T)), (i ≤ p.keys.length ∧ H kt = none ∧ zs = (itK d0 b p (p.keys.take i) 0).map txT) ∧ s = ⟨167, sp [(0, .c (.a (.bp kx 0))), (3, .lp 3 0), (4, .c (sC ⟨#[]⟩)), (5, .lp 5 0), (6, .c (sC (nmS d0 b p.src))), (7, .c (.a (.ts kt .ne 1 zs))), (129, .c (exsC .un p.keys)), (130, iX .i64 (((p.keys.map exT').length : Nat) : Int)), (131, iX .i64 ((i : Nat) : Int))], lv [(3, .box (zPl p)), (5, .box (zTb (tbAt d0 (tabI b.tabs p.src))))], upd H kt (some (.tip 9 1 zs.length))⟩) (fun i => p.keys.length - i) 0 ⟨_, by exact Wk.keep 167 _ _ _ rfl ⟨rfl, rfl, rfl, rfl, rfl, rfl, rfl, rfl, rfl, trivial⟩ ⟨rfl, rfl, trivial⟩ (fun _ _ h => h) rfl, k0, [], ⟨Nat.zero_le _, hk0, by rw [List.take_zero, itK]; rfl⟩, rfl⟩ (fun i s hs => ?_)
 obtain ⟨kt, zs, ⟨hi0, hkt, hzs⟩, rfl⟩ := hs
 refine sR (Z10 ?_)
 refine Z3 (AW.seq ?_)
 refine AW.condD rfl ?_ ?_ <;> intro h132
 ·
  have hi : i < p.keys.length := by rw [List.length_map] at h132; omega
  have hi2 : i < 2 := by omega
  have h0c : 0 < p.cols.length := by omega
  have hcq := hlk.2.2.1 0 h0c
  have hcx : p.cols[0].toNat < (tbAt d0 (tabI b.tabs p.src)).cols.length := by omega
  have hcs := cnm_size hN p p.cols[0]
  rw [cnm_eq hcx] at hcs
  have hfs := fx_size ((few_nd hf).2 _ (List.getElem_mem hi))
  have hsg := sgK_size p i
  rw [sgK, if_neg (by omega)] at hsg
  have hit : itB d0 b p i p.keys[i] = ((tbAt d0 (tabI b.tabs p.src)).cols[p.cols[0].toNat]'hcx).nm ++ (if i = 0 then ⟨#[32, 62, 61, 32]⟩ else ⟨#[32, 60, 61, 32]⟩) ++ fxT p.keys[i] := by rw [itB, sgK, if_neg (by omega), colK, if_neg (by omega), List.getD_eq_getElem?_getD, List.getElem?_eq_getElem h0c]; show cnmB d0 b p p.cols[0] ++ _ ++ _ = _; rw [cnm_eq hcx]
  refine AW.skip (AW.seq (AW.block (sR (sM ?_))))
  refine Z9 Fx.sl28 (idx_ex hi) ?_
  refine Z11 (.g [_, _, _, _, _, _, _, _]) Fx.ty30 ?_
  refine Z25 (r := [_, _, _, _, _, _, _, _]) Fx.ze30 ?_
  refine sA ?_
  refine Z15 (r := [_, _, _, _, _, _, _, _]) Fx.ty30 ?_
  refine Z3 (sR (Z1 Fx.fl30_0 ?_))
  refine Z0 Fx.ty3 ?_
  refine Z49 ?_
  refine Z3 ?_
  refine AW.condD rfl ?_ ?_ <;> intro h138
  ·
   refine AW.drawO [0, 1, 2, 3, 4, 5, 6, 7, 8, 9, 10, 11, 12, 13, 14, 15, 16, 17, 18, 19, 20] Fx.mo (by kernel_rfl) ?_
   refine LexO.q rfl (by kernel_rfl) (q_mvC rfl rfl) rfl rfl rfl ?_
   refine Z32 Fx.fl64_1 ?_
   refine Z40 Fx.ty36 ?_
   refine Z32 Fx.fl35_2 ?_
   refine Z40 Fx.ty24 ?_
   refine LexO.q rfl (by kernel_rfl) (q_index _ rfl Fx.sl24 rfl rfl (by omega) (idx_map (f := i64T) h0c)) rfl rfl rfl ?_
   refine LexO.q rfl (by kernel_rfl) (q_load (.a _) rfl Fx.ty3 rfl rfl rfl) rfl rfl rfl ?_
   refine LexO.q rfl (by kernel_rfl) (q_index _ rfl Fx.sl36 rfl rfl (by omega) (idx_map (f := coT) hcx)) rfl rfl rfl ?_
   refine LexO.q rfl (by kernel_rfl) (q_fieldP _ rfl Fx.fl82_0 rfl rfl) rfl rfl rfl ?_
   refine LexO.q rfl (by kernel_rfl) (q_load (.a _) rfl Fx.ty9 rfl rfl rfl) rfl rfl rfl ?_
   refine LexO.q rfl (by kernel_rfl) (q_buildSlice _ rfl Fx.el25 rfl (by decide) rfl) rfl rfl rfl ?_
   refine LexO.q rfl (by kernel_rfl) (q_mvC rfl rfl) rfl rfl rfl ?_
   refine LexO.q rfl (by kernel_rfl) (q_index _ rfl Fx.sl25 rfl rfl (by omega) (sg2 hi2 _ _)) rfl rfl rfl ?_
   refine LexO.q rfl (by kernel_rfl) (q_load (.a _) rfl Fx.ty9 rfl rfl rfl) rfl rfl rfl ?_
   refine LexO.q rfl (by kernel_rfl) (q_addS rfl rfl rfl (by first | omega | (simp only [ByteArray.size_append]; omega))) rfl rfl rfl ?_
   refine LexO.r rfl (by kernel_rfl) (b_load (r := .g [_, _, _, _, _, _, _, _]) rfl Fx.ty30 rfl rfl rfl rfl rfl rfl) rfl ?_
   refine LexO.q rfl (by kernel_rfl) (q_call _ rfl Fx.fn45 rfl (text_plan p.keys[i] (kk _ (List.getElem_mem hi)) ((few_nd hf).2 _ (List.getElem_mem hi))) rfl) rfl rfl rfl ?_
   refine LexO.q rfl (by kernel_rfl) (q_addS rfl rfl rfl (by first | omega | (simp only [ByteArray.size_append]; omega))) rfl rfl rfl ?_
   refine LexO.q rfl (by kernel_rfl) (q_buildSlice _ rfl Fx.el25 rfl (by decide) rfl) rfl rfl rfl ?_
   refine LexO.app1 rfl (by kernel_rfl) (by kernel_rfl) (by kernel_rfl) rfl (hkt) rfl Fx.el25 rfl rfl (by have hle := itK_len (d0 := d0) (b := b) (p := p) (p.keys.take i) 0; rw [List.length_take] at hle; have hkl := few_kl hf; simp only [hzs, List.length_map, List.length_append, List.length_cons, List.length_nil] at *; omega) rfl rfl (fun k158 hk158 => ?_)
   refine LexO.q rfl (by kernel_rfl) (q_asC rfl rfl) rfl rfl rfl ?_
   refine LexO.nil (by kernel_rfl) ?_
   refine AW.reg (Z2 ?_)
   refine sM ?_
   refine Z3 ?_
   exact ⟨i + 1, _, by exact Wk.keep 167 _ _ _ rfl ⟨rfl, rfl, rfl, rfl, rfl, rfl, rfl, rfl, rfl, trivial⟩ ⟨rfl, rfl, trivial⟩ (fun _ _ h => h) rfl, by omega, k158, zs ++ [txT (((tbAt d0 (tabI b.tabs p.src)).cols[p.cols[0].toNat]'hcx).nm ++ (if i = 0 then ⟨#[32, 62, 61, 32]⟩ else ⟨#[32, 60, 61, 32]⟩) ++ fxT p.keys[i])], ⟨hi, hk158, by rw [hzs, itK_take hi, if_neg h138, List.map_append, hit]; rfl⟩, rfl⟩
  refine AW.skip (AW.reg (Z2 ?_))
  refine sM ?_
  refine Z3 ?_
  exact ⟨i + 1, _, by exact Wk.keep 167 _ _ _ rfl ⟨rfl, rfl, rfl, rfl, rfl, rfl, rfl, rfl, rfl, trivial⟩ ⟨rfl, rfl, trivial⟩ (fun _ _ h => h) rfl, by omega, kt, zs, ⟨hi, hkt, by rw [hzs, itK_take hi, if_pos (Classical.not_not.1 h138), List.append_nil]⟩, rfl⟩
 refine AW.exit ?_
 refine eth_e ?_
 refine eth_e ?_
 refine exit_here ?_
 refine AW.seq ?_
 have hfin : zs = (itK d0 b p p.keys 0).map txT := by rw [hzs, List.take_of_length_le (by first | omega | (simp only [List.length_map] at *; omega))]
 have hjl := join_leaf hN hf
 have hnl := nm_size hN p.src
 have hkl := few_kl hf
 have hil := itK_len (d0 := d0) (b := b) (p := p) p.keys 0
 refine AW.xw 7 rfl (XW.ts.trans (XW.es hfin)) ?_
 refine AW.reg (sM ?_)
 refine SeqK.q (q_addS rfl rfl rfl (by first | omega | (simp only [ByteArray.size_append]; omega))) rfl rfl rfl ?_
 refine SeqK.q (q_addS rfl rfl rfl (by first | omega | (simp only [ByteArray.size_append]; omega))) rfl rfl rfl ?_
 refine sM ?_
 refine SeqK.q (q_call _ rfl Fx.fn47 rfl (join_any (itK d0 b p p.keys 0) .un (by omega) (by omega)) rfl) rfl rfl rfl ?_
 refine SeqK.q (q_addS rfl rfl rfl (by first | omega | (simp only [ByteArray.size_append]; omega))) rfl rfl rfl ?_
 refine SeqK.q (q_addS rfl rfl rfl (by first | omega | (simp only [ByteArray.size_append]; omega))) rfl rfl rfl ?_
 refine sB ?_
 refine AW.ret ?_
 exact fin_x (x := .c _) (H) (.tmp rfl .nil) rfl ((fun j o h => upd_sub hkt j o h)) (⟨sCe (by rw [plX_3 hk3]), rfl⟩)

end Go.Proofs.YtihlgigaejhilaaGreatDoor.W
namespace Go.Proofs.YtihlgigaejhilaaGreatDoor.W
open Go.RowKit E
/-! the text of a plan, by the reference -/
theorem join_pos (sep : ByteArray) (l : List ByteArray) (hn : l ≠ []) (h : ∀ x ∈ l, 1 ≤ x.size) : 1 ≤ (joinB l sep).size := by
  have e := List.dropLast_concat_getLast hn
  have h1 := h _ (List.getLast_mem hn)
  rw [← e, join_snoc]
  split
  · exact h1
  · rw [ByteArray.size_append, ByteArray.size_append]; omega
theorem sgK_pos (p : Pl) (i : Nat) : 1 ≤ (sgK p i).size := by
  unfold sgK; split
  · decide
  · split <;> decide
theorem it_pos {d0 : List Tb} {b : Bd} {p : Pl} : ∀ (l : List Ex) (i : Nat), ∀ x ∈ itK d0 b p l i, 1 ≤ x.size
  | [], i, x, hx => by rw [itK] at hx; simp at hx
  | k :: r, i, x, hx => by
    rw [itK, List.mem_append] at hx
    rcases hx with hx | hx
    · split at hx
      · simp at hx
      · rw [List.mem_singleton.1 hx, ByteArray.size_append, ByteArray.size_append]
        have h2 := sgK_pos p i
        omega
    · exact it_pos r (i + 1) x hx
theorem ba_nil (u : ByteArray) : (⟨#[]⟩ : ByteArray) ++ u = u := by
  apply ByteArray.ext
  simp [ByteArray.data_append]
theorem out_nil {d0 : List Tb} {b : Bd} {p : Pl} {l : List Ex} (h : joinB (itK d0 b p l 0) cmB = ⟨#[]⟩) : itK d0 b p l 0 = [] := Classical.byContradiction fun hn => by
  have h1 := join_pos cmB _ hn (it_pos l 0)
  rw [h] at h1
  exact absurd h1 (by decide)

set_option maxHeartbeats 8000000 in
set_option maxRecDepth 20000 in
theorem rname44_any (d0 : List Tb) (z : Nz) (b : Bd) (hb : okB d0 b) (hN : okN d0 b) (v : Int) (hs : 0 ≤ v ∧ v < b.tabs.length) : Pure Tryz.prog 26 [scC z d0, bdC b, iC v] (.c (sC (nmS d0 b v))) := by
 have hu : v.toNat < b.tabs.length := by omega
 obtain ⟨p1, p2⟩ := hb.ht v.toNat hu
 have hfu : v.toNat < b.frm.length := by have := hN.len; omega
 have hgd : b.frm.getD v.toNat (⟨#[]⟩, ⟨#[]⟩) = b.frm[v.toNat] := by rw [List.getD_eq_getElem?_getD, List.getElem?_eq_getElem hfu]; rfl
 have hti := tabI_eq (l := b.tabs) (i := v) hu
 have hlen := hN.len
 intro H
 refine Spec.enter Tryz.func26 rfl ?_
 refine AW.wk (Wk.keep 39 [(0, .c (scC z d0)), (1, .c (bdC b)), (2, .c (iC v))] [] (H) rfl ⟨rfl, rfl, rfl, trivial⟩ trivial (fun _ _ h => h) rfl) ?_
 refine sR (Z16 (r := [_, _, _, _, _, _, _, _, _, _, _, _, _, _, _, _, _, _, _, _, _, _, _, _, _, _]) ?_)
 refine sB ?_
 refine AW.seq (sR (sM ?_))
 refine Z1 Fx.fl51_0 ?_
 refine Z1 Fx.fl47_6 ?_
 refine Z0 Fx.ty44 ?_
 refine Z14 Fx.un44 ?_
 refine Z10 ?_
 refine Z19 (fun g13 => ?_) (fun g13 => ?_)
 ·
  refine Z6 Fx.fl51_0 ?_
  refine Z6 Fx.fl47_6 ?_
  refine Z5 Fx.ty44 ?_
  refine Z13 ?_
  refine SeqK.on (q_index _ rfl Fx.sl44 rfl rfl (by omega) (idx_map (f := srT) hfu)) rfl rfl rfl rfl rfl ?_
  refine SeqK.on (q_fieldP _ rfl Fx.fl66_1 rfl rfl) rfl rfl rfl rfl rfl ?_
  refine SeqK.on (q_load (.a _) rfl Fx.ty9 rfl rfl rfl) rfl rfl rfl rfl rfl ?_
  refine SeqK.on (q_neqS rfl rfl rfl) rfl rfl rfl rfl rfl ?_
  refine Z4 ?_
  refine Z3 ?_
  refine AW.condD rfl ?_ ?_ <;> intro h22
  ·
   refine sR (Z1 Fx.fl51_0 ?_)
   refine Z1 Fx.fl47_6 ?_
   refine Z0 Fx.ty44 ?_
   refine sM ?_
   refine Z9 Fx.sl44 (idx_map (f := srT) hfu) ?_
   refine SeqK.q (q_fieldP _ rfl Fx.fl66_1 rfl rfl) rfl rfl rfl ?_
   refine Z11 (.a _) Fx.ty9 ?_
   refine sB ?_
   refine AW.ret ?_
   exact f1 (q := ⟨sCe (by unfold nmS; rw [if_neg (by rw [hgd]; exact h22), hgd]), rfl⟩)
  refine AW.skip (sR (sM ?_))
  refine Z1 Fx.fl51_2 ?_
  refine Z0 Fx.ty24 ?_
  refine sM ?_
  refine Z9 Fx.sl24 (idx_map (f := i64T) hu) ?_
  refine Z11 (.a _) Fx.ty3 ?_
  refine Z9 Fx.sl23 (idx_tab ⟨p1, p2⟩) ?_
  refine SeqK.q (q_fieldP _ rfl Fx.fl64_0 rfl rfl) rfl rfl rfl ?_
  refine Z11 (.a _) Fx.ty9 ?_
  refine sB ?_
  refine AW.ret ?_
  exact f1 (q := ⟨sCe (by unfold nmS; rw [if_pos (by rw [hgd]; exact Classical.not_not.1 h22), hti]), rfl⟩)
 exfalso; simp only [List.length_map] at *; omega

set_option maxHeartbeats 8000000 in
set_option maxRecDepth 20000 in
theorem rtext_of (d0 : List Tb) (z : Nz) (b : Bd) (hb : okB d0 b) (hN : okN d0 b) (p : Pl) (ho : okP p) (d : Nat) (hd : d ≤ 7) (hf : fewB d p = true) (hsh : ∃ l, shB d0 b p l = true) (ih : ∀ a ∈ p.args, Pure Tryz.prog 9 [scC z d0, bdC b, plC a] (.c (sC (plX d0 b a)))) : Pure Tryz.prog 9 [scC z d0, bdC b, plC p] (.c (sC (plX d0 b p))) := by
  obtain ⟨⟨k1, k2, k3, kf, kk⟩, k5⟩ := okP_iff.1 ho
  obtain ⟨l, hl⟩ := hsh
  have hfl := fx_size (few_nd hf).1
  have c0 : (⟨#[70, 73, 76, 84, 69, 82, 32, 40]⟩ : ByteArray).size = 8 := rfl
  have c1 : (⟨#[41, 32, 66, 89, 32]⟩ : ByteArray).size = 5 := rfl
  have c2 : (⟨#[74, 79, 73, 78, 32, 40]⟩ : ByteArray).size = 6 := rfl
  have c3 : (⟨#[41, 32, 40]⟩ : ByteArray).size = 3 := rfl
  have c4 : (⟨#[41]⟩ : ByteArray).size = 1 := rfl
  have c5 : (⟨#[83, 67, 65, 78, 32]⟩ : ByteArray).size = 5 := rfl
  have c6 : (⟨#[76, 79, 79, 75, 85, 80, 32]⟩ : ByteArray).size = 7 := rfl
  have c7 : (⟨#[82, 65, 78, 71, 69, 32]⟩ : ByteArray).size = 6 := rfl
  have c8 : (⟨#[32, 40]⟩ : ByteArray).size = 2 := rfl
  have c9 : (⟨#[32, 61, 32]⟩ : ByteArray).size = 3 := rfl
  have c10 : (⟨#[32, 62, 61, 32]⟩ : ByteArray).size = 4 := rfl
  have c11 : (⟨#[32, 60, 61, 32]⟩ : ByteArray).size = 4 := rfl
  intro H
  refine Spec.enter Tryz.func9 rfl ?_
  refine AW.wk (Wk.keep 141 [(0, .c (scC z d0)), (1, .c (bdC b)), (2, .c (plC p))] [] (H) rfl ⟨rfl, rfl, rfl, trivial⟩ trivial (fun _ _ h => h) rfl) ?_
  refine sR (Z16 (r := [_, _, _, _, _, _, _, _, _, _, _, _, _, _, _, _, _, _, _, _, _, _, _, _, _, _]) ?_)
  refine Z16 (r := [_, _, _, _, _, _, _, _, _, _, _, _, _]) ?_
  refine sB ?_
  refine AW.seq (sR (Z1 Fx.fl35_0 ?_))
  refine Z0 Fx.ty3 ?_
  refine Z3 (AW.block (sR (Z8 ?_)))
  refine sB ?_
  refine AW.condD rfl ?_ ?_ <;> intro h14
  ·
    have hq : p.args.length = 1 := by rcases sh_kind hl with hq | hq | hq; exact hq.2; omega; exact absurd hq.1 (by omega)
    have hz0 : (plX d0 b (p.args[0]'(by omega))).size ≤ 1000000 * 4 ^ 7 := by have h8 := few_dec hf (show p.args[0]'(by omega) ∈ p.args from List.getElem_mem _); exact Nat.le_trans (plX_size hN _ _ h8.2) (Nat.mul_le_mul_left _ (Nat.pow_le_pow_right (by omega) (by omega)))
    refine AW.seq (AW.draw Fx.mo ?_)
    refine Z18 ?_
    refine Z45 (r := .g [_, _, _, _, _, _, _, _, _, _, _, _, _, _, _, _, _, _, _, _, _, _, _, _, _, _]) Fx.ty51 ?_
    refine Z23 Fx.fl35_5 ?_
    refine Z20 Fx.ty33 ?_
    refine LexK.q (q_index _ rfl Fx.sl33 rfl rfl (by omega) (idx_pl (show 0 < p.args.length by omega))) rfl rfl rfl ?_
    refine Z26 (.g [_, _, _, _, _, _, _, _, _, _, _, _, _]) Fx.ty35 ?_
    refine LexK.q (q_call _ rfl Fx.fn9 rfl (ih (p.args[0]'(by omega)) (List.getElem_mem _)) rfl) rfl rfl rfl ?_
    refine LexK.q (q_addS rfl rfl rfl (by first | omega | (simp only [ByteArray.size_append]; omega))) rfl rfl rfl ?_
    refine LexK.q (q_addS rfl rfl rfl (by first | omega | (simp only [ByteArray.size_append]; omega))) rfl rfl rfl ?_
    refine Z23 Fx.fl35_4 ?_
    refine Z45 (r := .g [_, _, _, _, _, _, _, _]) Fx.ty30 ?_
    refine Z52 Fx.fn25 (expr44_any p.flt kf (few_nd hf).1) ?_
    refine LexK.q (q_addS rfl rfl rfl (by first | omega | (simp only [ByteArray.size_append]; omega))) rfl rfl rfl ?_
    refine Z36 ?_
    refine Z30 ?_
    refine AW.ret ?_
    exact f1 (q := ⟨sCe (by rw [plX_4 h14 (show 0 < p.args.length by omega)]), rfl⟩)
  ·
    refine sR (Z8 ?_)
    refine sB ?_
    refine AW.condD rfl ?_ ?_ <;> intro h29
    ·
      have hq : p.args.length = 2 := by rcases sh_kind hl with hq | hq | hq; omega; exact hq.2; exact absurd hq.1 (by omega)
      have hz0 : (plX d0 b (p.args[0]'(by omega))).size ≤ 1000000 * 4 ^ 7 := by have h8 := few_dec hf (show p.args[0]'(by omega) ∈ p.args from List.getElem_mem _); exact Nat.le_trans (plX_size hN _ _ h8.2) (Nat.mul_le_mul_left _ (Nat.pow_le_pow_right (by omega) (by omega)))
      have hz1 : (plX d0 b (p.args[1]'(by omega))).size ≤ 1000000 * 4 ^ 7 := by have h8 := few_dec hf (show p.args[1]'(by omega) ∈ p.args from List.getElem_mem _); exact Nat.le_trans (plX_size hN _ _ h8.2) (Nat.mul_le_mul_left _ (Nat.pow_le_pow_right (by omega) (by omega)))
      refine AW.seq (AW.draw Fx.mo ?_)
      refine Z18 ?_
      refine Z45 (r := .g [_, _, _, _, _, _, _, _, _, _, _, _, _, _, _, _, _, _, _, _, _, _, _, _, _, _]) Fx.ty51 ?_
      refine Z23 Fx.fl35_5 ?_
      refine Z20 Fx.ty33 ?_
      refine LexK.q (q_index _ rfl Fx.sl33 rfl rfl (by omega) (idx_pl (show 0 < p.args.length by omega))) rfl rfl rfl ?_
      refine Z26 (.g [_, _, _, _, _, _, _, _, _, _, _, _, _]) Fx.ty35 ?_
      refine LexK.q (q_call _ rfl Fx.fn9 rfl (ih (p.args[0]'(by omega)) (List.getElem_mem _)) rfl) rfl rfl rfl ?_
      refine LexK.q (q_addS rfl rfl rfl (by first | omega | (simp only [ByteArray.size_append]; omega))) rfl rfl rfl ?_
      refine LexK.q (q_addS rfl rfl rfl (by first | omega | (simp only [ByteArray.size_append]; omega))) rfl rfl rfl ?_
      refine Z18 ?_
      refine Z45 (r := .g [_, _, _, _, _, _, _, _, _, _, _, _, _, _, _, _, _, _, _, _, _, _, _, _, _, _]) Fx.ty51 ?_
      refine Z23 Fx.fl35_5 ?_
      refine Z20 Fx.ty33 ?_
      refine LexK.q (q_index _ rfl Fx.sl33 rfl rfl (by omega) (idx_pl (show 1 < p.args.length by omega))) rfl rfl rfl ?_
      refine Z26 (.g [_, _, _, _, _, _, _, _, _, _, _, _, _]) Fx.ty35 ?_
      refine LexK.q (q_call _ rfl Fx.fn9 rfl (ih (p.args[1]'(by omega)) (List.getElem_mem _)) rfl) rfl rfl rfl ?_
      refine LexK.q (q_addS rfl rfl rfl (by first | omega | (simp only [ByteArray.size_append]; omega))) rfl rfl rfl ?_
      refine LexK.q (q_addS rfl rfl rfl (by first | omega | (simp only [ByteArray.size_append]; omega))) rfl rfl rfl ?_
      refine Z36 ?_
      refine Z30 ?_
      refine AW.ret ?_
      exact f1 (q := ⟨sCe (by rw [plX_5 h29 (show 1 < p.args.length by omega)]), rfl⟩)
    ·
      have hlk : lfK p ∧ lfP d0 b l p := by rcases sh_kind hl with hq | hq | hq; omega; omega; exact hq
      have hs : 0 ≤ p.src ∧ p.src < b.tabs.length := hlk.2.1.1
      have hu : p.src.toNat < b.tabs.length := by omega
      obtain ⟨p1, p2⟩ := hb.ht p.src.toNat hu
      have hti := tabI_eq (l := b.tabs) (i := p.src) hu
      have hlq := hlk.2.2.2.2
      unfold lf4 at hlq
      have hnc : ncol d0 (tabI b.tabs p.src) = (tbAt d0 (tabI b.tabs p.src)).cols.length := rfl
      have hnl := nm_size hN p.src
      refine AW.skip (sR (sM ?_))
      refine Z1 Fx.fl51_2 ?_
      refine Z0 Fx.ty24 ?_
      refine Z1 Fx.fl35_1 ?_
      refine Z0 Fx.ty3 ?_
      refine Z9 Fx.sl24 (idx_map (f := i64T) hu) ?_
      refine Z11 (.a _) Fx.ty3 ?_
      refine Z9 Fx.sl23 (idx_tab ⟨p1, p2⟩) ?_
      refine Z11 (.g [_, _, _, _, _]) Fx.ty64 ?_
      refine Z25 (r := [_, _, _, _, _]) Fx.ze64 ?_
      refine Z15 (r := [_, _, _, _, _]) Fx.ty64 ?_
      refine Z3 ?_
      rw [← hti]
      refine sR (sB ?_)
      refine AW.seq (sR (sB ?_))
      refine AW.block ?_
      refine AW.loop (fun (i : Nat) s => ∃ (tt : ByteArray), (i ≤ p.keys.length ∧ tt = joinB (itK d0 b p (p.keys.take i) 0) cmB) ∧ s = ⟨141, sp [(0, .c (scC z d0)), (4, .lp 4 0), (5, .lp 5 0), (6, .c (sC ⟨#[]⟩)), (7, .lp 7 0), (8, .c (sC tt)), (9, iX .i64 ((i : Nat) : Int))], lv [(4, .box (zBd b)), (5, .box (zPl p)), (7, .box (zTb (tbAt d0 (tabI b.tabs p.src))))], H⟩) (fun i => p.keys.length - i) 0 ⟨_, by exact Wk.keep 141 _ _ _ rfl ⟨rfl, rfl, rfl, rfl, rfl, rfl, rfl, trivial⟩ ⟨rfl, rfl, rfl, trivial⟩ (fun _ _ h => h) rfl, ⟨#[]⟩, ⟨Nat.zero_le _, by rw [List.take_zero, itK]; rfl⟩, rfl⟩ (fun i s hs => ?_)
      obtain ⟨tt, ⟨hi0, htt⟩, rfl⟩ := hs
      refine AW.seq (sR (sM ?_))
      refine Z1 Fx.fl35_3 ?_
      refine Z0 Fx.ty28 ?_
      refine Z14 Fx.un28 ?_
      refine Z10 ?_
      refine Z3 ?_
      refine AW.condD rfl ?_ ?_ <;> intro h62
      ·
        have hi : i < p.keys.length := by rw [List.length_map] at h62; omega
        have hjs : tt.size ≤ 300000 := by rw [htt]; have h1 := join_size cmB 28066 (itK d0 b p (p.keys.take i) 0) (it_size hN p _ 0 (fun k hk => (few_nd hf).2 k (List.mem_of_mem_take hk))); have h2 := itK_len (d0 := d0) (b := b) (p := p) (p.keys.take i) 0; rw [List.length_take] at h2; have h3 := few_kl hf; have h4 : cmB.size = 2 := rfl; rw [h4] at h1; have h5 : (itK d0 b p (p.keys.take i) 0).length * (28066 + 2) ≤ 10 * (28066 + 2) := Nat.mul_le_mul_right _ (by omega); omega
        have hk23 : p.k = 2 ∨ p.k = 3 := by rcases hlk.1 with h1 | h1; rw [if_pos h1] at hlq; omega; exact h1
        rw [if_neg (by omega)] at hlq
        have hk2 : p.k = 2 → i < p.cols.length := fun h2 => by rw [if_pos h2] at hlq; omega
        have h0c : 0 < p.cols.length := by split at hlq <;> omega
        have hi3 : p.k ≠ 2 → i < 2 := fun h2 => by rw [if_neg h2] at hlq; omega
        have hck : 0 ≤ colK p i ∧ (colK p i).toNat < (tbAt d0 (tabI b.tabs p.src)).cols.length := by
          by_cases h2 : p.k = 2
          · have h9 := hlk.2.2.1 i (hk2 h2)
            rw [colK, if_pos h2, List.getD_eq_getElem?_getD, List.getElem?_eq_getElem (hk2 h2)]
            show 0 ≤ p.cols[i] ∧ p.cols[i].toNat < _
            omega
          · have h9 := hlk.2.2.1 0 h0c
            rw [colK, if_neg h2, List.getD_eq_getElem?_getD, List.getElem?_eq_getElem h0c]
            show 0 ≤ p.cols[0] ∧ p.cols[0].toNat < _
            omega
        have hcs := cnm_size hN p (colK p i)
        rw [cnm_eq hck.2] at hcs
        have hfs := fx_size ((few_nd hf).2 _ (List.getElem_mem hi))
        have hss := sgK_size p i
        have c20 : cmB.size = 2 := rfl
        have c21 : (⟨#[44, 32]⟩ : ByteArray).size = 2 := rfl
        have hit : itB d0 b p i p.keys[i] = ((tbAt d0 (tabI b.tabs p.src)).cols[(colK p i).toNat]'hck.2).nm ++ sgK p i ++ fxT p.keys[i] := by rw [itB, cnm_eq hck.2]
        refine AW.skip (AW.seq (AW.block (sR (sA ?_))))
        refine sB ?_
        refine AW.seqM (fun s => s = ⟨141, sp [(0, .c (scC z d0)), (4, .lp 4 0), (5, .lp 5 0), (6, .c (sC ⟨#[]⟩)), (7, .lp 7 0), (8, .c (sC tt)), (9, iX .i64 ((i : Nat) : Int)), (10, .c (iC (colK p i))), (11, .c (sC (sgK p i)))], lv [(4, .box (zBd b)), (5, .box (zPl p)), (7, .box (zTb (tbAt d0 (tabI b.tabs p.src))))], H⟩) ?_ ?_
        ·
          refine sR (Z1 Fx.fl35_0 ?_)
          refine Z0 Fx.ty3 ?_
          refine Z8 ?_
          refine Z3 ?_
          refine AW.condD rfl ?_ ?_ <;> intro h67
          ·
            refine AW.reg (Z1 Fx.fl35_2 ?_)
            refine Z0 Fx.ty24 ?_
            refine sM ?_
            refine Z9 Fx.sl24 (idx_map (f := i64T) (hk2 h67)) ?_
            refine Z11 (.a _) Fx.ty3 ?_
            refine sB ?_
            exact ⟨_, by exact Wk.keep 141 _ _ _ rfl ⟨rfl, rfl, rfl, rfl, rfl, rfl, rfl, iCe2 (by first | (rw [colK, if_pos h67, List.getD_eq_getElem?_getD, List.getElem?_eq_getElem (hk2 h67)]; rfl) | (rw [colK, if_neg h67, List.getD_eq_getElem?_getD, List.getElem?_eq_getElem h0c]; rfl)), sCe (by first | (rw [sgK, if_pos h67]; done) | (rw [sgK, if_neg h67]; done)), trivial⟩ ⟨rfl, rfl, rfl, trivial⟩ (fun _ _ h => h) rfl, rfl⟩
          ·
            refine AW.draw Fx.mo ?_
            refine Z23 Fx.fl35_2 ?_
            refine Z20 Fx.ty24 ?_
            refine Z27 Fx.sl24 (idx_map (f := i64T) h0c) ?_
            refine Z26 (.a _) Fx.ty3 ?_
            refine LexK.q (q_buildSlice _ rfl Fx.el25 rfl (by decide) rfl) rfl rfl rfl ?_
            refine Z18 ?_
            refine Z27 Fx.sl25 (sg2 (hi3 h67) _ _) ?_
            refine Z26 (.a _) Fx.ty9 ?_
            refine Z36 ?_
            refine Z36 ?_
            refine Z30 ?_
            exact ⟨_, by exact Wk.keep 141 _ _ _ rfl ⟨rfl, rfl, rfl, rfl, rfl, rfl, rfl, iCe2 (by first | (rw [colK, if_pos h67, List.getD_eq_getElem?_getD, List.getElem?_eq_getElem (hk2 h67)]; rfl) | (rw [colK, if_neg h67, List.getD_eq_getElem?_getD, List.getElem?_eq_getElem h0c]; rfl)), sCe (by first | (rw [sgK, if_pos h67]; done) | (rw [sgK, if_neg h67]; done)), trivial⟩ ⟨rfl, rfl, rfl, trivial⟩ (fun _ _ h => h) rfl, rfl⟩
        ·
          rintro s rfl
          refine AW.seq (sR (Z1 Fx.fl35_3 ?_))
          refine Z0 Fx.ty28 ?_
          refine sM ?_
          refine Z9 Fx.sl28 (idx_ex hi) ?_
          refine SeqK.q (q_fieldP _ rfl Fx.fl30_0 rfl rfl) rfl rfl rfl ?_
          refine Z11 (.a _) Fx.ty3 ?_
          refine Z8 ?_
          refine Z3 ?_
          refine AW.condD rfl ?_ ?_ <;> intro h87
          ·
            refine AW.exit ?_
            refine eth_e ?_
            refine exit_here ?_
            refine AW.reg (sM ?_)
            refine Z2 ?_
            refine sB ?_
            exact ⟨i + 1, _, by exact Wk.keep 141 _ _ _ rfl ⟨rfl, rfl, rfl, rfl, rfl, rfl, rfl, trivial⟩ ⟨rfl, rfl, rfl, trivial⟩ (fun _ _ h => h) rfl, by omega, tt, ⟨hi, by rw [htt, itK_take hi, if_pos h87, List.append_nil]⟩, rfl⟩
          ·
            refine AW.skip (AW.seq (sR (sM ?_)))
            refine SeqK.q (q_neqS rfl rfl rfl) rfl rfl rfl ?_
            refine Z3 ?_
            refine AW.condD rfl ?_ ?_ <;> intro h89
            ·
              refine AW.reg (sM ?_)
              refine SeqK.q (q_addS rfl rfl rfl (by first | omega | (simp only [ByteArray.size_append]; omega))) rfl rfl rfl ?_
              refine sB ?_
              refine AW.draw Fx.mo ?_
              refine Z18 ?_
              refine Z23 Fx.fl64_1 ?_
              refine Z20 Fx.ty36 ?_
              refine Z18 ?_
              refine Z27 Fx.sl36 (idx_map (f := coT) hck.2) ?_
              refine LexK.q (q_fieldP _ rfl Fx.fl82_0 rfl rfl) rfl rfl rfl ?_
              refine Z26 (.a _) Fx.ty9 ?_
              refine LexK.q (q_addS rfl rfl rfl (by first | omega | (simp only [ByteArray.size_append]; omega))) rfl rfl rfl ?_
              refine Z18 ?_
              refine LexK.q (q_addS rfl rfl rfl (by first | omega | (simp only [ByteArray.size_append]; omega))) rfl rfl rfl ?_
              refine Z23 Fx.fl35_3 ?_
              refine Z20 Fx.ty28 ?_
              refine Z18 ?_
              refine Z27 Fx.sl28 (idx_ex hi) ?_
              refine Z26 (.g [_, _, _, _, _, _, _, _]) Fx.ty30 ?_
              refine Z52 Fx.fn25 (expr44_any p.keys[i] (kk _ (List.getElem_mem hi)) ((few_nd hf).2 _ (List.getElem_mem hi))) ?_
              refine LexK.q (q_addS rfl rfl rfl (by first | omega | (simp only [ByteArray.size_append]; omega))) rfl rfl rfl ?_
              refine Z36 ?_
              refine Z30 ?_
              refine AW.reg (sM ?_)
              refine Z2 ?_
              refine sB ?_
              exact ⟨i + 1, _, by exact Wk.keep 141 _ _ _ rfl ⟨rfl, rfl, rfl, rfl, rfl, rfl, rfl, trivial⟩ ⟨rfl, rfl, rfl, trivial⟩ (fun _ _ h => h) rfl, by omega, (tt ++ cmB ++ ((tbAt d0 (tabI b.tabs p.src)).cols[(colK p i).toNat]'hck.2).nm ++ sgK p i ++ fxT p.keys[i]), ⟨hi, by rw [itK_take hi, if_neg h87, join_snoc, if_neg (fun e => h89 (by rw [htt, e]; rfl)), ← htt, hit]; simp only [ByteArray.append_assoc]⟩, rfl⟩
            ·
              refine AW.skip (AW.draw Fx.mo ?_)
              refine Z18 ?_
              refine Z23 Fx.fl64_1 ?_
              refine Z20 Fx.ty36 ?_
              refine Z18 ?_
              refine Z27 Fx.sl36 (idx_map (f := coT) hck.2) ?_
              refine LexK.q (q_fieldP _ rfl Fx.fl82_0 rfl rfl) rfl rfl rfl ?_
              refine Z26 (.a _) Fx.ty9 ?_
              refine LexK.q (q_addS rfl rfl rfl (by first | omega | (simp only [ByteArray.size_append]; omega))) rfl rfl rfl ?_
              refine Z18 ?_
              refine LexK.q (q_addS rfl rfl rfl (by first | omega | (simp only [ByteArray.size_append]; omega))) rfl rfl rfl ?_
              refine Z23 Fx.fl35_3 ?_
              refine Z20 Fx.ty28 ?_
              refine Z18 ?_
              refine Z27 Fx.sl28 (idx_ex hi) ?_
              refine Z26 (.g [_, _, _, _, _, _, _, _]) Fx.ty30 ?_
              refine Z52 Fx.fn25 (expr44_any p.keys[i] (kk _ (List.getElem_mem hi)) ((few_nd hf).2 _ (List.getElem_mem hi))) ?_
              refine LexK.q (q_addS rfl rfl rfl (by first | omega | (simp only [ByteArray.size_append]; omega))) rfl rfl rfl ?_
              refine Z36 ?_
              refine Z30 ?_
              refine AW.reg (sM ?_)
              refine Z2 ?_
              refine sB ?_
              exact ⟨i + 1, _, by exact Wk.keep 141 _ _ _ rfl ⟨rfl, rfl, rfl, rfl, rfl, rfl, rfl, trivial⟩ ⟨rfl, rfl, rfl, trivial⟩ (fun _ _ h => h) rfl, by omega, (tt ++ ((tbAt d0 (tabI b.tabs p.src)).cols[(colK p i).toNat]'hck.2).nm ++ sgK p i ++ fxT p.keys[i]), ⟨hi, by have h9 := Classical.not_not.1 h89; have h8 := out_nil (htt ▸ h9); rw [itK_take hi, if_neg h87, h8, List.nil_append, show joinB [itB d0 b p i p.keys[i]] cmB = itB d0 b p i p.keys[i] from join_snoc [] _ _, hit, h9, ba_nil]⟩, rfl⟩
      ·
        refine AW.exit ?_
        refine eth_e ?_
        refine eth_e ?_
        refine exit_here ?_
        refine AW.seq (AW.seq ?_)
        have hfin : tt = joinB (itK d0 b p p.keys 0) cmB := by rw [htt, List.take_of_length_le (by rw [List.length_map] at h62; omega)]
        have hjl := join_leaf hN hf
        rw [← hfin] at hjl
        refine AW.reg (Z1 Fx.fl35_0 ?_)
        refine Z0 Fx.ty3 ?_
        refine Z3 (AW.block (sR (Z8 ?_)))
        refine sB ?_
        refine AW.condD rfl ?_ ?_ <;> intro h111
        ·
          refine sR (sM ?_)
          refine Z12 (r := .g [_, _, _, _, _, _, _, _, _, _, _, _, _, _, _, _, _, _, _, _, _, _, _, _, _, _]) Fx.ty51 ?_
          refine Z1 Fx.fl35_1 ?_
          refine Z0 Fx.ty3 ?_
          refine Z22 Fx.fn26 (rname44_any d0 z b hb hN p.src hs) ?_
          refine SeqK.q (q_addS rfl rfl rfl (by first | omega | (simp only [ByteArray.size_append]; omega))) rfl rfl rfl ?_
          refine SeqK.q (q_addS rfl rfl rfl (by first | omega | (simp only [ByteArray.size_append]; omega))) rfl rfl rfl ?_
          refine sM ?_
          refine SeqK.q (q_addS rfl rfl rfl (by first | omega | (simp only [ByteArray.size_append]; omega))) rfl rfl rfl ?_
          refine SeqK.q (q_addS rfl rfl rfl (by first | omega | (simp only [ByteArray.size_append]; omega))) rfl rfl rfl ?_
          refine sB ?_
          refine AW.ret ?_
          exact f1 (q := ⟨sCe (by rw [plX_2 h111, hfin]), rfl⟩)
        ·
          refine sR (Z8 ?_)
          refine sB ?_
          refine AW.condD rfl ?_ ?_ <;> intro h123
          ·
            refine sR (sM ?_)
            refine Z12 (r := .g [_, _, _, _, _, _, _, _, _, _, _, _, _, _, _, _, _, _, _, _, _, _, _, _, _, _]) Fx.ty51 ?_
            refine Z1 Fx.fl35_1 ?_
            refine Z0 Fx.ty3 ?_
            refine Z22 Fx.fn26 (rname44_any d0 z b hb hN p.src hs) ?_
            refine SeqK.q (q_addS rfl rfl rfl (by first | omega | (simp only [ByteArray.size_append]; omega))) rfl rfl rfl ?_
            refine SeqK.q (q_addS rfl rfl rfl (by first | omega | (simp only [ByteArray.size_append]; omega))) rfl rfl rfl ?_
            refine sM ?_
            refine SeqK.q (q_addS rfl rfl rfl (by first | omega | (simp only [ByteArray.size_append]; omega))) rfl rfl rfl ?_
            refine SeqK.q (q_addS rfl rfl rfl (by first | omega | (simp only [ByteArray.size_append]; omega))) rfl rfl rfl ?_
            refine sB ?_
            refine AW.ret ?_
            exact f1 (q := ⟨sCe (by rw [plX_3 h123, hfin]), rfl⟩)
          ·
            refine AW.skip (sR (sM ?_))
            refine Z12 (r := .g [_, _, _, _, _, _, _, _, _, _, _, _, _, _, _, _, _, _, _, _, _, _, _, _, _, _]) Fx.ty51 ?_
            refine Z1 Fx.fl35_1 ?_
            refine Z0 Fx.ty3 ?_
            refine Z22 Fx.fn26 (rname44_any d0 z b hb hN p.src hs) ?_
            refine SeqK.q (q_addS rfl rfl rfl (by first | omega | (simp only [ByteArray.size_append]; omega))) rfl rfl rfl ?_
            refine sB ?_
            refine AW.ret ?_
            exact f1 (q := ⟨sCe (by rw [plX_1 (by have := hlk.1; omega)]), rfl⟩)

end Go.Proofs.YtihlgigaejhilaaGreatDoor.W
namespace Go.Proofs.YtihlgigaejhilaaGreatDoor.W
open Go.RowKit E
/-! the law of Format, walked -/
theorem format_any (kx : Nat) (d0 : List Tb) (b : Bd) (hb : okB d0 b) (hN : okN d0 b) (p : Pl) : okP p → (∃ d, d ≤ 7 ∧ fewB d p = true) → (∃ l, shB d0 b p l = true) → FX d0 b kx p := by
  induction p using Pl.rec' with
  | h p ih =>
    rintro ho ⟨d, hd, hf⟩ hsh H hx
    exact format_of H kx d0 b hx hb hN p ho d hd hf hsh fun a ha => ih a ha ((okP_iff.1 ho).2 a ha) ⟨d - 1, by omega, (few_dec hf ha).2⟩ (hsh.elim fun l h => sh_arg h ha)
theorem rplan_txt (d0 : List Tb) (z : Nz) (b : Bd) (hb : okB d0 b) (hN : okN d0 b) (p : Pl) : okP p → (∃ d, d ≤ 7 ∧ fewB d p = true) → (∃ l, shB d0 b p l = true) → Pure Tryz.prog 9 [scC z d0, bdC b, plC p] (.c (sC (plX d0 b p))) := by
  induction p using Pl.rec' with
  | h p ih =>
    rintro ho ⟨d, hd, hf⟩ hsh
    exact rtext_of d0 z b hb hN p ho d hd hf hsh fun a ha => ih a ha ((okP_iff.1 ho).2 a ha) ⟨d - 1, by omega, (few_dec hf ha).2⟩ (hsh.elim fun l h => sh_arg h ha)
theorem ss_nm {t : Tb} (h : ssD t) : t.nm.size ≤ 60 ∧ ∀ x ∈ t.cols, x.nm.size ≤ 60 := by
  have h1 := h.1.2.2.1 0 (by simp)
  refine ⟨h1.1.1, fun x hx => ?_⟩
  obtain ⟨j, hj, rfl⟩ := List.mem_iff_getElem.1 hx
  exact h1.2.1 j hj
theorem bnd_okB {c : Cs} (ho : okC c) (h : bndP c) : okB c.sch (bdM c) := by
  obtain ⟨⟨⟨h1, _⟩, h2, _⟩, h3, _⟩ := h
  refine ⟨fun t ht => (ho.tab t ht).cols, fun j hj => (h3 j hj).1, ?_⟩
  show c.frm.length ≤ 1000
  omega
theorem bnd_okN {c : Cs} (h : bndP c) : okN c.sch (bdM c) := by
  obtain ⟨⟨⟨h1, _⟩, h2, _⟩, h3, _⟩ := h
  have hs : ∀ t ∈ c.sch, ssD t := fun t ht => by obtain ⟨j, hj, rfl⟩ := List.mem_iff_getElem.1 ht; exact h1.1 j hj
  refine ⟨fun t ht => (ss_nm (hs t ht)).1, fun t ht x hx => (ss_nm (hs t ht)).2 x hx, fun f hf => ?_, ?_⟩
  · obtain ⟨j, hj, rfl⟩ := List.mem_iff_getElem.1 hf
    have hj : j < (List.zipWith (fun t a => ((tbAt c.sch t).nm, a)) c.frm c.al).length := hj
    rw [List.length_zipWith] at hj
    have h4 := (h3 j (by omega)).2
    rw [List.getD_eq_getElem?_getD, List.getElem?_eq_getElem (by omega)] at h4
    show ((List.zipWith (fun t a => ((tbAt c.sch t).nm, a)) c.frm c.al)[j]'(by rw [List.length_zipWith]; omega)).2.size ≤ 60
    rw [List.getElem_zipWith]
    exact Nat.le_trans h4 (by omega)
  · show (List.zipWith (fun t a => ((tbAt c.sch t).nm, a)) c.frm c.al).length = c.frm.length
    rw [List.length_zipWith, h2.2]; omega
theorem few_F {p : Pl} (h : fewL p = true) : okF p ∧ filB p = true := by
  rw [fewL, Bool.and_eq_true] at h; exact ⟨⟨7, by omega, h.1⟩, h.2⟩

set_option maxHeartbeats 16000000 in
set_option maxRecDepth 20000 in
theorem pformat_any (H : Heap) (d0 : List Tb) (b : Bd) (hb : okB d0 b) (hN : okN d0 b) (p : Pl) (ho : okP p) (hf : ∃ d, d ≤ 7 ∧ fewB d p = true) (hsh : ∃ l, shB d0 b p l = true) : E.Spec Tryz.prog 8 [scC .un d0, bdC b, plC p] H fun x H' => x = .c (sC (plX d0 b p)) ∧ H' = H := by
 refine Spec.enter Tryz.func8 rfl ?_
 refine AW.wk (Wk.keep 13 [(0, .c (scC .un d0)), (1, .c (bdC b)), (2, .c (plC p))] [] (H) rfl ⟨rfl, rfl, rfl, trivial⟩ trivial (fun _ _ h => h) rfl) ?_
 refine sR (Z16 (r := [_, _, _, _, _, _, _, _, _, _, _, _, _, _, _, _, _, _, _, _, _, _, _, _, _, _]) ?_)
 refine Z16 (r := [_, _, _, _, _, _, _, _, _, _, _, _, _]) ?_
 refine sB ?_
 refine sR (sM ?_)
 refine Z12 (r := .g [_, _, _, _, _, _, _, _, _, _, _, _, _, _, _, _, _, _, _, _, _, _, _, _, _, _]) Fx.ty51 ?_
 refine Z34 (zs := [_, _, _, _, _, _, _, _, _, _, _, _, _, _, _, _, _, _, _, _, _, _, _, _, _, _, _]) (r := [_, _, _, _, _, _, _, _, _, _, _, _, _, _, _, _, _, _, _, _, _, _, _, _, _, _, _]) [(0, 1), (1, 26)] Fx.ze78 Fx.bp78 ?_
 refine SeqK.newBox (r := [_, _, _, _, _, _, _, _, _, _, _, _, _, _, _, _, _, _, _, _, _, _, _, _, _, _, _]) rfl rfl rfl rfl rfl rfl (fun k10 hk10 => ?_)
 refine Z12 (r := .g [_, _, _, _, _, _, _, _, _, _, _, _, _]) Fx.ty35 ?_
 refine Z53 Fx.fn24 (format_any k10 d0 b hb hN p ho hf hsh _ (upd_same _ _ _)) ?_
 refine sB ?_
 refine AW.ret ?_
 exact fin_x (x := .c _) (H) (.tmp rfl .nil) rfl ((fun j o h => upd_sub hk10 j o h)) (⟨rfl, rfl⟩)

set_option maxHeartbeats 16000000 in
set_option maxRecDepth 20000 in
theorem planFormat_walk (c : Cs) (ho : okC c) (p : Pl) (hp : okP p) : Pure Tryz.prog 3 [csC c, plC p] (.c (bC true)) := by
 intro H
 refine Spec.enter Tryz.func3 rfl ?_
 refine AW.wk (Wk.keep 43 [(0, .c (csC c)), (1, .c (plC p))] [] (H) rfl ⟨rfl, rfl, trivial⟩ trivial (fun _ _ h => h) rfl) ?_
 refine sR (Z16 (r := [_, _, _, _, _, _, _, _, _, _, _]) ?_)
 refine Z16 (r := [_, _, _, _, _, _, _, _, _, _, _, _, _]) ?_
 refine sB ?_
 refine sR (Z12 (r := .g [_, _, _, _, _, _, _, _, _, _, _]) Fx.ty32 ?_)
 refine SeqK.callE rfl rfl rfl rfl Fx.fn4 rfl (bound_any H c ho) (fun _ _ ⟨⟨_, h, _⟩, _⟩ => by rw [h]; rfl) (fun x9 H9 q9 => ?_)
 obtain ⟨⟨b, rfl, hok⟩, hHs⟩ := q9
 replace hHs := hHs.symm
 subst hHs
 refine SeqK.q (q_mvT rfl rfl) rfl rfl rfl ?_
 refine Z47 ?_
 refine Z47 ?_
 refine Z25 (r := [_, _, _, _, _, _, _, _, _, _, _, _, _, _, _, _, _, _, _, _, _, _, _, _, _, _]) Fx.ze51 ?_
 refine Z15 (r := [_, _, _, _, _, _, _, _, _, _, _, _, _, _, _, _, _, _, _, _, _, _, _, _, _, _]) Fx.ty51 ?_
 refine sB ?_
 refine AW.seq (sR (Z53 Fx.fn5 (awake_any H) ?_))
 refine Z33 ?_
 refine SeqK.qB (q_mvC rfl rfl) rfl rfl rfl (fun g14 => ?_) (fun g14 => ?_)
 ·
  iterate 2 refine SeqK.off rfl rfl rfl rfl rfl rfl ?_
  refine Z4 ?_
  refine sM ?_
  iterate 3 refine SeqK.off rfl rfl rfl rfl rfl rfl ?_
  refine Z4 ?_
  refine sM ?_
  iterate 6 refine SeqK.off rfl rfl rfl rfl rfl rfl ?_
  refine Z4 ?_
  refine Z3 (AW.condT rfl ?_)
  refine sR (Z53 Fx.fn5 (awake_any H) ?_)
  refine sB ?_
  refine AW.ret ?_
  exact f1 (q := ⟨by first | rfl | exact bCe (by simp), rfl⟩)
 refine Z13 ?_
 refine SeqK.on (q_not rfl rfl) rfl rfl rfl rfl rfl ?_
 refine Z7 ?_
 refine SeqK.qB (q_mvC rfl rfl) rfl rfl rfl (fun g18 => ?_) (fun g18 => ?_)
 ·
  iterate 3 refine SeqK.off rfl rfl rfl rfl rfl rfl ?_
  refine Z4 ?_
  refine sM ?_
  iterate 6 refine SeqK.off rfl rfl rfl rfl rfl rfl ?_
  refine Z4 ?_
  refine Z3 (AW.condT rfl ?_)
  refine sR (Z53 Fx.fn5 (awake_any H) ?_)
  refine sB ?_
  refine AW.ret ?_
  exact f1 (q := ⟨by first | rfl | exact bCe (by simp), rfl⟩)
 have hbp : bndP c := nd_f g18
 obtain rfl := hok hbp
 have hbk := bnd_okB ho hbp
 have hbn := bnd_okN hbp
 refine Z37 (r := .g [_, _, _, _, _, _, _, _, _, _, _, _, _]) Fx.ty35 ?_
 refine SeqK.on (q_call _ rfl Fx.fn6 rfl (few44_any p hp) rfl) rfl rfl rfl rfl rfl ?_
 refine SeqK.on (q_not rfl rfl) rfl rfl rfl rfl rfl ?_
 refine Z7 ?_
 refine SeqK.qB (q_mvC rfl rfl) rfl rfl rfl (fun g23 => ?_) (fun g23 => ?_)
 ·
  iterate 6 refine SeqK.off rfl rfl rfl rfl rfl rfl ?_
  refine Z4 ?_
  refine Z3 (AW.condT rfl ?_)
  refine sR (Z53 Fx.fn5 (awake_any H) ?_)
  refine sB ?_
  refine AW.ret ?_
  exact f1 (q := ⟨by first | rfl | exact bCe (by simp), rfl⟩)
 obtain ⟨hF, hfl⟩ := few_F (by simpa using g23)
 refine Z6 Fx.fl32_0 ?_
 refine Z5 Fx.ty23 ?_
 refine Z37 (r := .g [_, _, _, _, _, _, _, _, _, _, _, _, _, _, _, _, _, _, _, _, _, _, _, _, _, _]) Fx.ty51 ?_
 refine Z37 (r := .g [_, _, _, _, _, _, _, _, _, _, _, _, _]) Fx.ty35 ?_
 refine SeqK.on (q_call _ rfl Fx.fn7 rfl (rshape_any c.sch .un (bdM c) hbk p hp hF.src) rfl) rfl rfl rfl rfl rfl ?_
 refine SeqK.on (q_not rfl rfl) rfl rfl rfl rfl rfl ?_
 refine Z7 ?_
 refine Z3 ?_
 refine AW.cond _ rfl (fun h30 => ?_) (fun h30 => ?_)
 ·
  refine sR (Z53 Fx.fn5 (awake_any H) ?_)
  refine sB ?_
  refine AW.ret ?_
  exact f1 (q := ⟨by first | rfl | exact bCe (by simp), rfl⟩)
 refine AW.skip (AW.seq ?_)
 have hsh : shpP c.sch (bdM c) p := nd_f h30
 refine AW.draw Fx.mo ?_
 refine Z23 Fx.fl32_0 ?_
 refine Z20 Fx.ty23 ?_
 refine Z45 (r := .g [_, _, _, _, _, _, _, _, _, _, _, _, _, _, _, _, _, _, _, _, _, _, _, _, _, _]) Fx.ty51 ?_
 refine Z45 (r := .g [_, _, _, _, _, _, _, _, _, _, _, _, _]) Fx.ty35 ?_
 refine LexK.r (g_call rfl Fx.fn8 rfl (pformat_any H c.sch (bdM c) hbk hbn p hp hF ⟨[], hsh.1⟩) rfl rfl rfl) rfl ?_
 refine Z23 Fx.fl32_0 ?_
 refine Z20 Fx.ty23 ?_
 refine Z45 (r := .g [_, _, _, _, _, _, _, _, _, _, _, _, _, _, _, _, _, _, _, _, _, _, _, _, _, _]) Fx.ty51 ?_
 refine Z45 (r := .g [_, _, _, _, _, _, _, _, _, _, _, _, _]) Fx.ty35 ?_
 refine Z52 Fx.fn9 (rplan_txt c.sch .un (bdM c) hbk hbn p hp hF ⟨[], hsh.1⟩) ?_
 refine LexK.q (q_eqlS rfl rfl rfl) rfl rfl rfl ?_
 refine Z36 ?_
 refine Z30 ?_
 refine AW.ret ?_
 exact f1 (q := ⟨by first | rfl | exact bCe (by simp), rfl⟩)

end Go.Proofs.YtihlgigaejhilaaGreatDoor.W
/- The readers of the laws' arguments: data to trees. -/
namespace Go.Proofs.YtihlgigaejhilaaGreatDoor.W
open Go.RowKit E
theorem rd30 (N : Nat) : Reads Tryz.prog N 30 8 exT' okE := by
  induction N using Nat.strongRecOn with
  | ind N ih =>
    exact (Reads.struct Tryz.underlying30 (ReadsF.cons rfl (by kernel_rfl) (fun _ _ => Reads.int Tryz.underlying3) (ReadsF.cons rfl (by kernel_rfl) (fun _ _ => Reads.string Tryz.underlying9) (ReadsF.cons rfl (by kernel_rfl) (fun _ _ => Reads.string Tryz.underlying9) (ReadsF.cons rfl (by kernel_rfl) (fun _ _ => Reads.int Tryz.underlying3) (ReadsF.cons rfl (by kernel_rfl) (fun _ _ => Reads.struct Tryz.underlying27 (ReadsF.cons rfl (by kernel_rfl) (fun _ _ => Reads.int Tryz.underlying3) (ReadsF.cons rfl (by kernel_rfl) (fun _ _ => Reads.int Tryz.underlying2) (ReadsF.cons rfl (by kernel_rfl) (fun _ _ => Reads.string Tryz.underlying9) .nil)))) (ReadsF.cons rfl (by kernel_rfl) (fun M2 hM2 => Reads.slice Tryz.underlying28 (by kernel_rfl) (by decide) (fun M3 hM3 => ih M3 (by omega))) .nil))))))).conv
        (fun p => Ex.mk p.1 p.2.1 p.2.2.1 p.2.2.2.1 p.2.2.2.2.1.1 p.2.2.2.2.1.2.1 p.2.2.2.2.1.2.2.1 p.2.2.2.2.2.1) (fun p _ => by rw [exT_eq]; rfl) (fun p h => by
          obtain ⟨h1, h2, h3, h4, h5, h6, _⟩ := h
          rw [okE_iff]
          refine ⟨⟨?_, ?_, ?_, ?_⟩, h6.2.2⟩
          · show p.2.1.size ≤ _; omega
          · show p.2.2.1.size ≤ _; omega
          · have := h5.2.2.1; show p.2.2.2.2.1.2.2.1.size ≤ _; omega
          · have := h6.1
            rw [show Tryz.prog.bytesOf 30 = 104 from by kernel_rfl] at this
            show p.2.2.2.2.2.1.length ≤ _; omega)
abbrev ok82 (s : Co) : Prop := (fun s : ByteArray => s.size ≤ 140737488351232) s.nm ∧ (fun i : Int => (Lit.int .i64 i).wf = true) s.ty ∧ (fun i : Int => (Lit.int .i64 i).wf = true) s.lo ∧ (fun i : Int => (Lit.int .i64 i).wf = true) s.hi ∧ (fun i : Int => (Lit.int .i64 i).wf = true) s.mx ∧ (fun _ : Bool => True) s.nn ∧ True
theorem rd82 (N : Nat) : Reads Tryz.prog N 82 6 coT ok82 :=
  (Reads.struct Tryz.underlying82 (ReadsF.cons rfl (by kernel_rfl) (fun M _ => (Reads.string Tryz.underlying9)) (ReadsF.cons rfl (by kernel_rfl) (fun M _ => (Reads.int Tryz.underlying3)) (ReadsF.cons rfl (by kernel_rfl) (fun M _ => (Reads.int Tryz.underlying2)) (ReadsF.cons rfl (by kernel_rfl) (fun M _ => (Reads.int Tryz.underlying2)) (ReadsF.cons rfl (by kernel_rfl) (fun M _ => (Reads.int Tryz.underlying3)) (ReadsF.cons rfl (by kernel_rfl) (fun M _ => (Reads.bool Tryz.underlying4)) .nil))))))).conv (fun p => (⟨p.1, p.2.1, p.2.2.1, p.2.2.2.1, p.2.2.2.2.1, p.2.2.2.2.2.1⟩ : Co)) (fun _ _ => rfl) (fun _ h => h)
abbrev ok36 (l : List Co) : Prop := l.length * 56 ≤ 140737488351232 ∧ l.length ≤ maxLen ∧ ∀ x ∈ l, ok82 x
theorem rd36 (N : Nat) : Reads Tryz.prog N 36 1 (fun x : List Co => ([.sl .un 6 (x.map coT)] : List T)) ok36 :=
  (Reads.slice Tryz.underlying36 (by kernel_rfl) (by decide) (fun M _ => (rd82 M))).conv id (fun _ _ => rfl) (fun _ h => by rw [show Tryz.prog.bytesOf 82 = 56 from by kernel_rfl] at h; exact h)
abbrev ok24 (l : List Int) : Prop := l.length * 8 ≤ 140737488351232 ∧ l.length ≤ maxLen ∧ ∀ x ∈ l, (fun i : Int => (Lit.int .i64 i).wf = true) x
theorem rd24 (N : Nat) : Reads Tryz.prog N 24 1 (fun x : List Int => ([.sl .un 1 (x.map (fun x : Int => ([.v (.int .i64 x)] : List T)))] : List T)) ok24 :=
  (Reads.slice Tryz.underlying24 (by kernel_rfl) (by decide) (fun M _ => (Reads.int Tryz.underlying3))).conv id (fun _ _ => rfl) (fun _ h => by rw [show Tryz.prog.bytesOf 3 = 8 from by kernel_rfl] at h; exact h)
abbrev ok61 (l : List (List Int)) : Prop := l.length * 24 ≤ 140737488351232 ∧ l.length ≤ maxLen ∧ ∀ x ∈ l, ok24 x
theorem rd61 (N : Nat) : Reads Tryz.prog N 61 1 (fun x : List (List Int) => ([.sl .un 1 (x.map (fun x : List Int => ([.sl .un 1 (x.map (fun x : Int => ([.v (.int .i64 x)] : List T)))] : List T)))] : List T)) ok61 :=
  (Reads.slice Tryz.underlying61 (by kernel_rfl) (by decide) (fun M _ => (rd24 M))).conv id (fun _ _ => rfl) (fun _ h => by rw [show Tryz.prog.bytesOf 24 = 24 from by kernel_rfl] at h; exact h)
abbrev ok88 (s : Fk) : Prop := ok24 s.cols ∧ (fun i : Int => (Lit.int .i64 i).wf = true) s.tab ∧ (fun i : Int => (Lit.int .i64 i).wf = true) s.key ∧ True
theorem rd88 (N : Nat) : Reads Tryz.prog N 88 3 fkT ok88 :=
  (Reads.struct Tryz.underlying88 (ReadsF.cons rfl (by kernel_rfl) (fun M _ => (rd24 M)) (ReadsF.cons rfl (by kernel_rfl) (fun M _ => (Reads.int Tryz.underlying3)) (ReadsF.cons rfl (by kernel_rfl) (fun M _ => (Reads.int Tryz.underlying3)) .nil)))).conv (fun p => (⟨p.1, p.2.1, p.2.2.1⟩ : Fk)) (fun _ _ => rfl) (fun _ h => h)
abbrev ok62 (l : List Fk) : Prop := l.length * 40 ≤ 140737488351232 ∧ l.length ≤ maxLen ∧ ∀ x ∈ l, ok88 x
theorem rd62 (N : Nat) : Reads Tryz.prog N 62 1 (fun x : List Fk => ([.sl .un 3 (x.map fkT)] : List T)) ok62 :=
  (Reads.slice Tryz.underlying62 (by kernel_rfl) (by decide) (fun M _ => (rd88 M))).conv id (fun _ _ => rfl) (fun _ h => by rw [show Tryz.prog.bytesOf 88 = 40 from by kernel_rfl] at h; exact h)
abbrev ok28 (l : List Ex) : Prop := l.length * 104 ≤ 140737488351232 ∧ l.length ≤ maxLen ∧ ∀ x ∈ l, okE x
theorem rd28 (N : Nat) : Reads Tryz.prog N 28 1 (fun x : List Ex => ([.sl .un 8 (x.map exT')] : List T)) ok28 :=
  (Reads.slice Tryz.underlying28 (by kernel_rfl) (by decide) (fun M _ => (rd30 M))).conv id (fun _ _ => rfl) (fun _ h => by rw [show Tryz.prog.bytesOf 30 = 104 from by kernel_rfl] at h; exact h)
theorem rd64 (N : Nat) : Reads Tryz.prog N 64 5 tbT okT :=
  (Reads.struct Tryz.underlying64 (ReadsF.cons rfl (by kernel_rfl) (fun M _ => (Reads.string Tryz.underlying9)) (ReadsF.cons rfl (by kernel_rfl) (fun M _ => (rd36 M)) (ReadsF.cons rfl (by kernel_rfl) (fun M _ => (rd61 M)) (ReadsF.cons rfl (by kernel_rfl) (fun M _ => (rd62 M)) (ReadsF.cons rfl (by kernel_rfl) (fun M _ => (rd28 M)) .nil)))))).conv (fun p => (⟨p.1, p.2.1, p.2.2.1, p.2.2.2.1, p.2.2.2.2.1⟩ : Tb)) (fun _ _ => rfl) (fun p h => by
    obtain ⟨h1, h2, h3, h4, h5, _⟩ := h
    refine ⟨?_, ?_, fun c hc => ?_, ?_, fun k hk => ?_, ?_, fun f hf => ?_, ?_, h5.2.2⟩
    · show p.1.size ≤ _; omega
    · have := h2.1; show p.2.1.length ≤ _; omega
    · have := (h2.2.2 c hc).1; show c.nm.size ≤ _; omega
    · have := h3.1; show p.2.2.1.length ≤ _; omega
    · have := (h3.2.2 k hk).1; omega
    · have := h4.1; show p.2.2.2.1.length ≤ _; omega
    · have := (h4.2.2 f hf).1.1; omega
    · have := h5.1; show p.2.2.2.2.1.length ≤ _; omega)
theorem rdp35 (N : Nat) : Reads Tryz.prog N 35 13 plT' okP := by
  induction N using Nat.strongRecOn with
  | ind N ih =>
    exact (Reads.struct Tryz.underlying35 (ReadsF.cons rfl (by kernel_rfl) (fun M _ => (Reads.int Tryz.underlying3)) (ReadsF.cons rfl (by kernel_rfl) (fun M _ => (Reads.int Tryz.underlying3)) (ReadsF.cons rfl (by kernel_rfl) (fun M _ => (rd24 M)) (ReadsF.cons rfl (by kernel_rfl) (fun M _ => (rd28 M)) (ReadsF.cons rfl (by kernel_rfl) (fun M _ => (rd30 M)) (ReadsF.cons rfl (by kernel_rfl) (fun M2 hM2 => Reads.slice Tryz.underlying33 (by kernel_rfl) (by decide) (fun M3 hM3 => ih M3 (by omega))) .nil))))))).conv
        (fun p => Pl.mk p.1 p.2.1 p.2.2.1 p.2.2.2.1 p.2.2.2.2.1 p.2.2.2.2.2.1) (fun p _ => by
          show _ = [_] ++ ([_] ++ ([_] ++ ([_] ++ (exT' p.2.2.2.2.1 ++ ([E.T.sl .un 13 (p.2.2.2.2.2.1.map plT')] ++ [])))))
          rw [plT_eq, exT_eq]; rfl) (fun p h => by
          obtain ⟨h1, h2, h3, h4, h5, h6, _⟩ := h
          rw [okP_iff]
          refine ⟨⟨?_, ?_, ?_, h5, h4.2.2⟩, h6.2.2⟩
          · have := h3.1; show p.2.2.1.length ≤ _; omega
          · have := h4.1; show p.2.2.2.1.length ≤ _; omega
          · have := h6.1
            rw [show Tryz.prog.bytesOf 35 = 192 from by kernel_rfl] at this
            show p.2.2.2.2.2.1.length ≤ _; omega)
theorem rd35 (N : Nat) : Reads Tryz.prog N 35 13 (fun p : Pl => plL p) okP := (rdp35 N).conv id (fun x _ => (plT_eq x).symm) (fun _ h => h)
abbrev ok23 (l : List Tb) : Prop := l.length * 112 ≤ 140737488351232 ∧ l.length ≤ maxLen ∧ ∀ x ∈ l, okT x
theorem rd23 (N : Nat) : Reads Tryz.prog N 23 1 (fun x : List Tb => ([.sl .un 5 (x.map tbT)] : List T)) ok23 :=
  (Reads.slice Tryz.underlying23 (by kernel_rfl) (by decide) (fun M _ => (rd64 M))).conv id (fun _ _ => rfl) (fun _ h => by rw [show Tryz.prog.bytesOf 64 = 112 from by kernel_rfl] at h; exact h)
abbrev ok25 (l : List ByteArray) : Prop := l.length * 16 ≤ 140737488351232 ∧ l.length ≤ maxLen ∧ ∀ x ∈ l, (fun s : ByteArray => s.size ≤ 140737488351232) x
theorem rd25 (N : Nat) : Reads Tryz.prog N 25 1 (fun x : List ByteArray => ([.sl .un 1 (x.map (fun x : ByteArray => ([.v (.string x)] : List T)))] : List T)) ok25 :=
  (Reads.slice Tryz.underlying25 (by kernel_rfl) (by decide) (fun M _ => (Reads.string Tryz.underlying9))).conv id (fun _ _ => rfl) (fun _ h => by rw [show Tryz.prog.bytesOf 9 = 16 from by kernel_rfl] at h; exact h)
abbrev csL (c : Cs) : List E.T := [.sl .un 5 (c.sch.map tbT), .sl .un 1 (c.frm.map i64T), .sl .un 1 (c.al.map sT)] ++ exL c.wh
theorem rd32 (N : Nat) : Reads Tryz.prog N 32 11 csL okC :=
  (Reads.struct Tryz.underlying32 (ReadsF.cons rfl (by kernel_rfl) (fun M _ => (rd23 M)) (ReadsF.cons rfl (by kernel_rfl) (fun M _ => (rd24 M)) (ReadsF.cons rfl (by kernel_rfl) (fun M _ => (rd25 M)) (ReadsF.cons rfl (by kernel_rfl) (fun M _ => (rd30 M)) .nil))))).conv (fun p => (⟨p.1, p.2.1, p.2.2.1, p.2.2.2.1⟩ : Cs)) (fun p _ => by
    show _ = [_] ++ ([_] ++ ([_] ++ (exT' p.2.2.2.1 ++ [])))
    rw [exT_eq]; rfl) (fun p h => by
    obtain ⟨h1, h2, h3, h4, _⟩ := h
    refine ⟨?_, h1.2.2, ?_, ?_, fun s hs => ?_, h4⟩
    · have := h1.1; show p.1.length ≤ _; omega
    · have := h2.1; show p.2.1.length ≤ _; omega
    · have := h3.1; show p.2.2.1.length ≤ _; omega
    · have := h3.2.2 s hs; omega)
end Go.Proofs.YtihlgigaejhilaaGreatDoor.W
