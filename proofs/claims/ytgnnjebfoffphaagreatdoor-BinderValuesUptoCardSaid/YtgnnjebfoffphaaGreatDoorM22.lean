import Derived.Test.YtgnnjebfoffphaaGreatDoorM21
set_option maxRecDepth 20000
set_option maxHeartbeats 16000000
set_option linter.unusedSectionVars false
set_option linter.unusedSimpArgs false
set_option linter.unusedVariables false
namespace Go.Proofs.YtgnnjebfoffphaaGreatDoor.W
open Fx
open Go.RowKit E M
open Q
def frS (f : Fr) : ByteArray := if f.al ≠ ⟨#[]⟩ then f.tb ++ (⟨#[32, 65, 83, 32]⟩ ++ f.al) else f.tb
theorem fr_1 {f : Fr} (h : f.al ≠ ⟨#[]⟩) : f.tb ++ (⟨#[32, 65, 83, 32]⟩ ++ f.al) = frS f := by rw [frS, if_pos h]
theorem fr_2 {f : Fr} (h : ¬ f.al ≠ ⟨#[]⟩) : f.tb = frS f := by rw [frS, if_neg h]
theorem fr_size {f : Fr} (h1 : f.tb.size ≤ 2000000) (h2 : f.al.size ≤ 2000000) : (frS f).size ≤ 4000004 := by
  unfold frS
  split
  · exact jB (bd_app h1 (bd_app (n := 4) (jA _) h2)) (by decide)
  · omega
def orS (o : Od) : ByteArray := if o.ds = true then nuB o.it ++ ⟨#[32, 68, 69, 83, 67]⟩ else nuB o.it
theorem or_1 {o : Od} (h : o.ds = true) : nuB o.it ++ ⟨#[32, 68, 69, 83, 67]⟩ = orS o := by rw [orS, if_pos h]
theorem or_2 {o : Od} (h : o.ds = false) : nuB o.it = orS o := by rw [orS, if_neg (by rw [h]; simp)]
theorem or_size {o : Od} (h : -10000000000 < o.it ∧ o.it < 10000000000) : (orS o).size ≤ 16 := by
  have := nuB_size h
  unfold orS
  split
  · exact jB (bd_app this (m := 5) (jA _)) (by decide)
  · omega
structure okSel (st : St) : Prop where
  il : st.its.length ≤ 2000
  io : ∀ x ∈ st.its, okIt x
  fl : st.frm.length ≤ 2000
  fo : ∀ f ∈ st.frm, f.tb.size ≤ 2000000 ∧ f.al.size ≤ 2000000
  gl : st.grp.length ≤ 2000
  go : ∀ e ∈ st.grp, okP e
  ol : st.ord.length ≤ 2000
  oo : ∀ o ∈ st.ord, -10000000000 < o.it ∧ o.it < 10000000000
  lm : -10000000000 < st.lim ∧ st.lim < 10000000000
structure okTx (st : St) : Prop where
  tb : st.tb.size ≤ 2000000
  nm : st.nm.size ≤ 2000000
  wh : ¬ st.wh.op = 0 → okP st.wh
  c1 : st.k = 1 → okTd st.cr
  c2 : st.k = 2 → st.vals.length ≤ 2000 ∧ ∀ u ∈ st.vals, u.length ≤ 2000 ∧ ∀ e ∈ u, okP e
  c3 : st.k = 3 → st.sets.length ≤ 2000 ∧ ∀ a ∈ st.sets, a.col.size ≤ 2000000 ∧ okP a.ex
  c5 : st.k = 5 → okSel st
theorem fm_bd {st : St} (h : okSel st) : smL ByteArray.size (st.frm.map frS) + 2 * (st.frm.map frS).length ≤ 9000000000 := jB (cmB_bd (N := 2000) (B := 4000004) (by rw [qA]; exact h.fl) (fun u hu => by obtain ⟨f, hf, rfl⟩ := jE.1 hu; exact fr_size (h.fo f hf).1 (h.fo f hf).2)) (by decide)
theorem or_bd {st : St} (h : okSel st) : smL ByteArray.size (st.ord.map orS) + 2 * (st.ord.map orS).length ≤ 40000 := jB (cmB_bd (N := 2000) (B := 16) (by rw [qA]; exact h.ol) (fun u hu => by obtain ⟨f, hf, rfl⟩ := jE.1 hu; exact or_size (h.oo f hf))) (by decide)
def vaS (u : List Ex) : ByteArray := ⟨#[40]⟩ ++ exB u ++ ⟨#[41]⟩
def seS (a : As) : ByteArray := a.col ++ ⟨#[32, 61, 32]⟩ ++ prL a.ex 1
theorem va_bd {l : List (List Ex)} (h : l.length ≤ 2000 ∧ ∀ u ∈ l, u.length ≤ 2000 ∧ ∀ e ∈ u, okP e) : smL ByteArray.size (l.map vaS) + 2 * (l.map vaS).length ≤ 120000000000 := jB (cmB_bd (N := 2000) (B := 56008002) (by rw [qA]; exact h.1) (fun u hu => by
  obtain ⟨f, hf, rfl⟩ := jE.1 hu
  have := exB_size (h.2 f hf).1 (h.2 f hf).2
  exact jB (bd_app (bd_app (n := 1) (jA _) this) (m := 1) (jA _)) (by decide))) (by decide)
theorem se_bd {l : List As} (h : l.length ≤ 2000 ∧ ∀ a ∈ l, a.col.size ≤ 2000000 ∧ okP a.ex) : smL ByteArray.size (l.map seS) + 2 * (l.map seS).length ≤ 120000000000 := jB (cmB_bd (N := 2000) (B := 2028005) (by rw [qA]; exact h.1) (fun u hu => by
  obtain ⟨f, hf, rfl⟩ := jE.1 hu
  exact jB (bd_app (bd_app (h.2 f hf).1 (m := 3) (jA _)) (h.2 f hf).2.sz) (by decide))) (by decide)
theorem selection_any (st : St) (hs : okSel st) (hw : ¬ st.wh.op = 0 → okP st.wh) (H : Heap) : E.Spec Tryz.prog 97 [stC st] H fun x H' => ∃ u, x = .c (sC u) ∧ u.size ≤ 100000000000 ∧ H' = H := by
 have kz0 : (⟨#[32, 65, 83, 32]⟩ : ByteArray).size = 4 := rfl
 have kz1 : (⟨#[32, 68, 69, 83, 67]⟩ : ByteArray).size = 5 := rfl
 have kz2 : (⟨#[83, 69, 76, 69, 67, 84, 32]⟩ : ByteArray).size = 7 := rfl
 have kz3 : (⟨#[32, 70, 82, 79, 77, 32]⟩ : ByteArray).size = 6 := rfl
 have kz4 : (⟨#[32, 71, 82, 79, 85, 80, 32, 66, 89, 32]⟩ : ByteArray).size = 10 := rfl
 have kz5 : (⟨#[32, 79, 82, 68, 69, 82, 32, 66, 89, 32]⟩ : ByteArray).size = 10 := rfl
 have kz6 : (⟨#[32, 76, 73, 77, 73, 84, 32]⟩ : ByteArray).size = 7 := rfl
 have kz7 : (⟨#[]⟩ : ByteArray).size = 0 := rfl
 have hfl := hs.fl
 have hol := hs.ol
 have hgl := hs.gl
 refine Spec.enter Tryz.func97 rfl ?_
 refine AW.wk (wK 110 (l := [(0, .c (stC st))]) (ll := []) (H := (H))) ?_
 refine D2 ?_
 refine sR (sQ (q_build0 rfl el51) ?_)
 refine sQ (q_build0 rfl el51) ?_
 refine G2 ?_
 refine AW.seq (D1 ?_)
 refine AW.block (AW.emp 3 9 1 rfl (fun k0 hk0 => ?_))
 refine AW.loop (fun (i : Nat) s => ∃ (kt : Nat) (zs : List (List E.T)), (i ≤ st.frm.length ∧ H kt = none ∧ zs = ([] ++ (st.frm.take i).map frS).map sT ∧ zs.length ≤ 0 + i) ∧ s = ⟨110, sp [(1, .lp 1 0), (2, .c (sC ⟨#[]⟩)), (4, .c (.a (.ts 0 .nn 1 []))), (5, nX i), (3, .c (.a (.ts kt .nn 1 zs)))], lv [(1, .box (zSt st))], upd H kt (some (.tip 9 1 zs.length))⟩) (fun i => st.frm.length - i) 0 ⟨_, by exact wK 110, k0, [], ⟨qZ _, hk0, rfl, qZ _⟩, rfl⟩ (fun i s hs => ?_)
 obtain ⟨kt, zs, ⟨hi0, hkt, hzs, hzl⟩, rfl⟩ := hs
 refine AW.seq (D6 ?_)
 refine cD ?_ ?_ <;> intro h16
 ·
  have hi := oI h16
  have hf2 := hs.fo _ (qC hi)
  refine AW.skip (AW.seq (AW.block (D7 ?_)))
  refine AW.seq (D6 ?_)
  refine sQ (q_neqS rfl rfl rfl) ?_
  refine Z4 ?_
  refine cD ?_ ?_ <;> intro h31
  ·
   refine B10 ?_
   refine B3 ?_
   refine SeqK.app1 rfl (hkt) rfl el51 rfl rfl (by (try simp only [qG, qA, qP, qM, qQ]); omega) rfl rfl (fun k44 hk44 => ?_)
   refine sB ?_
   refine B3 ?_
   exact ⟨i + 1, _, by exact wK 110, by omega, k44, zs ++ [sT (st.frm[i].tb ++ (⟨#[32, 65, 83, 32]⟩ ++ st.frm[i].al))], ⟨hi, hk44, put_zs hi hzs (fr_1 h31), by (try simp only [qG, qP]); omega⟩, rfl⟩
  refine AW.skip (B3 ?_)
  refine SeqK.app1 rfl (hkt) rfl el51 rfl rfl (by (try simp only [qG, qA, qP, qM, qQ]); omega) rfl rfl (fun k44 hk44 => ?_)
  refine sB ?_
  refine B3 ?_
  exact ⟨i + 1, _, by exact wK 110, by omega, k44, zs ++ [sT (st.frm[i].tb)], ⟨hi, hk44, put_zs hi hzs (fr_2 h31), by (try simp only [qG, qP]); omega⟩, rfl⟩
 refine AW.exit ?_
 refine eth_e ?_
 refine eth_e ?_
 refine exit_here ?_
 refine AW.seq (AW.seq ?_)
 obtain rfl := oE h16 hi0
 rw [qT] at hzs
 refine AW.xw 3 rfl (XW.ts.trans (XW.es (es' := (st.frm.map frS).map sT) hzs)) ?_
 refine AW.wk (Wk.keep 110 [(1, .lp 1 0), (2, .c (sC ⟨#[]⟩)), (3, .c (sL .un (st.frm.map frS))), (4, .c (.a (.ts 0 .nn 1 [])))] [(1, .box (zSt st))] (H) rfl ⟨rfl, rfl, rfl, rfl, trivial⟩ ⟨rfl, trivial⟩ (fun j o h => upd_sub hkt j o h) rfl) ?_
 refine B1 ?_
 refine AW.block (AW.emp 4 9 1 rfl (fun k0 hk0 => ?_))
 refine AW.loop (fun (i : Nat) s => ∃ (kt : Nat) (zs : List (List E.T)), (i ≤ st.ord.length ∧ H kt = none ∧ zs = ([] ++ (st.ord.take i).map orS).map sT ∧ zs.length ≤ 0 + i) ∧ s = ⟨110, sp [(1, .lp 1 0), (2, .c (sC ⟨#[]⟩)), (3, .c (sL .un (st.frm.map frS))), (7, nX i), (4, .c (.a (.ts kt .nn 1 zs)))], lv [(1, .box (zSt st))], upd H kt (some (.tip 9 1 zs.length))⟩) (fun i => st.ord.length - i) 0 ⟨_, by exact wK 110, k0, [], ⟨qZ _, hk0, rfl, qZ _⟩, rfl⟩ (fun i s hs => ?_)
 obtain ⟨kt, zs, ⟨hi0, hkt, hzs, hzl⟩, rfl⟩ := hs
 refine AW.seq (D6 ?_)
 refine cD ?_ ?_ <;> intro h49
 ·
  have hi := oI h49
  have ho2 := hs.oo _ (qC hi)
  have hoz := nuB_size ho2
  refine AW.skip (AW.seq (AW.block (D6 ?_)))
  refine Z16 fn105 (num_z _ ho2) ?_
  refine sB ?_
  refine AW.seq (D7 ?_)
  refine AW.cond _ rfl (fun h64 => ?_) (fun h64 => ?_)
  ·
   refine B3 ?_
   refine B3 ?_
   refine SeqK.app1 rfl (hkt) rfl el51 rfl rfl (by (try simp only [qG, qA, qP, qM, qQ]); omega) rfl rfl (fun k70 hk70 => ?_)
   refine sB ?_
   refine B3 ?_
   exact ⟨i + 1, _, by exact wK 110, by omega, k70, zs ++ [sT (nuB st.ord[i].it ++ ⟨#[32, 68, 69, 83, 67]⟩)], ⟨hi, hk70, put_zs hi hzs (or_1 h64), by (try simp only [qG, qP]); omega⟩, rfl⟩
  refine AW.skip (B3 ?_)
  refine SeqK.app1 rfl (hkt) rfl el51 rfl rfl (by (try simp only [qG, qA, qP, qM, qQ]); omega) rfl rfl (fun k70 hk70 => ?_)
  refine sB ?_
  refine B3 ?_
  exact ⟨i + 1, _, by exact wK 110, by omega, k70, zs ++ [sT (nuB st.ord[i].it)], ⟨hi, hk70, put_zs hi hzs (or_2 h64), by (try simp only [qG, qP]); omega⟩, rfl⟩
 refine AW.exit ?_
 refine eth_e ?_
 refine eth_e ?_
 refine exit_here ?_
 refine AW.seq ?_
 obtain rfl := oE h49 hi0
 rw [qT] at hzs
 refine AW.xw 4 rfl (XW.ts.trans (XW.es (es' := (st.ord.map orS).map sT) hzs)) ?_
 have z1 := its_size hs.il hs.io
 have z2 := jB (cmB_size _) (fm_bd hs)
 have z3 := whB_size hw
 have z4 := exB_size hs.gl hs.go
 have z5 := jB (cmB_size _) (or_bd hs)
 have z6 := nuB_size hs.lm
 refine AW.draw mo ?_
 refine N2 ?_
 refine Z35 fn140 (items_any2 _ _ hs.il hs.io) ?_
 refine N3 ?_
 refine lQ (q_call _ rfl fn95 rfl (comma_any _ _ (jB (fm_bd hs) (by decide))) rfl) ?_
 refine N2 ?_
 refine Z35 fn96 (where_any st hw) ?_
 refine N3 ?_
 refine AW.seq (D5 ?_)
 refine cD ?_ ?_ <;> intro h85
 ·
  refine B3 ?_
  refine Z16 fn94 (exprsT_any _ _ hs.gl hs.go) ?_
  refine G3 ?_
  refine AW.seq (D4 ?_)
  refine cD ?_ ?_ <;> intro h94
  ·
   refine B2 ?_
   refine sQ (q_call _ rfl fn95 rfl (comma_any _ _ (jB (or_bd hs) (by decide))) rfl) ?_
   refine G3 ?_
   refine AW.seq (D4 ?_)
   refine cD ?_ ?_ <;> intro h102
   ·
    refine B3 ?_
    refine Z16 fn105 (num_z _ hs.lm) ?_
    refine G3 ?_
    refine D2 ?_
    exact aR (fin_x (x := .c _) (H) (.tmp rfl .nil) rfl ((fun j o h => upd_sub hkt j o h)) (⟨_, rfl, by (try simp only [qE]); omega, rfl⟩))
   refine AW.skip (D2 ?_)
   exact aR (fin_x (x := .c _) (H) (.tmp rfl .nil) rfl ((fun j o h => upd_sub hkt j o h)) (⟨_, rfl, by (try simp only [qE]); omega, rfl⟩))
  refine AW.skip (AW.seq (D4 ?_))
  refine cD ?_ ?_ <;> intro h102
  ·
   refine B3 ?_
   refine Z16 fn105 (num_z _ hs.lm) ?_
   refine G3 ?_
   refine D2 ?_
   exact aR (fin_x (x := .c _) (H) (.tmp rfl .nil) rfl ((fun j o h => upd_sub hkt j o h)) (⟨_, rfl, by (try simp only [qE]); omega, rfl⟩))
  refine AW.skip (D2 ?_)
  exact aR (fin_x (x := .c _) (H) (.tmp rfl .nil) rfl ((fun j o h => upd_sub hkt j o h)) (⟨_, rfl, by (try simp only [qE]); omega, rfl⟩))
 refine AW.skip (AW.seq (D4 ?_))
 refine cD ?_ ?_ <;> intro h94
 ·
  refine B2 ?_
  refine sQ (q_call _ rfl fn95 rfl (comma_any _ _ (jB (or_bd hs) (by decide))) rfl) ?_
  refine G3 ?_
  refine AW.seq (D4 ?_)
  refine cD ?_ ?_ <;> intro h102
  ·
   refine B3 ?_
   refine Z16 fn105 (num_z _ hs.lm) ?_
   refine G3 ?_
   refine D2 ?_
   exact aR (fin_x (x := .c _) (H) (.tmp rfl .nil) rfl ((fun j o h => upd_sub hkt j o h)) (⟨_, rfl, by (try simp only [qE]); omega, rfl⟩))
  refine AW.skip (D2 ?_)
  exact aR (fin_x (x := .c _) (H) (.tmp rfl .nil) rfl ((fun j o h => upd_sub hkt j o h)) (⟨_, rfl, by (try simp only [qE]); omega, rfl⟩))
 refine AW.skip (AW.seq (D4 ?_))
 refine cD ?_ ?_ <;> intro h102
 ·
  refine B3 ?_
  refine Z16 fn105 (num_z _ hs.lm) ?_
  refine G3 ?_
  refine D2 ?_
  exact aR (fin_x (x := .c _) (H) (.tmp rfl .nil) rfl ((fun j o h => upd_sub hkt j o h)) (⟨_, rfl, by (try simp only [qE]); omega, rfl⟩))
 refine AW.skip (D2 ?_)
 exact aR (fin_x (x := .c _) (H) (.tmp rfl .nil) rfl ((fun j o h => upd_sub hkt j o h)) (⟨_, rfl, by (try simp only [qE]); omega, rfl⟩))
theorem body_any (st : St) (ok : okTx st) (H : Heap) : E.Spec Tryz.prog 50 [stC st] H fun x H' => ∃ u, x = .c (sC u) ∧ u.size ≤ 200000000000 ∧ H' = H := by
 have kz0 : (⟨#[67, 82, 69, 65, 84, 69, 32, 84, 65, 66, 76, 69, 32]⟩ : ByteArray).size = 13 := rfl
 have kz1 : (⟨#[32, 40]⟩ : ByteArray).size = 2 := rfl
 have kz2 : (⟨#[41]⟩ : ByteArray).size = 1 := rfl
 have kz3 : (⟨#[40]⟩ : ByteArray).size = 1 := rfl
 have kz4 : (⟨#[73, 78, 83, 69, 82, 84, 32, 73, 78, 84, 79, 32]⟩ : ByteArray).size = 12 := rfl
 have kz5 : (⟨#[32, 86, 65, 76, 85, 69, 83, 32]⟩ : ByteArray).size = 8 := rfl
 have kz6 : (⟨#[32, 61, 32]⟩ : ByteArray).size = 3 := rfl
 have kz7 : (⟨#[85, 80, 68, 65, 84, 69, 32]⟩ : ByteArray).size = 7 := rfl
 have kz8 : (⟨#[32, 83, 69, 84, 32]⟩ : ByteArray).size = 5 := rfl
 have kz9 : (⟨#[68, 69, 76, 69, 84, 69, 32, 70, 82, 79, 77, 32]⟩ : ByteArray).size = 12 := rfl
 have kz10 : (⟨#[66, 69, 71, 73, 78]⟩ : ByteArray).size = 5 := rfl
 have kz11 : (⟨#[67, 79, 77, 77, 73, 84]⟩ : ByteArray).size = 6 := rfl
 have kz12 : (⟨#[82, 79, 76, 76, 66, 65, 67, 75]⟩ : ByteArray).size = 8 := rfl
 have kz13 : (⟨#[83, 65, 86, 69, 80, 79, 73, 78, 84, 32]⟩ : ByteArray).size = 10 := rfl
 have kz14 : (⟨#[82, 79, 76, 76, 66, 65, 67, 75, 32, 84, 79, 32]⟩ : ByteArray).size = 12 := rfl
 have kz15 : (⟨#[82, 69, 76, 69, 65, 83, 69, 32]⟩ : ByteArray).size = 8 := rfl
 have kz16 : (⟨#[]⟩ : ByteArray).size = 0 := rfl
 have htz := ok.tb
 have hnz := ok.nm
 have z3 := whB_size ok.wh
 refine Spec.enter Tryz.func50 rfl ?_
 refine AW.wk (wK 115 (l := [(0, .c (stC st))]) (ll := []) (H := (H))) ?_
 refine D2 ?_
 refine sR (sQ (q_build0 rfl el51) ?_)
 refine sB ?_
 refine AW.seq (D3 ?_)
 refine AW.block (D2 ?_)
 refine cD ?_ ?_ <;> intro h9
 ·
  have hk1 := ok.c1 (by omega)
  have hk2 := el_size hk1
  refine AW.seq (AW.draw mo ?_)
  refine N6 ?_
  refine Z35 fn93 (elements_any _ hk1) ?_
  refine N4 ?_
  exact aR (f1 (q := ⟨_, rfl, by (try simp only [qE]); omega, rfl⟩))
 refine D2 ?_
 refine cD ?_ ?_ <;> intro h20
 ·
  have hk1 := ok.c2 (by omega)
  have hvl := hk1.1
  refine AW.seq (D1 ?_)
  refine AW.block (AW.emp 3 9 1 rfl (fun k0 hk0 => ?_))
  refine AW.loop (fun (i : Nat) s => ∃ (kt : Nat) (zs : List (List E.T)), (i ≤ st.vals.length ∧ H kt = none ∧ zs = ([] ++ (st.vals.take i).map vaS).map sT ∧ zs.length ≤ 0 + i) ∧ s = ⟨115, sp [(1, .lp 1 0), (2, .c (sC ⟨#[]⟩)), (4, nX i), (3, .c (.a (.ts kt .nn 1 zs)))], lv [(1, .box (zSt st))], upd H kt (some (.tip 9 1 zs.length))⟩) (fun i => st.vals.length - i) 0 ⟨_, by exact wK 115, k0, [], ⟨qZ _, hk0, rfl, qZ _⟩, rfl⟩ (fun i s hs => ?_)
  obtain ⟨kt, zs, ⟨hi0, hkt, hzs, hzl⟩, rfl⟩ := hs
  refine AW.seq (D6 ?_)
  refine cD ?_ ?_ <;> intro h26
  ·
   have hi := oI h26
   have hui := hk1.2 _ (qC hi)
   have hus := exB_size hui.1 hui.2
   refine AW.skip (AW.seq (AW.block (B6 ?_)))
   refine Z16 fn94 (exprsT_any _ _ hui.1 hui.2) ?_
   refine G3 ?_
   refine SeqK.app1 rfl (hkt) rfl el51 rfl rfl (by (try simp only [qG, qA, qP, qM, qQ]); omega) rfl rfl (fun k39 hk39 => ?_)
   refine sB ?_
   refine B3 ?_
   exact ⟨i + 1, _, by exact wK 115, by omega, k39, zs ++ [sT (⟨#[40]⟩ ++ exB st.vals[i] ++ ⟨#[41]⟩)], ⟨hi, hk39, put_zs hi hzs (rfl), by (try simp only [qG, qP]); omega⟩, rfl⟩
  refine AW.exit ?_
  refine eth_e ?_
  refine eth_e ?_
  refine exit_here ?_
  refine AW.seq ?_
  obtain rfl := oE h26 hi0
  rw [qT] at hzs
  refine AW.xw 3 rfl (XW.ts.trans (XW.es (es' := (st.vals.map vaS).map sT) hzs)) ?_
  have z2 := jB (cmB_size _) (va_bd hk1)
  refine AW.draw mo ?_
  refine N5 ?_
  refine lQ (q_call _ rfl fn95 rfl (comma_any _ _ (jB (va_bd hk1) (by decide))) rfl) ?_
  refine N3 ?_
  exact aR (fin_x (x := .c _) (H) (.tmp rfl .nil) rfl ((fun j o h => upd_sub hkt j o h)) (⟨_, rfl, by (try simp only [qE]); omega, rfl⟩))
 refine D2 ?_
 refine cD ?_ ?_ <;> intro h47
 ·
  have hk1 := ok.c3 (by omega)
  have hvl := hk1.1
  refine AW.seq (D1 ?_)
  refine AW.block (AW.emp 3 9 1 rfl (fun k0 hk0 => ?_))
  refine AW.loop (fun (i : Nat) s => ∃ (kt : Nat) (zs : List (List E.T)), (i ≤ st.sets.length ∧ H kt = none ∧ zs = ([] ++ (st.sets.take i).map seS).map sT ∧ zs.length ≤ 0 + i) ∧ s = ⟨115, sp [(1, .lp 1 0), (2, .c (sC ⟨#[]⟩)), (5, nX i), (3, .c (.a (.ts kt .nn 1 zs)))], lv [(1, .box (zSt st))], upd H kt (some (.tip 9 1 zs.length))⟩) (fun i => st.sets.length - i) 0 ⟨_, by exact wK 115, k0, [], ⟨qZ _, hk0, rfl, qZ _⟩, rfl⟩ (fun i s hs => ?_)
  obtain ⟨kt, zs, ⟨hi0, hkt, hzs, hzl⟩, rfl⟩ := hs
  refine AW.seq (D6 ?_)
  refine cD ?_ ?_ <;> intro h53
  ·
   have hi := oI h53
   have hui := hk1.2 _ (qC hi)
   have huc := hui.1
   have hus := hui.2.sz
   refine AW.skip (AW.seq (AW.block (AW.drawO [0, 1, 2, 3, 4, 5, 6, 7, 8, 9, 10, 11, 12, 13, 14, 15, 16, 17, 18] mo (by kernel_rfl) ?_)))
   refine LexO.q rfl (by kernel_rfl) (q_mvC rfl rfl) rfl rfl rfl ?_
   refine LexO.q rfl (by kernel_rfl) (q_fieldL _ rfl fl40_4 rfl rfl) rfl rfl rfl ?_
   refine LexO.r rfl (by kernel_rfl) (b_load (r := .a _) rfl ty31 rfl rfl rfl rfl rfl rfl) rfl ?_
   refine LexO.q rfl (by kernel_rfl) (q_mvC rfl rfl) rfl rfl rfl ?_
   refine LexO.q rfl (by kernel_rfl) (q_index _ rfl sl31 rfl rfl (by omega) (idx_map (f := asT) hi)) rfl rfl rfl ?_
   refine LexO.q rfl (by kernel_rfl) (q_fieldP _ rfl fl85_0 rfl rfl) rfl rfl rfl ?_
   refine LexO.q rfl (by kernel_rfl) (q_load (.a _) rfl ty9 rfl rfl rfl) rfl rfl rfl ?_
   refine LexO.q rfl (by kernel_rfl) (q_addS rfl rfl rfl (by first | omega | (simp only [qE]; omega))) rfl rfl rfl ?_
   refine LexO.q rfl (by kernel_rfl) (q_fieldL _ rfl fl40_4 rfl rfl) rfl rfl rfl ?_
   refine LexO.r rfl (by kernel_rfl) (b_load (r := .a _) rfl ty31 rfl rfl rfl rfl rfl rfl) rfl ?_
   refine LexO.q rfl (by kernel_rfl) (q_mvC rfl rfl) rfl rfl rfl ?_
   refine LexO.q rfl (by kernel_rfl) (q_index _ rfl sl31 rfl rfl (by omega) (idx_map (f := asT) hi)) rfl rfl rfl ?_
   refine LexO.q rfl (by kernel_rfl) (q_fieldP _ rfl fl85_2 rfl rfl) rfl rfl rfl ?_
   refine LexO.q rfl (by kernel_rfl) (q_load (.g [_, _, _, _, _, _, _, _]) rfl ty37 rfl rfl rfl) rfl rfl rfl ?_
   refine LexO.q rfl (by kernel_rfl) (q_call _ rfl fn62 rfl (hui.2.pr) rfl) rfl rfl rfl ?_
   refine LexO.q rfl (by kernel_rfl) (q_addS rfl rfl rfl (by first | omega | (simp only [qE]; omega))) rfl rfl rfl ?_
   refine LexO.q rfl (by kernel_rfl) (q_buildSlice _ rfl el51 rfl (by decide) rfl) rfl rfl rfl ?_
   refine LexO.app1 rfl (by kernel_rfl) (by kernel_rfl) (by kernel_rfl) rfl (hkt) rfl el51 rfl rfl (by (try simp only [qG, qA, qP, qM, qQ]); omega) rfl rfl (fun k73 hk73 => ?_)
   refine LexO.q rfl (by kernel_rfl) (q_asC rfl rfl) rfl rfl rfl ?_
   refine LexO.nil (by kernel_rfl) ?_
   refine B3 ?_
   exact ⟨i + 1, _, by exact wK 115, by omega, k73, zs ++ [sT (st.sets[i].col ++ ⟨#[32, 61, 32]⟩ ++ prL st.sets[i].ex 1)], ⟨hi, hk73, put_zs hi hzs (rfl), by (try simp only [qG, qP]); omega⟩, rfl⟩
  refine AW.exit ?_
  refine eth_e ?_
  refine eth_e ?_
  refine exit_here ?_
  refine AW.seq ?_
  obtain rfl := oE h53 hi0
  rw [qT] at hzs
  refine AW.xw 3 rfl (XW.ts.trans (XW.es (es' := (st.sets.map seS).map sT) hzs)) ?_
  have z2 := jB (cmB_size _) (se_bd hk1)
  refine AW.draw mo ?_
  refine N5 ?_
  refine lQ (q_call _ rfl fn95 rfl (comma_any _ _ (jB (se_bd hk1) (by decide))) rfl) ?_
  refine N2 ?_
  refine Z35 fn96 (where_any st ok.wh) ?_
  refine N3 ?_
  exact aR (fin_x (x := .c _) (H) (.tmp rfl .nil) rfl ((fun j o h => upd_sub hkt j o h)) (⟨_, rfl, by (try simp only [qE]); omega, rfl⟩))
 refine D2 ?_
 refine cD ?_ ?_ <;> intro h84
 ·
  refine AW.seq (AW.draw mo ?_)
  refine N4 ?_
  refine Z35 fn96 (where_any st ok.wh) ?_
  refine N3 ?_
  exact aR (f1 (q := ⟨_, rfl, by (try simp only [qE]); omega, rfl⟩))
 refine D2 ?_
 refine cD ?_ ?_ <;> intro h92
 ·
  refine D1 ?_
  refine SeqK.callE rfl rfl rfl rfl fn97 rfl (selection_any st (ok.c5 (by omega)) ok.wh _) (fun _ _ h => by obtain ⟨_, h, _⟩ := h; rw [h]; rfl) (fun x95 H95 q95 => ?_)
  obtain ⟨u95, rfl, hu95, e95⟩ := q95
  replace e95 := e95.symm
  subst e95
  refine sB ?_
  exact aR (f1 (q := ⟨_, rfl, by (try simp only [qE]); omega, rfl⟩))
 refine D2 ?_
 refine cD ?_ ?_ <;> intro h96
 ·
  refine D1 ?_
  exact aR (f1 (q := ⟨_, rfl, by (try simp only [qE]); omega, rfl⟩))
 refine D2 ?_
 refine cD ?_ ?_ <;> intro h98
 ·
  refine D1 ?_
  exact aR (f1 (q := ⟨_, rfl, by (try simp only [qE]); omega, rfl⟩))
 refine D2 ?_
 refine cD ?_ ?_ <;> intro h100
 ·
  refine D1 ?_
  exact aR (f1 (q := ⟨_, rfl, by (try simp only [qE]); omega, rfl⟩))
 refine D2 ?_
 refine cD ?_ ?_ <;> intro h102
 ·
  refine D4 ?_
  exact aR (f1 (q := ⟨_, rfl, by (try simp only [qE]); omega, rfl⟩))
 refine D2 ?_
 refine cD ?_ ?_ <;> intro h107
 ·
  refine D4 ?_
  exact aR (f1 (q := ⟨_, rfl, by (try simp only [qE]); omega, rfl⟩))
 refine AW.skip (D4 ?_)
 exact aR (f1 (q := ⟨_, rfl, by (try simp only [qE]); omega, rfl⟩))
open Q
structure itQ (x : It) : Prop where
  lo : 0 ≤ x.ag
  hi : x.ag ≤ 5
  ab : x.ag = 1 → abP x.ex
  ex : x.ag ≠ 1 → fmB x.ex = true
structure quP (st : St) : Prop where
  io : ∀ j (h : j < st.its.length), itQ st.its[j]
  go : ∀ j (h : j < st.grp.length), st.grp[j].op = 2 ∧ fmB st.grp[j] = true
  oo : ∀ j (h : j < st.ord.length), 1 ≤ st.ord[j].it ∧ numP st.ord[j].it
  lm : numP st.lim
structure okFm (st : St) : Prop where
  tb : st.tb.size ≤ 1000000000000000
  nm : st.nm.size ≤ 1000000000000000
  cr : okDn st.cr
  vl : st.vals.length ≤ 1000000000000
  vo : ∀ u ∈ st.vals, u.length ≤ 1000000000000 ∧ ∀ e ∈ u, Q.okE e
  sl : st.sets.length ≤ 1000000000000
  so : ∀ a ∈ st.sets, a.col.size ≤ 1000000000000000 ∧ Q.okE a.ex
  il : st.its.length ≤ 1000000000000
  io : ∀ x ∈ st.its, Q.okE x.ex
  fl : st.frm.length ≤ 1000000000000
  fo : ∀ f ∈ st.frm, f.tb.size ≤ 1000000000000000 ∧ f.al.size ≤ 1000000000000000
  wo : Q.okE st.wh
  gl : st.grp.length ≤ 1000000000000
  go : ∀ e ∈ st.grp, Q.okE e
  ol : st.ord.length ≤ 1000000000000
structure frmS (st : St) : Prop where
  k : 1 ≤ st.k ∧ st.k ≤ 11
  a1 : (st.k ≠ 1 → st.cr.cols.length + st.cr.keys.length + st.cr.fks.length + st.cr.chks.length = 0) ∧ (st.k ≠ 2 → st.vals.length = 0) ∧ (st.k ≠ 3 → st.sets.length = 0)
  a2 : st.k ≠ 5 → st.its.length + st.frm.length + st.grp.length + st.ord.length = 0
  wh : st.wh.op ≠ 0 → fmB st.wh = true
  c1 : st.k = 1 → dnP st.cr
  c2 : st.k = 2 → inP st.vals
  c3 : st.k = 3 → seP st.sets
  c5 : st.k = 5 → quP st
theorem query_q (st : St) (ok : okFm st) (H : Heap) : E.Spec Tryz.prog 92 [stC st] H fun x H' => ∃ b, x = .c (bC b) ∧ (b = true → quP st) ∧ H' = H := by
 have hil := ok.il
 have hfl := ok.fl
 have hgl := ok.gl
 have hol := ok.ol
 refine Spec.enter Tryz.func92 rfl ?_
 refine AW.wk (wK 140 (l := [(0, .c (stC st))]) (ll := []) (H := (H))) ?_
 refine D2 ?_
 refine AW.seq (D1 ?_)
 refine AW.block (AW.loop (fun (i : Nat) s => (i ≤ st.its.length ∧ ∀ j (h : j < st.its.length), j < i → itQ st.its[j]) ∧ s = ⟨140, sp [(1, .lp 1 0), (2, .c (bC false)), (3, nX i)], lv [(1, .box (zSt st))], H⟩) (fun i => st.its.length - i) 0 ⟨_, by exact wK 140, ⟨qZ _, up0⟩, rfl⟩ (fun i s hs => ?_))
 obtain ⟨⟨hi0, hUi⟩, rfl⟩ := hs
 refine AW.seq (D6 ?_)
 refine cD ?_ ?_ <;> intro h12
 ·
  have hi := oI h12
  have hxo := ok.io _ (qC hi)
  refine AW.skip (AW.seq (AW.block (D8 ?_)))
  refine D3 ?_
  refine Z17 ?_ ?_ <;> intro g23
  ·
   iterate 3 refine oF ?_
   refine G2 ?_
   iterate 4 refine oF ?_
   iterate 4 refine oU ?_
   refine G3 ?_
   iterate 4 refine oF ?_
   iterate 4 refine oU ?_
   refine G3 ?_
   refine AW.condT rfl ?_
   refine D1 ?_
   exact aR (f1 (q := ⟨_, rfl, fun h => (by cases h), rfl⟩))
  refine G4 ?_
  refine Z17 ?_ ?_ <;> intro g28
  ·
   iterate 4 refine oF ?_
   iterate 4 refine oU ?_
   refine G3 ?_
   iterate 4 refine oF ?_
   iterate 4 refine oU ?_
   refine G3 ?_
   refine AW.condT rfl ?_
   refine D1 ?_
   exact aR (f1 (q := ⟨_, rfl, fun h => (by cases h), rfl⟩))
  refine G3 ?_
  refine Z48 ?_ ?_ <;> intro g32
  ·
   refine G2 ?_
   refine sO (q_call _ rfl fn87 rfl (absent_any _ (by have := (okE_iff.1 hxo).1.2.2.2; omega)) rfl) ?_
   refine G3 ?_
   refine Z53 ?_ ?_ <;> intro g39
   ·
    iterate 4 refine oF ?_
    iterate 4 refine oU ?_
    refine G3 ?_
    refine AW.condT rfl ?_
    refine D1 ?_
    exact aR (f1 (q := ⟨_, rfl, fun h => (by cases h), rfl⟩))
   refine G3 ?_
   refine Z48 ?_ ?_ <;> intro g43
   ·
    refine G2 ?_
    refine Z52 fn88 (rformed_any _ hxo) ?_
    refine G4 ?_
    refine AW.cond _ rfl (fun h49 => ?_) (fun h49 => ?_)
    ·
     refine D1 ?_
     exact aR (f1 (q := ⟨_, rfl, fun h => (by cases h), rfl⟩))
    refine AW.skip (B3 ?_)
    exact ⟨i + 1, _, by exact wK 140, by omega, ⟨hi, upS hi hUi (⟨by omega, by omega, fun k => by first | exact jJ (bnf g39) | omega, fun k => by first | exact bnf h49 | omega⟩)⟩, rfl⟩
   iterate 4 refine oF ?_
   refine G3 ?_
   refine AW.condF rfl ?_
   refine AW.skip (B3 ?_)
   exact ⟨i + 1, _, by exact wK 140, by omega, ⟨hi, upS hi hUi (⟨by omega, by omega, fun k => by first | exact jJ (bnf g39) | omega, fun k => by first | exact bnf h49 | omega⟩)⟩, rfl⟩
  iterate 4 refine oF ?_
  refine G6 ?_
  refine Z48 ?_ ?_ <;> intro g43
  ·
   refine G2 ?_
   refine Z52 fn88 (rformed_any _ hxo) ?_
   refine G4 ?_
   refine AW.cond _ rfl (fun h49 => ?_) (fun h49 => ?_)
   ·
    refine D1 ?_
    exact aR (f1 (q := ⟨_, rfl, fun h => (by cases h), rfl⟩))
   refine AW.skip (B3 ?_)
   exact ⟨i + 1, _, by exact wK 140, by omega, ⟨hi, upS hi hUi (⟨by omega, by omega, fun k => by first | exact jJ (bnf g39) | omega, fun k => by first | exact bnf h49 | omega⟩)⟩, rfl⟩
  iterate 4 refine oF ?_
  refine G3 ?_
  refine AW.condF rfl ?_
  refine AW.skip (B3 ?_)
  exact ⟨i + 1, _, by exact wK 140, by omega, ⟨hi, upS hi hUi (⟨by omega, by omega, fun k => by first | exact jJ (bnf g39) | omega, fun k => by first | exact bnf h49 | omega⟩)⟩, rfl⟩
 refine AW.exit ?_
 refine eth_e ?_
 refine eth_e ?_
 refine exit_here ?_
 refine AW.seq (AW.seq ?_)
 have A1 : ∀ j (h : j < st.its.length), itQ st.its[j] := (upE hUi (by (try rw [qA] at h12); omega))
 refine B1 ?_
 refine AW.block (AW.loop (fun (i : Nat) s => (i ≤ st.frm.length ∧ ∀ j (h : j < st.frm.length), j < i → True) ∧ s = ⟨140, sp [(1, .lp 1 0), (2, .c (bC false)), (5, nX i)], lv [(1, .box (zSt st))], H⟩) (fun i => st.frm.length - i) 0 ⟨_, by exact wK 140, ⟨qZ _, up0⟩, rfl⟩ (fun i s hs => ?_))
 obtain ⟨⟨hi0, hUi⟩, rfl⟩ := hs
 refine AW.seq (D6 ?_)
 refine cD ?_ ?_ <;> intro h54
 ·
  have hi := oI h54
  have hfo := ok.fo _ (qC hi)
  refine AW.skip (AW.seq (AW.block (D6 ?_)))
  refine Z16 fn86 (rname_any _ hfo.1) ?_
  refine Z38 ?_
  refine Z53 ?_ ?_ <;> intro g65
  ·
   iterate 8 refine oF ?_
   iterate 8 refine oU ?_
   refine G3 ?_
   refine AW.condT rfl ?_
   refine D1 ?_
   exact aR (f1 (q := ⟨_, rfl, fun h => (by cases h), rfl⟩))
  refine G4 ?_
  refine sO (q_fieldP _ rfl fl65_1 rfl rfl) ?_
  refine G1 ?_
  refine sO (q_neqS rfl rfl rfl) ?_
  refine Z48 ?_ ?_ <;> intro g73
  ·
   refine G4 ?_
   refine sO (q_fieldP _ rfl fl65_1 rfl rfl) ?_
   refine G1 ?_
   refine Z52 fn86 (rname_any _ hfo.2) ?_
   refine G4 ?_
   refine AW.cond _ rfl (fun h83 => ?_) (fun h83 => ?_)
   ·
    refine D1 ?_
    exact aR (f1 (q := ⟨_, rfl, fun h => (by cases h), rfl⟩))
   refine AW.skip (B3 ?_)
   exact ⟨i + 1, _, by exact wK 140, by omega, ⟨hi, upS hi hUi (trivial)⟩, rfl⟩
  iterate 8 refine oF ?_
  refine G3 ?_
  refine AW.condF rfl ?_
  refine AW.skip (B3 ?_)
  exact ⟨i + 1, _, by exact wK 140, by omega, ⟨hi, upS hi hUi (trivial)⟩, rfl⟩
 refine AW.exit ?_
 refine eth_e ?_
 refine eth_e ?_
 refine exit_here ?_
 refine AW.seq (D1 ?_)
 refine AW.block (AW.loop (fun (i : Nat) s => (i ≤ st.grp.length ∧ ∀ j (h : j < st.grp.length), j < i → st.grp[j].op = 2 ∧ fmB st.grp[j] = true) ∧ s = ⟨140, sp [(1, .lp 1 0), (2, .c (bC false)), (6, nX i)], lv [(1, .box (zSt st))], H⟩) (fun i => st.grp.length - i) 0 ⟨_, by exact wK 140, ⟨qZ _, up0⟩, rfl⟩ (fun i s hs => ?_))
 obtain ⟨⟨hi0, hUi⟩, rfl⟩ := hs
 refine AW.seq (D6 ?_)
 refine cD ?_ ?_ <;> intro h88
 ·
  have hi := oI h88
  have hgo := ok.go _ (qC hi)
  refine AW.skip (AW.seq (AW.block (D7 ?_)))
  refine Z17 ?_ ?_ <;> intro g98
  ·
   iterate 7 refine oF ?_
   refine G2 ?_
   refine AW.condT rfl ?_
   refine D1 ?_
   exact aR (f1 (q := ⟨_, rfl, fun h => (by cases h), rfl⟩))
  refine G5 ?_
  refine Z52 fn88 (rformed_any _ hgo) ?_
  refine G3 ?_
  refine AW.cond _ rfl (fun h106 => ?_) (fun h106 => ?_)
  ·
   refine D1 ?_
   exact aR (f1 (q := ⟨_, rfl, fun h => (by cases h), rfl⟩))
  refine AW.skip (B3 ?_)
  exact ⟨i + 1, _, by exact wK 140, by omega, ⟨hi, upS hi hUi (⟨by omega, bnf h106⟩)⟩, rfl⟩
 refine AW.exit ?_
 refine eth_e ?_
 refine eth_e ?_
 refine exit_here ?_
 refine AW.seq (AW.seq ?_)
 have A3 : ∀ j (h : j < st.grp.length), st.grp[j].op = 2 ∧ fmB st.grp[j] = true := (upE hUi (by (try rw [qA] at h88); omega))
 refine B1 ?_
 refine AW.block (AW.loop (fun (i : Nat) s => (i ≤ st.ord.length ∧ ∀ j (h : j < st.ord.length), j < i → 1 ≤ st.ord[j].it ∧ numP st.ord[j].it) ∧ s = ⟨140, sp [(1, .lp 1 0), (2, .c (bC false)), (7, nX i)], lv [(1, .box (zSt st))], H⟩) (fun i => st.ord.length - i) 0 ⟨_, by exact wK 140, ⟨qZ _, up0⟩, rfl⟩ (fun i s hs => ?_))
 obtain ⟨⟨hi0, hUi⟩, rfl⟩ := hs
 refine AW.seq (D6 ?_)
 refine cD ?_ ?_ <;> intro h111
 ·
  have hi := oI h111
  refine AW.skip (AW.seq (AW.block (D7 ?_)))
  refine Z17 ?_ ?_ <;> intro g121
  ·
   iterate 8 refine oF ?_
   refine G2 ?_
   refine AW.condT rfl ?_
   refine D1 ?_
   exact aR (f1 (q := ⟨_, rfl, fun h => (by cases h), rfl⟩))
  refine G4 ?_
  refine sO (q_fieldP _ rfl fl131_0 rfl rfl) ?_
  refine G1 ?_
  refine Z52 fn139 (number_any _) ?_
  refine G3 ?_
  refine AW.cond _ rfl (fun h130 => ?_) (fun h130 => ?_)
  ·
   refine D1 ?_
   exact aR (f1 (q := ⟨_, rfl, fun h => (by cases h), rfl⟩))
  refine AW.skip (B3 ?_)
  exact ⟨i + 1, _, by exact wK 140, by omega, ⟨hi, upS hi hUi (⟨by omega, jJ (bnf h130)⟩)⟩, rfl⟩
 refine AW.exit ?_
 refine eth_e ?_
 refine eth_e ?_
 refine exit_here ?_
 refine AW.seq ?_
 have A4 : ∀ j (h : j < st.ord.length), 1 ≤ st.ord[j].it ∧ numP st.ord[j].it := (upE hUi (by (try rw [qA] at h111); omega))
 refine B4 ?_
 refine Z17 ?_ ?_ <;> intro g135
 ·
  refine G2 ?_
  refine Z52 fn139 (number_any _) ?_
  refine G2 ?_
  exact aR (f1 (q := ⟨_, rfl, fun h => (by first | exact ⟨A1, A3, A4, jJ h⟩ | cases h), rfl⟩))
 iterate 3 refine oF ?_
 refine G2 ?_
 exact aR (f1 (q := ⟨_, rfl, fun h => (by first | exact ⟨A1, A3, A4, jJ h⟩ | cases h), rfl⟩))
theorem formed_q (st : St) (ok : okFm st) (H : Heap) : E.Spec Tryz.prog 49 [stC st] H fun x H' => ∃ b, x = .c (bC b) ∧ (b = true → frmS st) ∧ H' = H := by
 have htb := ok.tb
 have hnm := ok.nm
 have hvl := ok.vl
 have hsl := ok.sl
 have hil := ok.il
 have hfl := ok.fl
 have hgl := ok.gl
 have hol := ok.ol
 have hc1 := ok.cr.cl
 have hc2 := ok.cr.kl
 have hc3 := ok.cr.fl
 have hc4 := ok.cr.xl
 refine Spec.enter Tryz.func49 rfl ?_
 refine AW.wk (wK 169 (l := [(0, .c (stC st))]) (ll := []) (H := (H))) ?_
 refine D2 ?_
 refine D3 ?_
 refine D4 ?_
 refine Z4 (AW.seqM (fun s => ((st.k ≠ 1 → st.cr.cols.length + st.cr.keys.length + st.cr.fks.length + st.cr.chks.length = 0) ∧ (st.k ≠ 2 → st.vals.length = 0) ∧ (st.k ≠ 3 → st.sets.length = 0)) ∧ s = ⟨169, sp [(1, .lp 1 0), (2, .c (bC false)), (3, .c (iC st.k)), (4, .lp 4 0)], lv [(1, .box (zSt st)), (4, .box (zDn st.cr))], H⟩) ?_ ?_)
 ·
  refine D2 ?_
  refine Z17 ?_ ?_ <;> intro g13
  rotate_left
  ·
   iterate 16 refine oF ?_
   refine G4 ?_
   refine Z48 ?_ ?_ <;> intro g34
   ·
    refine G6 ?_
    refine Z17 ?_ ?_ <;> intro g41
    ·
     iterate 3 refine oF ?_
     iterate 4 refine oU ?_
     refine G3 ?_
     refine AW.condT rfl ?_
     refine D1 ?_
     exact aR (f1 (q := ⟨_, rfl, fun h => (by cases h), rfl⟩))
    refine G2 ?_
    refine Z48 ?_ ?_ <;> intro g44
    ·
     refine G7 ?_
     refine cD ?_ ?_ <;> intro h50
     ·
      refine D1 ?_
      exact aR (f1 (q := ⟨_, rfl, fun h => (by cases h), rfl⟩))
     refine AW.skip ?_
     exact ⟨_, by exact wK 169, by (try simp only [qA] at *); omega, rfl⟩
    iterate 4 refine oF ?_
    refine G3 ?_
    refine AW.condF rfl ?_
    refine AW.skip ?_
    exact ⟨_, by exact wK 169, by (try simp only [qA] at *); omega, rfl⟩
   iterate 4 refine oF ?_
   refine G5 ?_
   refine Z48 ?_ ?_ <;> intro g44
   ·
    refine G7 ?_
    refine cD ?_ ?_ <;> intro h50
    ·
     refine D1 ?_
     exact aR (f1 (q := ⟨_, rfl, fun h => (by cases h), rfl⟩))
    refine AW.skip ?_
    exact ⟨_, by exact wK 169, by (try simp only [qA] at *); omega, rfl⟩
   iterate 4 refine oF ?_
   refine G3 ?_
   refine AW.condF rfl ?_
   refine AW.skip ?_
   exact ⟨_, by exact wK 169, by (try simp only [qA] at *); omega, rfl⟩
  refine G6 ?_
  refine sO (q_add _ rfl rfl rfl ((by (try simp only [qA]); rw [w64 (by omega) (by omega)]; omega : IntKind.i64.wrap _ = ((st.cr.cols.length + st.cr.keys.length : Nat) : Int)))) ?_
  refine G3 ?_
  refine sO (q_add _ rfl rfl rfl ((by (try simp only [qA]); rw [w64 (by omega) (by omega)]; omega : IntKind.i64.wrap _ = ((st.cr.cols.length + st.cr.keys.length + st.cr.fks.length : Nat) : Int)))) ?_
  refine G3 ?_
  refine sO (q_add _ rfl rfl rfl ((by (try simp only [qA]); rw [w64 (by omega) (by omega)]; omega : IntKind.i64.wrap _ = ((st.cr.cols.length + st.cr.keys.length + st.cr.fks.length + st.cr.chks.length : Nat) : Int)))) ?_
  refine G2 ?_
  refine Z17 ?_ ?_ <;> intro g31
  ·
   iterate 3 refine oF ?_
   iterate 4 refine oU ?_
   refine G3 ?_
   iterate 3 refine oF ?_
   iterate 4 refine oU ?_
   refine G3 ?_
   refine AW.condT rfl ?_
   refine D1 ?_
   exact aR (f1 (q := ⟨_, rfl, fun h => (by cases h), rfl⟩))
  refine G2 ?_
  refine Z48 ?_ ?_ <;> intro g34
  ·
   refine G6 ?_
   refine Z17 ?_ ?_ <;> intro g41
   ·
    iterate 3 refine oF ?_
    iterate 4 refine oU ?_
    refine G3 ?_
    refine AW.condT rfl ?_
    refine D1 ?_
    exact aR (f1 (q := ⟨_, rfl, fun h => (by cases h), rfl⟩))
   refine G2 ?_
   refine Z48 ?_ ?_ <;> intro g44
   ·
    refine G7 ?_
    refine cD ?_ ?_ <;> intro h50
    ·
     refine D1 ?_
     exact aR (f1 (q := ⟨_, rfl, fun h => (by cases h), rfl⟩))
    refine AW.skip ?_
    exact ⟨_, by exact wK 169, by (try simp only [qA] at *); omega, rfl⟩
   iterate 4 refine oF ?_
   refine G3 ?_
   refine AW.condF rfl ?_
   refine AW.skip ?_
   exact ⟨_, by exact wK 169, by (try simp only [qA] at *); omega, rfl⟩
  iterate 4 refine oF ?_
  refine G5 ?_
  refine Z48 ?_ ?_ <;> intro g44
  ·
   refine G7 ?_
   refine cD ?_ ?_ <;> intro h50
   ·
    refine D1 ?_
    exact aR (f1 (q := ⟨_, rfl, fun h => (by cases h), rfl⟩))
   refine AW.skip ?_
   exact ⟨_, by exact wK 169, by (try simp only [qA] at *); omega, rfl⟩
  iterate 4 refine oF ?_
  refine G3 ?_
  refine AW.condF rfl ?_
  refine AW.skip ?_
  exact ⟨_, by exact wK 169, by (try simp only [qA] at *); omega, rfl⟩
 rintro s ⟨A1, rfl⟩
 refine AW.seqM (fun s => (st.k ≠ 5 → st.its.length + st.frm.length + st.grp.length + st.ord.length = 0) ∧ s = ⟨169, sp [(1, .lp 1 0), (2, .c (bC false)), (3, .c (iC st.k)), (4, .lp 4 0)], lv [(1, .box (zSt st)), (4, .box (zDn st.cr))], H⟩) ?_ ?_
 ·
  refine D2 ?_
  refine Z17 ?_ ?_ <;> intro g53
  rotate_left
  ·
   iterate 17 refine oF ?_
   iterate 3 refine oU ?_
   refine G3 ?_
   refine AW.condF rfl ?_
   refine AW.skip ?_
   exact ⟨_, by exact wK 169, by (try simp only [qA] at *); omega, rfl⟩
  refine G6 ?_
  refine sO (q_add _ rfl rfl rfl ((by (try simp only [qA]); rw [w64 (by omega) (by omega)]; omega : IntKind.i64.wrap _ = ((st.its.length + st.frm.length : Nat) : Int)))) ?_
  refine G3 ?_
  refine sO (q_add _ rfl rfl rfl ((by (try simp only [qA]); rw [w64 (by omega) (by omega)]; omega : IntKind.i64.wrap _ = ((st.its.length + st.frm.length + st.grp.length : Nat) : Int)))) ?_
  refine G3 ?_
  refine sO (q_add _ rfl rfl rfl ((by (try simp only [qA]); rw [w64 (by omega) (by omega)]; omega : IntKind.i64.wrap _ = ((st.its.length + st.frm.length + st.grp.length + st.ord.length : Nat) : Int)))) ?_
  refine Z30 ?_
  refine Z48 ?_ ?_ <;> intro g70
  ·
   iterate 3 refine oF ?_
   refine G3 ?_
   refine AW.condT rfl ?_
   refine D1 ?_
   exact aR (f1 (q := ⟨_, rfl, fun h => (by cases h), rfl⟩))
  refine G6 ?_
  refine cD ?_ ?_ <;> intro h75
  ·
   refine D1 ?_
   exact aR (f1 (q := ⟨_, rfl, fun h => (by cases h), rfl⟩))
  refine AW.skip ?_
  exact ⟨_, by exact wK 169, by (try simp only [qA] at *); omega, rfl⟩
 rintro s ⟨A2, rfl⟩
 refine AW.seqM (fun s => s = ⟨169, sp [(1, .lp 1 0), (2, .c (bC false)), (3, .c (iC st.k)), (4, .lp 4 0), (5, .c (bC (decide (1 ≤ st.k ∧ st.k ≤ 4)))), (6, .c (bC (decide (9 ≤ st.k ∧ st.k ≤ 11))))], lv [(1, .box (zSt st)), (4, .box (zDn st.cr))], H⟩) ?_ ?_
 ·
  refine B2 ?_
  refine Z17 ?_ ?_ <;> intro g78
  ·
   refine G5 ?_
   refine Z17 ?_ ?_ <;> intro g84
   ·
    refine G5 ?_
    exact ⟨_, by exact Wk.keep 169 _ _ _ rfl ⟨rfl, rfl, rfl, rfl, bCe (by first | exact (jH (by omega)).symm | exact (jI (by omega)).symm | exact dcE (by omega)), bCe (by first | exact (jH (by omega)).symm | exact (jI (by omega)).symm | exact dcE (by omega)), trivial⟩ ⟨rfl, rfl, trivial⟩ (fun _ _ h => h) rfl, rfl⟩
   iterate 2 refine oF ?_
   refine G3 ?_
   exact ⟨_, by exact Wk.keep 169 _ _ _ rfl ⟨rfl, rfl, rfl, rfl, bCe (by first | exact (jH (by omega)).symm | exact (jI (by omega)).symm | exact dcE (by omega)), bCe (by first | exact (jH (by omega)).symm | exact (jI (by omega)).symm | exact dcE (by omega)), trivial⟩ ⟨rfl, rfl, trivial⟩ (fun _ _ h => h) rfl, rfl⟩
  iterate 2 refine oF ?_
  refine G3 ?_
  refine Z17 ?_ ?_ <;> intro g84
  ·
   refine G5 ?_
   exact ⟨_, by exact Wk.keep 169 _ _ _ rfl ⟨rfl, rfl, rfl, rfl, bCe (by first | exact (jH (by omega)).symm | exact (jI (by omega)).symm | exact dcE (by omega)), bCe (by first | exact (jH (by omega)).symm | exact (jI (by omega)).symm | exact dcE (by omega)), trivial⟩ ⟨rfl, rfl, trivial⟩ (fun _ _ h => h) rfl, rfl⟩
  iterate 2 refine oF ?_
  refine G3 ?_
  exact ⟨_, by exact Wk.keep 169 _ _ _ rfl ⟨rfl, rfl, rfl, rfl, bCe (by first | exact (jH (by omega)).symm | exact (jI (by omega)).symm | exact dcE (by omega)), bCe (by first | exact (jH (by omega)).symm | exact (jI (by omega)).symm | exact dcE (by omega)), trivial⟩ ⟨rfl, rfl, trivial⟩ (fun _ _ h => h) rfl, rfl⟩
 rintro s rfl
 refine AW.seqM (fun s => s = ⟨169, sp [(1, .lp 1 0), (2, .c (bC false)), (3, .c (iC st.k)), (4, .lp 4 0)], lv [(1, .box (zSt st)), (4, .box (zDn st.cr))], H⟩) ?_ ?_
 ·
  refine D1 ?_
  refine Z53 ?_ ?_ <;> intro g89
  rotate_left
  ·
   iterate 4 refine oF ?_
   refine G4 ?_
   refine SeqK.onB (q_mvC rfl rfl) rfl rfl rfl rfl rfl (fun g98 => ?_) (fun g98 => ?_)
   ·
    refine G2 ?_
    refine sO (q_neqS rfl rfl rfl) ?_
    refine G2 ?_
    refine Z17 ?_ ?_ <;> intro g104
    ·
     iterate 2 refine oF ?_
     iterate 4 refine oU ?_
     refine G3 ?_
     iterate 3 refine oF ?_
     iterate 3 refine oU ?_
     refine G3 ?_
     refine AW.condT rfl ?_
     refine D1 ?_
     exact aR (f1 (q := ⟨_, rfl, fun h => (by cases h), rfl⟩))
    refine Z14 ?_
    refine SeqK.onB (q_mvC rfl rfl) rfl rfl rfl rfl rfl (fun g106 => ?_) (fun g106 => ?_)
    ·
     refine G2 ?_
     refine sO (q_call _ rfl fn86 rfl (rname_any _ (by omega)) rfl) ?_
     refine G3 ?_
     refine Z53 ?_ ?_ <;> intro g113
     ·
      iterate 3 refine oF ?_
      iterate 3 refine oU ?_
      refine G3 ?_
      refine AW.condT rfl ?_
      refine D1 ?_
      exact aR (f1 (q := ⟨_, rfl, fun h => (by cases h), rfl⟩))
     refine G2 ?_
     refine SeqK.onB (q_mvC rfl rfl) rfl rfl rfl rfl rfl (fun g116 => ?_) (fun g116 => ?_)
     ·
      refine G2 ?_
      refine sO (q_neqS rfl rfl rfl) ?_
      refine G3 ?_
      refine cD ?_ ?_ <;> intro h121
      ·
       refine D1 ?_
       exact aR (f1 (q := ⟨_, rfl, fun h => (by cases h), rfl⟩))
      refine AW.skip ?_
      exact ⟨_, by exact wK 169, rfl⟩
     iterate 3 refine oF ?_
     refine G3 ?_
     refine AW.condF rfl ?_
     refine AW.skip ?_
     exact ⟨_, by exact wK 169, rfl⟩
    iterate 4 refine oF ?_
    refine G5 ?_
    refine SeqK.onB (q_mvC rfl rfl) rfl rfl rfl rfl rfl (fun g116 => ?_) (fun g116 => ?_)
    ·
     refine G2 ?_
     refine sO (q_neqS rfl rfl rfl) ?_
     refine G3 ?_
     refine cD ?_ ?_ <;> intro h121
     ·
      refine D1 ?_
      exact aR (f1 (q := ⟨_, rfl, fun h => (by cases h), rfl⟩))
     refine AW.skip ?_
     exact ⟨_, by exact wK 169, rfl⟩
    iterate 3 refine oF ?_
    refine G3 ?_
    refine AW.condF rfl ?_
    refine AW.skip ?_
    exact ⟨_, by exact wK 169, rfl⟩
   iterate 3 refine oF ?_
   refine G4 ?_
   refine SeqK.onB (q_mvC rfl rfl) rfl rfl rfl rfl rfl (fun g106 => ?_) (fun g106 => ?_)
   ·
    refine G2 ?_
    refine sO (q_call _ rfl fn86 rfl (rname_any _ (by omega)) rfl) ?_
    refine G3 ?_
    refine Z53 ?_ ?_ <;> intro g113
    ·
     iterate 3 refine oF ?_
     iterate 3 refine oU ?_
     refine G3 ?_
     refine AW.condT rfl ?_
     refine D1 ?_
     exact aR (f1 (q := ⟨_, rfl, fun h => (by cases h), rfl⟩))
    refine G2 ?_
    refine SeqK.onB (q_mvC rfl rfl) rfl rfl rfl rfl rfl (fun g116 => ?_) (fun g116 => ?_)
    ·
     refine G2 ?_
     refine sO (q_neqS rfl rfl rfl) ?_
     refine G3 ?_
     refine cD ?_ ?_ <;> intro h121
     ·
      refine D1 ?_
      exact aR (f1 (q := ⟨_, rfl, fun h => (by cases h), rfl⟩))
     refine AW.skip ?_
     exact ⟨_, by exact wK 169, rfl⟩
    iterate 3 refine oF ?_
    refine G3 ?_
    refine AW.condF rfl ?_
    refine AW.skip ?_
    exact ⟨_, by exact wK 169, rfl⟩
   iterate 4 refine oF ?_
   refine G5 ?_
   refine SeqK.onB (q_mvC rfl rfl) rfl rfl rfl rfl rfl (fun g116 => ?_) (fun g116 => ?_)
   ·
    refine G2 ?_
    refine sO (q_neqS rfl rfl rfl) ?_
    refine G3 ?_
    refine cD ?_ ?_ <;> intro h121
    ·
     refine D1 ?_
     exact aR (f1 (q := ⟨_, rfl, fun h => (by cases h), rfl⟩))
    refine AW.skip ?_
    exact ⟨_, by exact wK 169, rfl⟩
   iterate 3 refine oF ?_
   refine G3 ?_
   refine AW.condF rfl ?_
   refine AW.skip ?_
   exact ⟨_, by exact wK 169, rfl⟩
  refine G2 ?_
  refine sO (q_call _ rfl fn86 rfl (rname_any _ (by omega)) rfl) ?_
  refine G2 ?_
  refine Z53 ?_ ?_ <;> intro g95
  ·
   iterate 3 refine oF ?_
   iterate 3 refine oU ?_
   refine G3 ?_
   iterate 2 refine oF ?_
   iterate 4 refine oU ?_
   refine G3 ?_
   iterate 3 refine oF ?_
   iterate 3 refine oU ?_
   refine G3 ?_
   refine AW.condT rfl ?_
   refine D1 ?_
   exact aR (f1 (q := ⟨_, rfl, fun h => (by cases h), rfl⟩))
  refine G2 ?_
  refine SeqK.onB (q_mvC rfl rfl) rfl rfl rfl rfl rfl (fun g98 => ?_) (fun g98 => ?_)
  ·
   refine G2 ?_
   refine sO (q_neqS rfl rfl rfl) ?_
   refine G2 ?_
   refine Z17 ?_ ?_ <;> intro g104
   ·
    iterate 2 refine oF ?_
    iterate 4 refine oU ?_
    refine G3 ?_
    iterate 3 refine oF ?_
    iterate 3 refine oU ?_
    refine G3 ?_
    refine AW.condT rfl ?_
    refine D1 ?_
    exact aR (f1 (q := ⟨_, rfl, fun h => (by cases h), rfl⟩))
   refine Z14 ?_
   refine SeqK.onB (q_mvC rfl rfl) rfl rfl rfl rfl rfl (fun g106 => ?_) (fun g106 => ?_)
   ·
    refine G2 ?_
    refine sO (q_call _ rfl fn86 rfl (rname_any _ (by omega)) rfl) ?_
    refine G3 ?_
    refine Z53 ?_ ?_ <;> intro g113
    ·
     iterate 3 refine oF ?_
     iterate 3 refine oU ?_
     refine G3 ?_
     refine AW.condT rfl ?_
     refine D1 ?_
     exact aR (f1 (q := ⟨_, rfl, fun h => (by cases h), rfl⟩))
    refine G2 ?_
    refine SeqK.onB (q_mvC rfl rfl) rfl rfl rfl rfl rfl (fun g116 => ?_) (fun g116 => ?_)
    ·
     refine G2 ?_
     refine sO (q_neqS rfl rfl rfl) ?_
     refine G3 ?_
     refine cD ?_ ?_ <;> intro h121
     ·
      refine D1 ?_
      exact aR (f1 (q := ⟨_, rfl, fun h => (by cases h), rfl⟩))
     refine AW.skip ?_
     exact ⟨_, by exact wK 169, rfl⟩
    iterate 3 refine oF ?_
    refine G3 ?_
    refine AW.condF rfl ?_
    refine AW.skip ?_
    exact ⟨_, by exact wK 169, rfl⟩
   iterate 4 refine oF ?_
   refine G5 ?_
   refine SeqK.onB (q_mvC rfl rfl) rfl rfl rfl rfl rfl (fun g116 => ?_) (fun g116 => ?_)
   ·
    refine G2 ?_
    refine sO (q_neqS rfl rfl rfl) ?_
    refine G3 ?_
    refine cD ?_ ?_ <;> intro h121
    ·
     refine D1 ?_
     exact aR (f1 (q := ⟨_, rfl, fun h => (by cases h), rfl⟩))
    refine AW.skip ?_
    exact ⟨_, by exact wK 169, rfl⟩
   iterate 3 refine oF ?_
   refine G3 ?_
   refine AW.condF rfl ?_
   refine AW.skip ?_
   exact ⟨_, by exact wK 169, rfl⟩
  iterate 3 refine oF ?_
  refine G4 ?_
  refine SeqK.onB (q_mvC rfl rfl) rfl rfl rfl rfl rfl (fun g106 => ?_) (fun g106 => ?_)
  ·
   refine G2 ?_
   refine sO (q_call _ rfl fn86 rfl (rname_any _ (by omega)) rfl) ?_
   refine G3 ?_
   refine Z53 ?_ ?_ <;> intro g113
   ·
    iterate 3 refine oF ?_
    iterate 3 refine oU ?_
    refine G3 ?_
    refine AW.condT rfl ?_
    refine D1 ?_
    exact aR (f1 (q := ⟨_, rfl, fun h => (by cases h), rfl⟩))
   refine G2 ?_
   refine SeqK.onB (q_mvC rfl rfl) rfl rfl rfl rfl rfl (fun g116 => ?_) (fun g116 => ?_)
   ·
    refine G2 ?_
    refine sO (q_neqS rfl rfl rfl) ?_
    refine G3 ?_
    refine cD ?_ ?_ <;> intro h121
    ·
     refine D1 ?_
     exact aR (f1 (q := ⟨_, rfl, fun h => (by cases h), rfl⟩))
    refine AW.skip ?_
    exact ⟨_, by exact wK 169, rfl⟩
   iterate 3 refine oF ?_
   refine G3 ?_
   refine AW.condF rfl ?_
   refine AW.skip ?_
   exact ⟨_, by exact wK 169, rfl⟩
  iterate 4 refine oF ?_
  refine G5 ?_
  refine SeqK.onB (q_mvC rfl rfl) rfl rfl rfl rfl rfl (fun g116 => ?_) (fun g116 => ?_)
  ·
   refine G2 ?_
   refine sO (q_neqS rfl rfl rfl) ?_
   refine G3 ?_
   refine cD ?_ ?_ <;> intro h121
   ·
    refine D1 ?_
    exact aR (f1 (q := ⟨_, rfl, fun h => (by cases h), rfl⟩))
   refine AW.skip ?_
   exact ⟨_, by exact wK 169, rfl⟩
  iterate 3 refine oF ?_
  refine G3 ?_
  refine AW.condF rfl ?_
  refine AW.skip ?_
  exact ⟨_, by exact wK 169, rfl⟩
 rintro s rfl
 refine AW.seqM (fun s => (st.wh.op ≠ 0 → fmB st.wh = true) ∧ s = ⟨169, sp [(1, .lp 1 0), (2, .c (bC false)), (3, .c (iC st.k)), (4, .lp 4 0)], lv [(1, .box (zSt st)), (4, .box (zDn st.cr))], H⟩) ?_ ?_
 ·
  refine D2 ?_
  refine sQ (q_call _ rfl fn87 rfl (absent_any _ (by have := (okE_iff.1 ok.wo).1.2.2.2; omega)) rfl) ?_
  refine Z38 ?_
  refine Z53 ?_ ?_ <;> intro g126
  rotate_left
  ·
   iterate 3 refine oF ?_
   iterate 2 refine oU ?_
   iterate 2 refine oF ?_
   iterate 4 refine oU ?_
   refine G3 ?_
   refine AW.condF rfl ?_
   refine AW.skip ?_
   exact ⟨_, by exact wK 169, by first | exact fun h => absurd (jJ (bnf g126)).1 h | exact fun _ => bnf h139, rfl⟩
  refine Z14 ?_
  refine sO (q_lss rfl rfl rfl) ?_
  refine Z48 ?_ ?_ <;> intro g129
  ·
   iterate 2 refine oF ?_
   refine G2 ?_
   iterate 4 refine oF ?_
   refine G3 ?_
   refine AW.condT rfl ?_
   refine D1 ?_
   exact aR (f1 (q := ⟨_, rfl, fun h => (by cases h), rfl⟩))
  refine G3 ?_
  refine Z48 ?_ ?_ <;> intro g133
  ·
   iterate 4 refine oF ?_
   refine G3 ?_
   refine AW.condT rfl ?_
   refine D1 ?_
   exact aR (f1 (q := ⟨_, rfl, fun h => (by cases h), rfl⟩))
  refine G2 ?_
  refine Z52 fn88 (rformed_any _ ok.wo) ?_
  refine G4 ?_
  refine AW.cond _ rfl (fun h139 => ?_) (fun h139 => ?_)
  ·
   refine D1 ?_
   exact aR (f1 (q := ⟨_, rfl, fun h => (by cases h), rfl⟩))
  refine AW.skip ?_
  exact ⟨_, by exact wK 169, by first | exact fun h => absurd (jJ (bnf g126)).1 h | exact fun _ => bnf h139, rfl⟩
 rintro s ⟨A3, rfl⟩
 refine AW.seq (D2 ?_)
 refine AW.block (D2 ?_)
 refine cD ?_ ?_ <;> intro h141
 ·
  refine D1 ?_
  refine Z16 fn89 (create_q _ ok.cr) ?_
  refine sB ?_
  exact aR (f1 (q := ⟨_, rfl, fun h => ⟨(by omega), A1, A2, A3, fun _ => jJ h, fun k => by omega, fun k => by omega, fun k => by omega⟩, rfl⟩))
 refine D2 ?_
 refine cD ?_ ?_ <;> intro h145
 ·
  refine D2 ?_
  refine Z16 fn90 (insert_q _ _ ok.vl ok.vo) ?_
  refine sB ?_
  exact aR (f1 (q := ⟨_, rfl, fun h => ⟨(by omega), A1, A2, A3, fun k => by omega, fun _ => jJ h, fun k => by omega, fun k => by omega⟩, rfl⟩))
 refine D2 ?_
 refine cD ?_ ?_ <;> intro h150
 ·
  refine D2 ?_
  refine Z16 fn91 (sets_q _ _ ok.sl ok.so) ?_
  refine sB ?_
  exact aR (f1 (q := ⟨_, rfl, fun h => ⟨(by omega), A1, A2, A3, fun k => by omega, fun k => by omega, fun _ => jJ h, fun k => by omega⟩, rfl⟩))
 refine D2 ?_
 refine cD ?_ ?_ <;> intro h155
 ·
  refine D1 ?_
  refine SeqK.callE rfl rfl rfl rfl fn92 rfl (query_q st ok _) (fun _ _ h => by obtain ⟨_, h, _⟩ := h; rw [h]; rfl) (fun x158 H158 q158 => ?_)
  obtain ⟨b158, rfl, hb158, e158⟩ := q158
  replace e158 := e158.symm
  subst e158
  refine sB ?_
  exact aR (f1 (q := ⟨_, rfl, fun h => ⟨(by omega), A1, A2, A3, fun k => by omega, fun k => by omega, fun k => by omega, fun _ => hb158 h⟩, rfl⟩))
 refine AW.skip (D2 ?_)
 refine Z17 ?_ ?_ <;> intro g161
 ·
  iterate 3 refine oF ?_
  iterate 2 refine oU ?_
  refine G3 ?_
  exact aR (f1 (q := ⟨_, rfl, fun h => ⟨(by first | omega | (have := jJ h; omega) | cases h), A1, A2, A3, fun k => by omega, fun k => by omega, fun k => by omega, fun k => by omega⟩, rfl⟩))
 refine Z14 ?_
 refine sO (q_geq rfl rfl rfl) ?_
 refine Z48 ?_ ?_ <;> intro g164
 ·
  refine G5 ?_
  exact aR (f1 (q := ⟨_, rfl, fun h => ⟨(by first | omega | (have := jJ h; omega) | cases h), A1, A2, A3, fun k => by omega, fun k => by omega, fun k => by omega, fun k => by omega⟩, rfl⟩))
 iterate 2 refine oF ?_
 refine G3 ?_
 exact aR (f1 (q := ⟨_, rfl, fun h => ⟨(by first | omega | (have := jJ h; omega) | cases h), A1, A2, A3, fun k => by omega, fun k => by omega, fun k => by omega, fun k => by omega⟩, rfl⟩))
end Go.Proofs.YtgnnjebfoffphaaGreatDoor.W
