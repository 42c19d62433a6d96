import Derived.Test.YtgnnjebfoffphaaGreatDoorM20
set_option maxRecDepth 20000
set_option maxHeartbeats 8000000
set_option linter.unusedSectionVars false
set_option linter.unusedSimpArgs false
set_option linter.unusedVariables false
namespace Go.Proofs.YtgnnjebfoffphaaGreatDoor.W
open Fx
open Go.RowKit E M
open Q
def rfW (f : Rf) : Nat := wdN f.cols + f.tab.size + wdN f.tgt
def n0S (st : St) : Nat := st.tb.size + st.nm.size + st.vals.length + st.frm.length + st.ord.length + st.cr.cols.length + st.cr.keys.length + st.cr.fks.length
def frZ (f : Fr) : Nat := f.tb.size + f.al.size
def asZ (a : As) : Nat := a.col.size
def coZ (c : Co) : Nat := c.nm.size
def n1S (st : St) : Nat := n0S st + smL wgE (allX st)
def n2S (st : St) : Nat := n1S st + smL asZ st.sets
def n3S (st : St) : Nat := n2S st + smL frZ st.frm
def n4S (st : St) : Nat := n3S st + smL coZ st.cr.cols
def n5S (st : St) : Nat := n4S st + smL wdN st.cr.keys
def n6S (st : St) : Nat := n5S st + smL rfW st.cr.fks
def smB (st : St) : Bool := decide (n0S st ≤ 200) && decide (n6S st ≤ 1200)
theorem smB_f {st : St} (h : 200 < n0S st) : false = smB st := by unfold smB; rw [jI (by omega), Bool.false_and]
theorem smB_t {st : St} (h : n0S st ≤ 200) {b : Bool} (hb : b = decide (n6S st ≤ 1200)) : b = smB st := by unfold smB; rw [jH h, Bool.true_and, hb]
structure okSm (st : St) : Prop where
  hv : st.vals.length ≤ 2000000
  hb : (allX st).length ≤ 2000000
  hw : ∀ e ∈ allX st, wtE e ≤ 4000000
  hn : n6S st ≤ 4000000
abbrev zDn (x : Dn) : List A := [.t (.sl .un 6 (x.cols.map coT)), .t (.sl .un 1 (x.keys.map sLT)), .t (.sl .un 3 (x.fks.map rfT)), .t (.sl .un 8 (x.chks.map exT'))]
theorem small21_any (st : St) (ok : okSm st) : Pu 21 [stC st] (.c (bC (smB st))) := by
 have hbb := ok.hb
 have hsl : st.sets.length ≤ 2000000 := by
  have b1 := al_le ok.hb
  have b2 := (x3_le (st := st) st.its.length).1
  have b3 := (x2_le (st := st) st.sets.length).2
  have b4 := x2_n (st := st)
  omega
 have h6 := ok.hn
 unfold n6S at h6
 have q0 : n0S st = st.tb.size + st.nm.size + st.vals.length + st.frm.length + st.ord.length + st.cr.cols.length + st.cr.keys.length + st.cr.fks.length := rfl
 have q1 : n1S st = n0S st + smL wgE (allX st) := rfl
 have q2 : n2S st = n1S st + smL asZ st.sets := rfl
 have q3 : n3S st = n2S st + smL frZ st.frm := rfl
 have q4 : n4S st = n3S st + smL coZ st.cr.cols := rfl
 have q5 : n5S st = n4S st + smL wdN st.cr.keys := rfl
 have q6 : n6S st = n5S st + smL rfW st.cr.fks := rfl
 intro H
 refine Spec.enter Tryz.func21 rfl ?_
 refine AW.wk (wK 167 (l := [(0, .c (stC st))]) (ll := []) (H := (H))) ?_
 refine D2 ?_
 refine D5 ?_
 refine D6 ?_
 refine sQ (q_add _ rfl rfl rfl ((by (try simp only [qA]); rw [w64 (by omega) (by omega)]; omega : IntKind.i64.wrap _ = ((st.tb.size + st.nm.size : Nat) : Int)))) ?_
 refine G3 ?_
 refine sQ (q_add _ rfl rfl rfl ((by (try simp only [qA]); rw [w64 (by omega) (by omega)]; omega : IntKind.i64.wrap _ = ((st.tb.size + st.nm.size + st.vals.length : Nat) : Int)))) ?_
 refine G3 ?_
 refine sQ (q_add _ rfl rfl rfl ((by (try simp only [qA]); rw [w64 (by omega) (by omega)]; omega : IntKind.i64.wrap _ = ((st.tb.size + st.nm.size + st.vals.length + st.frm.length : Nat) : Int)))) ?_
 refine G3 ?_
 refine sQ (q_add _ rfl rfl rfl ((by (try simp only [qA]); rw [w64 (by omega) (by omega)]; omega : IntKind.i64.wrap _ = ((st.tb.size + st.nm.size + st.vals.length + st.frm.length + st.ord.length : Nat) : Int)))) ?_
 refine G3 ?_
 refine sQ (q_add _ rfl rfl rfl ((by (try simp only [qA]); rw [w64 (by omega) (by omega)]; omega : IntKind.i64.wrap _ = ((st.tb.size + st.nm.size + st.vals.length + st.frm.length + st.ord.length + st.cr.cols.length : Nat) : Int)))) ?_
 refine G3 ?_
 refine sQ (q_add _ rfl rfl rfl ((by (try simp only [qA]); rw [w64 (by omega) (by omega)]; omega : IntKind.i64.wrap _ = ((st.tb.size + st.nm.size + st.vals.length + st.frm.length + st.ord.length + st.cr.cols.length + st.cr.keys.length : Nat) : Int)))) ?_
 refine G3 ?_
 refine sQ (q_add _ rfl rfl rfl ((by (try simp only [qA]); rw [w64 (by omega) (by omega)]; omega : IntKind.i64.wrap _ = ((st.tb.size + st.nm.size + st.vals.length + st.frm.length + st.ord.length + st.cr.cols.length + st.cr.keys.length + st.cr.fks.length : Nat) : Int)))) ?_
 refine sB ?_
 refine AW.seq (D3 ?_)
 refine cD ?_ ?_ <;> intro h46
 ·
  refine D1 ?_
  exact aR (fE (e := bCe (smB_f (by (try simp only [qA] at *); omega))))
 refine AW.skip (D1 ?_)
 refine Z16 fn44 (exprs_any st ok.hv ok.hb) ?_
 refine sB ?_
 refine AW.seq (D1 ?_)
 refine AW.block (AW.loop (fun (i : Nat) s => ∃ (n : Nat), (i ≤ (allX st).length ∧ n = n0S st + smL wgE ((allX st).take i)) ∧ s = ⟨167, sp [(1, .lp 1 0), (2, .c (bC false)), (3, .lp 3 0), (4, nX n), (5, .c (exsC .un (allX st))), (6, nX i)], lv [(1, .box (zSt st)), (3, .box (zDn st.cr))], H⟩) (fun i => (allX st).length - i) 0 ⟨_, by exact wK 167, n0S st, ⟨qZ _, by simp [smL]⟩, rfl⟩ (fun i s hs => ?_))
 obtain ⟨n, ⟨hi0, hn⟩, rfl⟩ := hs
 refine AW.seq (D5 ?_)
 refine cD ?_ ?_ <;> intro h52
 ·
  have hi := oI h52
  have htk := smL_put (f := wgE) hi
  have htl := smL_tk (f := wgE) (l := (allX st)) (i := i + 1)
  have hem := smL_mem (f := wgE) (qC hi)
  refine AW.skip (AW.seq (AW.block (B5 ?_)))
  refine Z16 fn45 (weight_any _ (ok.hw _ (qC hi))) ?_
  refine sQ (q_add _ rfl rfl rfl ((by rw [w64 (by omega) (by omega)]; omega : IntKind.i64.wrap _ = ((n + wgE (allX st)[i] : Nat) : Int)))) ?_
  refine sB ?_
  refine B3 ?_
  exact ⟨i + 1, _, by exact wK 167, by omega, n + wgE (allX st)[i], ⟨hi, by rw [hn, smL_put hi]; omega⟩, rfl⟩
 refine AW.exit ?_
 refine eth_e ?_
 refine eth_e ?_
 refine exit_here ?_
 refine AW.seq (D1 ?_)
 obtain rfl : n = n1S st := by rw [hn, qU (by rw [qA] at h52; omega)]; try rfl
 refine AW.block (AW.loop (fun (i : Nat) s => ∃ (n : Nat), (i ≤ st.sets.length ∧ n = n1S st + smL asZ (st.sets.take i)) ∧ s = ⟨167, sp [(1, .lp 1 0), (2, .c (bC false)), (3, .lp 3 0), (4, nX n), (7, nX i)], lv [(1, .box (zSt st)), (3, .box (zDn st.cr))], H⟩) (fun i => st.sets.length - i) 0 ⟨_, by exact wK 167, n1S st, ⟨qZ _, by simp [smL]⟩, rfl⟩ (fun i s hs => ?_))
 obtain ⟨n, ⟨hi0, hn⟩, rfl⟩ := hs
 refine AW.seq (D6 ?_)
 refine cD ?_ ?_ <;> intro h66
 ·
  have hi := oI h66
  have htk := smL_put (f := asZ) hi
  have htl := smL_tk (f := asZ) (l := st.sets) (i := i + 1)
  have hem := smL_mem (f := asZ) (qC hi)
  have hz : asZ st.sets[i] = st.sets[i].col.size := rfl
  refine AW.skip (AW.seq (AW.block (B8 ?_)))
  refine sQ (q_add _ rfl rfl rfl ((by rw [w64 (by omega) (by omega)]; omega : IntKind.i64.wrap _ = ((n + asZ st.sets[i] : Nat) : Int)))) ?_
  refine sB ?_
  refine B3 ?_
  exact ⟨i + 1, _, by exact wK 167, by omega, n + asZ st.sets[i], ⟨hi, by rw [hn, smL_put hi]; omega⟩, rfl⟩
 refine AW.exit ?_
 refine eth_e ?_
 refine eth_e ?_
 refine exit_here ?_
 refine AW.seq (D1 ?_)
 obtain rfl : n = n2S st := by rw [hn, qU (by rw [qA] at h66; omega)]; try rfl
 refine AW.block (AW.loop (fun (i : Nat) s => ∃ (n : Nat), (i ≤ st.frm.length ∧ n = n2S st + smL frZ (st.frm.take i)) ∧ s = ⟨167, sp [(1, .lp 1 0), (2, .c (bC false)), (3, .lp 3 0), (4, nX n), (8, nX i)], lv [(1, .box (zSt st)), (3, .box (zDn st.cr))], H⟩) (fun i => st.frm.length - i) 0 ⟨_, by exact wK 167, n2S st, ⟨qZ _, by simp [smL]⟩, rfl⟩ (fun i s hs => ?_))
 obtain ⟨n, ⟨hi0, hn⟩, rfl⟩ := hs
 refine AW.seq (D6 ?_)
 refine cD ?_ ?_ <;> intro h82
 ·
  have hi := oI h82
  have htk := smL_put (f := frZ) hi
  have htl := smL_tk (f := frZ) (l := st.frm) (i := i + 1)
  have hem := smL_mem (f := frZ) (qC hi)
  have hz : frZ st.frm[i] = st.frm[i].tb.size + st.frm[i].al.size := rfl
  refine AW.skip (AW.seq (AW.block (AW.draw mo ?_)))
  refine N5 ?_
  refine lQ (q_fieldP _ rfl fl65_0 rfl rfl) ?_
  refine N1 ?_
  refine lQ (q_lenS rfl un9 rfl) ?_
  refine N4 ?_
  refine lQ (q_fieldP _ rfl fl65_1 rfl rfl) ?_
  refine N1 ?_
  refine lQ (q_lenS rfl un9 rfl) ?_
  refine lQ (q_add _ rfl rfl rfl ((by rw [w64 (by omega) (by omega)]; omega : IntKind.i64.wrap _ = ((frZ st.frm[i] : Nat) : Int)))) ?_
  refine lQ (q_add _ rfl rfl rfl ((by rw [w64 (by omega) (by omega)]; omega : IntKind.i64.wrap _ = ((n + frZ st.frm[i] : Nat) : Int)))) ?_
  refine N2 ?_
  refine B3 ?_
  exact ⟨i + 1, _, by exact wK 167, by omega, n + frZ st.frm[i], ⟨hi, by rw [hn, smL_put hi]; omega⟩, rfl⟩
 refine AW.exit ?_
 refine eth_e ?_
 refine eth_e ?_
 refine exit_here ?_
 refine AW.seq (D1 ?_)
 obtain rfl : n = n3S st := by rw [hn, qU (by rw [qA] at h82; omega)]; try rfl
 refine AW.block (AW.loop (fun (i : Nat) s => ∃ (n : Nat), (i ≤ st.cr.cols.length ∧ n = n3S st + smL coZ (st.cr.cols.take i)) ∧ s = ⟨167, sp [(1, .lp 1 0), (2, .c (bC false)), (3, .lp 3 0), (4, nX n), (9, nX i)], lv [(1, .box (zSt st)), (3, .box (zDn st.cr))], H⟩) (fun i => st.cr.cols.length - i) 0 ⟨_, by exact wK 167, n3S st, ⟨qZ _, by simp [smL]⟩, rfl⟩ (fun i s hs => ?_))
 obtain ⟨n, ⟨hi0, hn⟩, rfl⟩ := hs
 refine AW.seq (D6 ?_)
 refine cD ?_ ?_ <;> intro h106
 ·
  have hi := oI h106
  have htk := smL_put (f := coZ) hi
  have htl := smL_tk (f := coZ) (l := st.cr.cols) (i := i + 1)
  have hem := smL_mem (f := coZ) (qC hi)
  have hz : coZ st.cr.cols[i] = st.cr.cols[i].nm.size := rfl
  refine AW.skip (AW.seq (AW.block (B8 ?_)))
  refine sQ (q_add _ rfl rfl rfl ((by rw [w64 (by omega) (by omega)]; omega : IntKind.i64.wrap _ = ((n + coZ st.cr.cols[i] : Nat) : Int)))) ?_
  refine sB ?_
  refine B3 ?_
  exact ⟨i + 1, _, by exact wK 167, by omega, n + coZ st.cr.cols[i], ⟨hi, by rw [hn, smL_put hi]; omega⟩, rfl⟩
 refine AW.exit ?_
 refine eth_e ?_
 refine eth_e ?_
 refine exit_here ?_
 refine AW.seq (D1 ?_)
 obtain rfl : n = n4S st := by rw [hn, qU (by rw [qA] at h106; omega)]; try rfl
 refine AW.block (AW.loop (fun (i : Nat) s => ∃ (n : Nat), (i ≤ st.cr.keys.length ∧ n = n4S st + smL wdN (st.cr.keys.take i)) ∧ s = ⟨167, sp [(1, .lp 1 0), (2, .c (bC false)), (3, .lp 3 0), (4, nX n), (10, nX i)], lv [(1, .box (zSt st)), (3, .box (zDn st.cr))], H⟩) (fun i => st.cr.keys.length - i) 0 ⟨_, by exact wK 167, n4S st, ⟨qZ _, by simp [smL]⟩, rfl⟩ (fun i s hs => ?_))
 obtain ⟨n, ⟨hi0, hn⟩, rfl⟩ := hs
 refine AW.seq (D6 ?_)
 refine cD ?_ ?_ <;> intro h122
 ·
  have hi := oI h122
  have htk := smL_put (f := wdN) hi
  have htl := smL_tk (f := wdN) (l := st.cr.keys) (i := i + 1)
  have hem := smL_mem (f := wdN) (qC hi)
  refine AW.skip (AW.seq (AW.block (B6 ?_)))
  refine sQ (q_call _ rfl fn46 rfl (wide_any _ _ (by omega)) rfl) ?_
  refine sQ (q_add _ rfl rfl rfl ((by rw [w64 (by omega) (by omega)]; omega : IntKind.i64.wrap _ = ((n + wdN st.cr.keys[i] : Nat) : Int)))) ?_
  refine sB ?_
  refine B3 ?_
  exact ⟨i + 1, _, by exact wK 167, by omega, n + wdN st.cr.keys[i], ⟨hi, by rw [hn, smL_put hi]; omega⟩, rfl⟩
 refine AW.exit ?_
 refine eth_e ?_
 refine eth_e ?_
 refine exit_here ?_
 refine AW.seq (D1 ?_)
 obtain rfl : n = n5S st := by rw [hn, qU (by rw [qA] at h122; omega)]; try rfl
 refine AW.block (AW.loop (fun (i : Nat) s => ∃ (n : Nat), (i ≤ st.cr.fks.length ∧ n = n5S st + smL rfW (st.cr.fks.take i)) ∧ s = ⟨167, sp [(1, .lp 1 0), (2, .c (bC false)), (3, .lp 3 0), (4, nX n), (11, nX i)], lv [(1, .box (zSt st)), (3, .box (zDn st.cr))], H⟩) (fun i => st.cr.fks.length - i) 0 ⟨_, by exact wK 167, n5S st, ⟨qZ _, by simp [smL]⟩, rfl⟩ (fun i s hs => ?_))
 obtain ⟨n, ⟨hi0, hn⟩, rfl⟩ := hs
 refine AW.seq (D6 ?_)
 refine cD ?_ ?_ <;> intro h137
 rotate_left
 ·
  refine AW.exit ?_
  refine eth_e ?_
  refine eth_e ?_
  refine exit_here ?_
  refine D1 ?_
  refine sQ (q_leq rfl rfl rfl) ?_
  refine sB ?_
  obtain rfl : n = n5S st + smL rfW st.cr.fks := by rw [hn, qU (by rw [qA] at h137; omega)]; try rfl
  exact aR (fE (e := bCe (smB_t (by (try simp only [qA] at *); omega) (dcE (by omega)))))
 have hi := oI h137
 have htk := smL_put (f := rfW) hi
 have htl := smL_tk (f := rfW) (l := st.cr.fks) (i := i + 1)
 have hem := smL_mem (f := rfW) (qC hi)
 have hz : rfW st.cr.fks[i] = wdN st.cr.fks[i].cols + st.cr.fks[i].tab.size + wdN st.cr.fks[i].tgt := rfl
 refine AW.skip (AW.seq (AW.block (AW.draw mo ?_)))
 refine N5 ?_
 refine lQ (q_fieldP _ rfl fl110_0 rfl rfl) ?_
 refine N1 ?_
 refine lQ (q_call _ rfl fn46 rfl (wide_any _ _ (by omega)) rfl) ?_
 refine N4 ?_
 refine lQ (q_fieldP _ rfl fl110_1 rfl rfl) ?_
 refine N1 ?_
 refine lQ (q_lenS rfl un9 rfl) ?_
 refine lQ (q_add _ rfl rfl rfl ((by rw [w64 (by omega) (by omega)]; omega : IntKind.i64.wrap _ = ((wdN st.cr.fks[i].cols + st.cr.fks[i].tab.size : Nat) : Int)))) ?_
 refine N4 ?_
 refine lQ (q_fieldP _ rfl fl110_2 rfl rfl) ?_
 refine N1 ?_
 refine lQ (q_call _ rfl fn46 rfl (wide_any _ _ (by omega)) rfl) ?_
 refine lQ (q_add _ rfl rfl rfl ((by rw [w64 (by omega) (by omega)]; omega : IntKind.i64.wrap _ = ((rfW st.cr.fks[i] : Nat) : Int)))) ?_
 refine lQ (q_add _ rfl rfl rfl ((by rw [w64 (by omega) (by omega)]; omega : IntKind.i64.wrap _ = ((n + rfW st.cr.fks[i] : Nat) : Int)))) ?_
 refine N2 ?_
 refine B3 ?_
 exact ⟨i + 1, _, by exact wK 167, by omega, n + rfW st.cr.fks[i], ⟨hi, by rw [hn, smL_put hi]; omega⟩, rfl⟩
open Q
abbrev abP (e : Ex) : Prop := e.op = 0 ∧ e.tb = ⟨#[]⟩ ∧ e.nm = ⟨#[]⟩ ∧ v0P e ∧ e.args.length = 0
abbrev numP (n : Int) : Prop := 0 ≤ n ∧ n ≤ 2147483648
abbrev nmsP (l : List ByteArray) : Prop := (∀ j (h : j < l.length), nmQ l[j]) ∧ 0 < l.length
abbrev colR (c : Co) : Prop := (c.ty = 1 ∧ (-2147483648 ≤ c.lo ∧ c.lo ≤ 2147483648) ∧ (-2147483648 ≤ c.hi ∧ c.hi ≤ 2147483648) ∧ c.mx = 0) ∨ (c.ty = 2 ∧ c.lo = 0 ∧ c.hi = 0 ∧ numP c.mx)
abbrev colQ (c : Co) : Prop := nmQ c.nm ∧ colR c
abbrev fkQ (f : Rf) : Prop := nmsP f.cols ∧ nmQ f.tab ∧ nmsP f.tgt
abbrev dnP (d : Dn) : Prop := (∀ j (h : j < d.cols.length), colQ d.cols[j]) ∧ (∀ j (h : j < d.keys.length), nmsP d.keys[j]) ∧ (∀ j (h : j < d.fks.length), fkQ d.fks[j]) ∧ (∀ j (h : j < d.chks.length), fmB d.chks[j] = true) ∧ 0 < d.cols.length + d.keys.length + d.fks.length + d.chks.length
abbrev inP (l : List (List Ex)) : Prop := (∀ j (h : j < l.length), (∀ k (h2 : k < l[j].length), fmB l[j][k] = true) ∧ l[j].length ≠ 0) ∧ 0 < l.length
abbrev seP (l : List As) : Prop := (∀ j (h : j < l.length), nmQ l[j].col ∧ fmB l[j].ex = true) ∧ 0 < l.length
theorem dF2 {p : Prop} [Decidable p] (h : ¬ p) : false = decide p := (jI h).symm
theorem col_of {c : Co} (h : nmQ c.nm) : decide (colQ c) = decide (colR c) := dcE ⟨fun k => k.2, fun k => ⟨h, k⟩⟩
abbrev oknL (l : List ByteArray) : Prop := l.length ≤ 1000000000000 ∧ ∀ u ∈ l, u.size ≤ 1000000000000000
structure okDn (d : Dn) : Prop where
  cl : d.cols.length ≤ 1000000000000
  cn : ∀ c ∈ d.cols, c.nm.size ≤ 1000000000000000
  kl : d.keys.length ≤ 1000000000000
  kn : ∀ l ∈ d.keys, oknL l
  fl : d.fks.length ≤ 1000000000000
  fn : ∀ f ∈ d.fks, oknL f.cols ∧ f.tab.size ≤ 1000000000000000 ∧ oknL f.tgt
  xl : d.chks.length ≤ 1000000000000
  xn : ∀ e ∈ d.chks, Q.okE e
theorem absent_any (e : Ex) (hl : e.args.length ≤ 17592186044000) : Pu 87 [exC e] (.c (bC (decide (abP e)))) := by
 intro H
 refine Spec.enter Tryz.func87 rfl ?_
 refine AW.wk (wK 28 (l := [(0, .c (exC e))]) (ll := []) (H := (H))) ?_
 refine D2 ?_
 refine D3 ?_
 refine Z17 ?_ ?_ <;> intro g6
 rotate_left
 ·
  iterate 3 refine oF ?_
  refine G2 ?_
  iterate 3 refine oF ?_
  refine G2 ?_
  iterate 4 refine oF ?_
  refine G2 ?_
  iterate 4 refine oF ?_
  refine G2 ?_
  exact aR (fE (e := bCe (by first | exact dF2 (fun k => g6 k.1) | exact dF2 (fun k => g11 k.2.1) | exact dF2 (fun k => g16 k.2.2.1) | exact dF2 (fun k => hv k.2.2.2.1) | exact dcE ⟨fun k => ⟨g6, g11, g16, ⟨g22.1.1, g22.1.2, g22.2⟩, by (try simp only [qA] at k); omega⟩, fun k => by have := k.2.2.2.2; (try simp only [qA]); omega⟩)))
 refine G2 ?_
 refine sO (q_eqlS rfl rfl rfl) ?_
 refine Z7 ?_
 refine Z17 ?_ ?_ <;> intro g11
 rotate_left
 ·
  iterate 3 refine oF ?_
  refine G2 ?_
  iterate 4 refine oF ?_
  refine G2 ?_
  iterate 4 refine oF ?_
  refine G2 ?_
  exact aR (fE (e := bCe (by first | exact dF2 (fun k => g6 k.1) | exact dF2 (fun k => g11 k.2.1) | exact dF2 (fun k => g16 k.2.2.1) | exact dF2 (fun k => hv k.2.2.2.1) | exact dcE ⟨fun k => ⟨g6, g11, g16, ⟨g22.1.1, g22.1.2, g22.2⟩, by (try simp only [qA] at k); omega⟩, fun k => by have := k.2.2.2.2; (try simp only [qA]); omega⟩)))
 refine G2 ?_
 refine sO (q_eqlS rfl rfl rfl) ?_
 refine Z7 ?_
 refine Z17 ?_ ?_ <;> intro g16
 ·
  refine G2 ?_
  refine sO (q_build2 (zs := [_, _, _]) (r := [_, _, _]) [(0, 1), (1, 1), (2, 1)] _ rfl ze35 rfl bp35 rfl rfl rfl rfl) ?_
  refine sO (q_eqlG [.int .i64 e.vk, .int .i64 e.vn, .string e.vs] [.int .i64 0, .int .i64 0, .string ⟨#[]⟩] rfl rfl rfl rfl rfl (by kernel_rfl) (fun w => eq25 _ _ _ _ _ _ w)) ?_
  refine Z7 ?_
  refine Z53 ?_ ?_ <;> intro g22
  ·
   simp only [jG, decide_eq_true_eq] at g22
   refine G6 ?_
   exact aR (fE (e := bCe (by first | exact dF2 (fun k => g6 k.1) | exact dF2 (fun k => g11 k.2.1) | exact dF2 (fun k => g16 k.2.2.1) | exact dF2 (fun k => hv k.2.2.2.1) | exact dcE ⟨fun k => ⟨g6, g11, g16, ⟨g22.1.1, g22.1.2, g22.2⟩, by (try simp only [qA] at k); omega⟩, fun k => by have := k.2.2.2.2; (try simp only [qA]); omega⟩)))
  have hv : ¬ v0P e := by intro k; simp [k.1, k.2.1, k.2.2] at g22
  iterate 4 refine oF ?_
  refine G2 ?_
  exact aR (fE (e := bCe (by first | exact dF2 (fun k => g6 k.1) | exact dF2 (fun k => g11 k.2.1) | exact dF2 (fun k => g16 k.2.2.1) | exact dF2 (fun k => hv k.2.2.2.1) | exact dcE ⟨fun k => ⟨g6, g11, g16, ⟨g22.1.1, g22.1.2, g22.2⟩, by (try simp only [qA] at k); omega⟩, fun k => by have := k.2.2.2.2; (try simp only [qA]); omega⟩)))
 iterate 4 refine oF ?_
 refine G2 ?_
 iterate 4 refine oF ?_
 refine G2 ?_
 exact aR (fE (e := bCe (by first | exact dF2 (fun k => g6 k.1) | exact dF2 (fun k => g11 k.2.1) | exact dF2 (fun k => g16 k.2.2.1) | exact dF2 (fun k => hv k.2.2.2.1) | exact dcE ⟨fun k => ⟨g6, g11, g16, ⟨g22.1.1, g22.1.2, g22.2⟩, by (try simp only [qA] at k); omega⟩, fun k => by have := k.2.2.2.2; (try simp only [qA]); omega⟩)))
theorem number_any (n : Int) : Pu 139 [iC n] (.c (bC (decide (numP n)))) := by
 intro H
 refine Spec.enter Tryz.func139 rfl ?_
 refine AW.wk (wK 9 (l := [(0, .c (iC n))]) (ll := []) (H := (H))) ?_
 refine D1 ?_
 refine D2 ?_
 refine Z17 ?_ ?_ <;> intro g5
 ·
  refine G4 ?_
  exact aR (fE (e := bCe (by first | exact dF2 (by omega) | exact dcE (by omega))))
 iterate 2 refine oF ?_
 refine G2 ?_
 exact aR (fE (e := bCe (by first | exact dF2 (by omega) | exact dcE (by omega))))
theorem namesQ_any (l : List ByteArray) (z : Nz) (hk : oknL l) : Pu 138 [sL z l] (.c (bC (decide (nmsP l)))) := by
 obtain ⟨hl, hu⟩ := hk
 intro H
 refine Spec.enter Tryz.func138 rfl ?_
 refine AW.wk (wK 19 (l := [(0, .c (sL z l))]) (ll := []) (H := (H))) ?_
 refine D1 ?_
 refine AW.seq (D1 ?_)
 refine AW.block (AW.loop (fun (i : Nat) s => (i ≤ l.length ∧ ∀ j (h : j < l.length), j < i → nmQ l[j]) ∧ s = ⟨19, sp [(0, .c (sL z l)), (2, .c (bC false)), (3, nX i)], lv [], H⟩) (fun i => l.length - i) 0 ⟨_, by exact wK 19, ⟨qZ _, up0⟩, rfl⟩ (fun i s hs => ?_))
 obtain ⟨⟨hi0, hUi⟩, rfl⟩ := hs
 refine AW.seq (D5 ?_)
 refine cD ?_ ?_ <;> intro h7
 ·
  have hi := oI h7
  refine AW.skip (AW.seq (AW.block (D4 ?_)))
  refine Z16 fn86 (rname_any _ (hu _ (qC hi))) ?_
  refine G2 ?_
  refine AW.cond _ rfl (fun h15 => ?_) (fun h15 => ?_)
  ·
   have hno := jK (bnt h15)
   refine D1 ?_
   exact aR (fE (e := bCe (dF2 (fun k => hno (k.1 i hi)))))
  have hyes := jJ (bnf h15)
  refine AW.skip (B3 ?_)
  exact ⟨i + 1, _, by exact wK 19, by omega, ⟨hi, upS hi hUi (hyes)⟩, rfl⟩
 refine AW.exit ?_
 refine eth_e ?_
 refine eth_e ?_
 refine exit_here ?_
 refine D4 ?_
 exact aR (fE (e := bCe (dcE ⟨fun k => ⟨(upE hUi (by (try rw [qA] at h7); omega)), by (try rw [qA] at k); omega⟩, fun k => by have := k.2; (try rw [qA]); omega⟩)))
theorem column_q (c : Co) (hs : c.nm.size ≤ 1000000000000000) : Pu 137 [coC c] (.c (bC (decide (colQ c)))) := by
 intro H
 refine Spec.enter Tryz.func137 rfl ?_
 refine AW.wk (wK 51 (l := [(0, .c (coC c))]) (ll := []) (H := (H))) ?_
 refine D2 ?_
 refine AW.seq (D2 ?_)
 refine Z16 fn86 (rname_any _ hs) ?_
 refine G2 ?_
 refine AW.cond _ rfl (fun h6 => ?_) (fun h6 => ?_)
 ·
  have hno := jK (bnt h6)
  refine D1 ?_
  exact aR (fE (e := bCe (dF2 (fun k => hno k.1))))
 have hyes := jJ (bnf h6)
 refine AW.skip (AW.seq (D4 ?_))
 refine cD ?_ ?_ <;> intro h9
 rotate_left
 ·
  refine AW.skip (D3 ?_)
  refine Z17 ?_ ?_ <;> intro g36
  rotate_left
  ·
   iterate 3 refine oF ?_
   refine G2 ?_
   iterate 3 refine oF ?_
   refine G2 ?_
   iterate 3 refine oF ?_
   refine G2 ?_
   exact aR (fE (e := bCe (by rw [col_of hyes]; first | exact dF2 (by omega) | exact dT2 (by omega) | exact dcE (by omega))))
  refine G4 ?_
  refine Z17 ?_ ?_ <;> intro g41
  ·
   refine G4 ?_
   refine Z17 ?_ ?_ <;> intro g46
   ·
    refine G2 ?_
    refine Z52 fn139 (number_any _) ?_
    refine G2 ?_
    exact aR (fE (e := bCe (by rw [col_of hyes]; first | exact dF2 (by omega) | exact dT2 (by omega) | exact dcE (by omega))))
   iterate 3 refine oF ?_
   refine G2 ?_
   exact aR (fE (e := bCe (by rw [col_of hyes]; first | exact dF2 (by omega) | exact dT2 (by omega) | exact dcE (by omega))))
  iterate 3 refine oF ?_
  refine G2 ?_
  iterate 3 refine oF ?_
  refine G2 ?_
  exact aR (fE (e := bCe (by rw [col_of hyes]; first | exact dF2 (by omega) | exact dT2 (by omega) | exact dcE (by omega))))
 refine D3 ?_
 refine Z17 ?_ ?_ <;> intro g13
 rotate_left
 ·
  iterate 3 refine oF ?_
  refine G2 ?_
  iterate 3 refine oF ?_
  refine G2 ?_
  iterate 3 refine oF ?_
  refine G2 ?_
  iterate 3 refine oF ?_
  refine G2 ?_
  exact aR (fE (e := bCe (by rw [col_of hyes]; first | exact dF2 (by omega) | exact dT2 (by omega) | exact dcE (by omega))))
 refine G4 ?_
 refine Z17 ?_ ?_ <;> intro g18
 rotate_left
 ·
  iterate 3 refine oF ?_
  refine G2 ?_
  iterate 3 refine oF ?_
  refine G2 ?_
  iterate 3 refine oF ?_
  refine G2 ?_
  exact aR (fE (e := bCe (by rw [col_of hyes]; first | exact dF2 (by omega) | exact dT2 (by omega) | exact dcE (by omega))))
 refine G2 ?_
 refine sO (q_geq rfl rfl rfl) ?_
 refine Z7 ?_
 refine Z17 ?_ ?_ <;> intro g23
 ·
  refine G4 ?_
  refine Z17 ?_ ?_ <;> intro g28
  ·
   refine G5 ?_
   exact aR (fE (e := bCe (by rw [col_of hyes]; first | exact dF2 (by omega) | exact dT2 (by omega) | exact dcE (by omega))))
  iterate 3 refine oF ?_
  refine G2 ?_
  exact aR (fE (e := bCe (by rw [col_of hyes]; first | exact dF2 (by omega) | exact dT2 (by omega) | exact dcE (by omega))))
 iterate 3 refine oF ?_
 refine G2 ?_
 iterate 3 refine oF ?_
 refine G2 ?_
 exact aR (fE (e := bCe (by rw [col_of hyes]; first | exact dF2 (by omega) | exact dT2 (by omega) | exact dcE (by omega))))
theorem insert_q (l : List (List Ex)) (z : Nz) (hl : l.length ≤ 1000000000000) (hu : ∀ u ∈ l, u.length ≤ 1000000000000 ∧ ∀ e ∈ u, Q.okE e) : Pu 90 [valsC z l] (.c (bC (decide (inP l)))) := by
 intro H
 refine Spec.enter Tryz.func90 rfl ?_
 refine AW.wk (wK 38 (l := [(0, .c (valsC z l))]) (ll := []) (H := (H))) ?_
 refine D1 ?_
 refine AW.seq (D1 ?_)
 refine AW.block (AW.loop (fun (i : Nat) s => (i ≤ l.length ∧ ∀ j (h : j < l.length), j < i → (∀ k (h2 : k < l[j].length), fmB l[j][k] = true) ∧ l[j].length ≠ 0) ∧ s = ⟨38, sp [(0, .c (valsC z l)), (2, .c (bC false)), (3, nX i)], lv [], H⟩) (fun i => l.length - i) 0 ⟨_, by exact wK 38, ⟨qZ _, up0⟩, rfl⟩ (fun i s hs => ?_))
 obtain ⟨⟨hi0, hUi⟩, rfl⟩ := hs
 refine AW.seq (D5 ?_)
 refine cD ?_ ?_ <;> intro h8
 rotate_left
 ·
  refine AW.exit ?_
  refine eth_e ?_
  refine eth_e ?_
  refine exit_here ?_
  refine D4 ?_
  exact aR (fE (e := bCe (dcE ⟨fun k => ⟨(upE hUi (by (try rw [qA] at h8); omega)), by (try rw [qA] at k); omega⟩, fun k => by have := k.2; (try rw [qA]); omega⟩)))
 have hi := oI h8
 have hui := hu _ (qC hi)
 refine AW.skip (AW.seq (AW.block (AW.seq (D1 ?_))))
 refine AW.block (AW.loop (fun (k : Nat) s => (k ≤ l[i].length ∧ ∀ j (h : j < l[i].length), j < k → fmB l[i][j] = true) ∧ s = ⟨38, sp [(0, .c (valsC z l)), (2, .c (bC false)), (3, nX i), (4, nX k)], lv [], H⟩) (fun k => l[i].length - k) 0 ⟨_, by exact wK 38, ⟨qZ _, up0⟩, rfl⟩ (fun k s hs => ?_))
 obtain ⟨⟨hk0, hUk⟩, rfl⟩ := hs
 refine AW.seq (D8 ?_)
 refine cD ?_ ?_ <;> intro h17
 ·
  have hk := oI h17
  refine AW.skip (AW.seq (AW.block (D7 ?_)))
  refine Z16 fn88 (rformed_any _ (hui.2 _ (qC hk))) ?_
  refine G2 ?_
  refine AW.cond _ rfl (fun h28 => ?_) (fun h28 => ?_)
  ·
   have hno := bnt h28
   refine D1 ?_
   exact aR (fE (e := bCe (dF2 (fun q => by have := (q.1 i hi).1 k hk; rw [hno] at this; cases this))))
  have hyes := bnf h28
  refine AW.skip (B3 ?_)
  exact ⟨k + 1, _, by exact wK 38, by omega, ⟨hk, upS hk hUk (hyes)⟩, rfl⟩
 refine AW.exit ?_
 refine eth_e ?_
 refine eth_e ?_
 refine exit_here ?_
 refine D7 ?_
 refine cD ?_ ?_ <;> intro h34
 ·
  refine D1 ?_
  exact aR (fE (e := bCe (dF2 (fun q => (q.1 i hi).2 (by (try rw [qA] at h34); omega)))))
 refine AW.skip (B3 ?_)
 exact ⟨i + 1, _, by exact wK 38, by omega, ⟨hi, upS hi hUi (⟨(upE hUk (by (try rw [qA] at h17); omega)), by (try rw [qA] at h34); omega⟩)⟩, rfl⟩
theorem sets_q (l : List As) (z : Nz) (hl : l.length ≤ 1000000000000) (hu : ∀ a ∈ l, a.col.size ≤ 1000000000000000 ∧ Q.okE a.ex) : Pu 91 [assC z l] (.c (bC (decide (seP l)))) := by
 intro H
 refine Spec.enter Tryz.func91 rfl ?_
 refine AW.wk (wK 29 (l := [(0, .c (assC z l))]) (ll := []) (H := (H))) ?_
 refine D1 ?_
 refine AW.seq (D1 ?_)
 refine AW.block (AW.loop (fun (i : Nat) s => (i ≤ l.length ∧ ∀ j (h : j < l.length), j < i → nmQ l[j].col ∧ fmB l[j].ex = true) ∧ s = ⟨29, sp [(0, .c (assC z l)), (2, .c (bC false)), (3, nX i)], lv [], H⟩) (fun i => l.length - i) 0 ⟨_, by exact wK 29, ⟨qZ _, up0⟩, rfl⟩ (fun i s hs => ?_))
 obtain ⟨⟨hi0, hUi⟩, rfl⟩ := hs
 refine AW.seq (D5 ?_)
 refine cD ?_ ?_ <;> intro h7
 rotate_left
 ·
  refine AW.exit ?_
  refine eth_e ?_
  refine eth_e ?_
  refine exit_here ?_
  refine D4 ?_
  exact aR (fE (e := bCe (dcE ⟨fun k => ⟨(upE hUi (by (try rw [qA] at h7); omega)), by (try rw [qA] at k); omega⟩, fun k => by have := k.2; (try rw [qA]); omega⟩)))
 have hi := oI h7
 have hui := hu _ (qC hi)
 refine AW.skip (AW.seq (AW.block (D5 ?_)))
 refine Z16 fn86 (rname_any _ hui.1) ?_
 refine Z38 ?_
 refine Z53 ?_ ?_ <;> intro g17
 ·
  have hnc := jK (bnt g17)
  iterate 7 refine oF ?_
  refine G2 ?_
  refine AW.condT rfl ?_
  refine D1 ?_
  exact aR (fE (e := bCe (dF2 (fun k => by first | exact hnc (k.1 i hi).1 | (have := (k.1 i hi).2; rw [hno] at this; cases this)))))
 have hyc := jJ (bnf g17)
 refine G3 ?_
 refine sO (q_fieldP _ rfl fl85_2 rfl rfl) ?_
 refine G1 ?_
 refine Z52 fn88 (rformed_any _ hui.2) ?_
 refine G3 ?_
 refine AW.cond _ rfl (fun h25 => ?_) (fun h25 => ?_)
 ·
  try have hno := bnt h25
  refine D1 ?_
  exact aR (fE (e := bCe (dF2 (fun k => by first | exact hnc (k.1 i hi).1 | (have := (k.1 i hi).2; rw [hno] at this; cases this)))))
 refine AW.skip (B3 ?_)
 exact ⟨i + 1, _, by exact wK 29, by omega, ⟨hi, upS hi hUi (⟨hyc, bnf h25⟩)⟩, rfl⟩
theorem create_q (d : Dn) (hk : okDn d) : Pu 89 [dnC d] (.c (bC (decide (dnP d)))) := by
 have hcl := hk.cl
 have hkl := hk.kl
 have hfl := hk.fl
 have hxl := hk.xl
 intro H
 refine Spec.enter Tryz.func89 rfl ?_
 refine AW.wk (wK 100 (l := [(0, .c (dnC d))]) (ll := []) (H := (H))) ?_
 refine D2 ?_
 refine AW.seq (D1 ?_)
 refine AW.block (AW.loop (fun (i : Nat) s => (i ≤ d.cols.length ∧ ∀ j (h : j < d.cols.length), j < i → colQ d.cols[j]) ∧ s = ⟨100, sp [(1, .lp 1 0), (2, .c (bC false)), (3, nX i)], lv [(1, .box (zDn d))], H⟩) (fun i => d.cols.length - i) 0 ⟨_, by exact wK 100, ⟨qZ _, up0⟩, rfl⟩ (fun i s hs => ?_))
 obtain ⟨⟨hi0, hUi⟩, rfl⟩ := hs
 refine AW.seq (D6 ?_)
 refine cD ?_ ?_ <;> intro h11
 ·
  have hi := oI h11
  refine AW.skip (AW.seq (AW.block (D5 ?_)))
  refine Z16 fn137 (column_q _ (hk.cn _ (qC hi))) ?_
  refine G2 ?_
  refine AW.cond _ rfl (fun h20 => ?_) (fun h20 => ?_)
  ·
   have hno := jK (bnt h20)
   refine D1 ?_
   exact aR (fE (e := bCe (dF2 (fun k => hno (k.1 i hi)))))
  have hyes := jJ (bnf h20)
  refine AW.skip (B3 ?_)
  exact ⟨i + 1, _, by exact wK 100, by omega, ⟨hi, upS hi hUi (hyes)⟩, rfl⟩
 refine AW.exit ?_
 refine eth_e ?_
 refine eth_e ?_
 refine exit_here ?_
 refine AW.seq (D1 ?_)
 have A1 : ∀ j (h : j < d.cols.length), colQ d.cols[j] := (upE hUi (by (try rw [qA] at h11); omega))
 refine AW.block (AW.loop (fun (i : Nat) s => (i ≤ d.keys.length ∧ ∀ j (h : j < d.keys.length), j < i → nmsP d.keys[j]) ∧ s = ⟨100, sp [(1, .lp 1 0), (2, .c (bC false)), (4, nX i)], lv [(1, .box (zDn d))], H⟩) (fun i => d.keys.length - i) 0 ⟨_, by exact wK 100, ⟨qZ _, up0⟩, rfl⟩ (fun i s hs => ?_))
 obtain ⟨⟨hi0, hUi⟩, rfl⟩ := hs
 refine AW.seq (D6 ?_)
 refine cD ?_ ?_ <;> intro h25
 ·
  have hi := oI h25
  refine AW.skip (AW.seq (AW.block (D5 ?_)))
  refine Z16 fn138 (namesQ_any _ _ (hk.kn _ (qC hi))) ?_
  refine G2 ?_
  refine AW.cond _ rfl (fun h34 => ?_) (fun h34 => ?_)
  ·
   have hno := jK (bnt h34)
   refine D1 ?_
   exact aR (fE (e := bCe (dF2 (fun k => hno (k.2.1 i hi)))))
  have hyes := jJ (bnf h34)
  refine AW.skip (B3 ?_)
  exact ⟨i + 1, _, by exact wK 100, by omega, ⟨hi, upS hi hUi (hyes)⟩, rfl⟩
 refine AW.exit ?_
 refine eth_e ?_
 refine eth_e ?_
 refine exit_here ?_
 refine AW.seq (D1 ?_)
 have A2 : ∀ j (h : j < d.keys.length), nmsP d.keys[j] := (upE hUi (by (try rw [qA] at h25); omega))
 refine AW.block (AW.loop (fun (i : Nat) s => (i ≤ d.fks.length ∧ ∀ j (h : j < d.fks.length), j < i → fkQ d.fks[j]) ∧ s = ⟨100, sp [(1, .lp 1 0), (2, .c (bC false)), (5, nX i)], lv [(1, .box (zDn d))], H⟩) (fun i => d.fks.length - i) 0 ⟨_, by exact wK 100, ⟨qZ _, up0⟩, rfl⟩ (fun i s hs => ?_))
 obtain ⟨⟨hi0, hUi⟩, rfl⟩ := hs
 refine AW.seq (D6 ?_)
 refine cD ?_ ?_ <;> intro h39
 ·
  have hi := oI h39
  have hui := hk.fn _ (qC hi)
  refine AW.skip (AW.seq (AW.block (D6 ?_)))
  refine Z16 fn138 (namesQ_any _ _ hui.1) ?_
  refine Z38 ?_
  refine Z53 ?_ ?_ <;> intro g50
  ·
   have hn1 := jK (bnt g50)
   iterate 8 refine oF ?_
   refine G2 ?_
   iterate 8 refine oF ?_
   refine G2 ?_
   refine AW.condT rfl ?_
   refine D1 ?_
   exact aR (fE (e := bCe (dF2 (fun k => by first | exact hn1 (k.2.2.1 i hi).1 | exact hn2 (k.2.2.1 i hi).2.1 | exact hn3 (k.2.2.1 i hi).2.2))))
  have hy1 := jJ (bnf g50)
  refine G4 ?_
  refine sO (q_fieldP _ rfl fl110_1 rfl rfl) ?_
  refine G1 ?_
  refine Z52 fn86 (rname_any _ hui.2.1) ?_
  refine G2 ?_
  refine Z53 ?_ ?_ <;> intro g60
  ·
   have hn2 := jK (bnt g60)
   iterate 8 refine oF ?_
   refine G2 ?_
   refine AW.condT rfl ?_
   refine D1 ?_
   exact aR (fE (e := bCe (dF2 (fun k => by first | exact hn1 (k.2.2.1 i hi).1 | exact hn2 (k.2.2.1 i hi).2.1 | exact hn3 (k.2.2.1 i hi).2.2))))
  have hy2 := jJ (bnf g60)
  refine G4 ?_
  refine sO (q_fieldP _ rfl fl110_2 rfl rfl) ?_
  refine G1 ?_
  refine Z52 fn138 (namesQ_any _ _ hui.2.2) ?_
  refine G3 ?_
  refine AW.cond _ rfl (fun h69 => ?_) (fun h69 => ?_)
  ·
   try have hn3 := jK (bnt h69)
   refine D1 ?_
   exact aR (fE (e := bCe (dF2 (fun k => by first | exact hn1 (k.2.2.1 i hi).1 | exact hn2 (k.2.2.1 i hi).2.1 | exact hn3 (k.2.2.1 i hi).2.2))))
  refine AW.skip (B3 ?_)
  exact ⟨i + 1, _, by exact wK 100, by omega, ⟨hi, upS hi hUi (⟨hy1, hy2, jJ (bnf h69)⟩)⟩, rfl⟩
 refine AW.exit ?_
 refine eth_e ?_
 refine eth_e ?_
 refine exit_here ?_
 refine AW.seq (D1 ?_)
 have A3 : ∀ j (h : j < d.fks.length), fkQ d.fks[j] := (upE hUi (by (try rw [qA] at h39); omega))
 refine AW.block (AW.loop (fun (i : Nat) s => (i ≤ d.chks.length ∧ ∀ j (h : j < d.chks.length), j < i → fmB d.chks[j] = true) ∧ s = ⟨100, sp [(1, .lp 1 0), (2, .c (bC false)), (6, nX i)], lv [(1, .box (zDn d))], H⟩) (fun i => d.chks.length - i) 0 ⟨_, by exact wK 100, ⟨qZ _, up0⟩, rfl⟩ (fun i s hs => ?_))
 obtain ⟨⟨hi0, hUi⟩, rfl⟩ := hs
 refine AW.seq (D6 ?_)
 refine cD ?_ ?_ <;> intro h74
 ·
  have hi := oI h74
  refine AW.skip (AW.seq (AW.block (D5 ?_)))
  refine Z16 fn88 (rformed_any _ (hk.xn _ (qC hi))) ?_
  refine G2 ?_
  refine AW.cond _ rfl (fun h83 => ?_) (fun h83 => ?_)
  ·
   have hno := bnt h83
   refine D1 ?_
   exact aR (fE (e := bCe (dF2 (fun k => by have := k.2.2.2.1 i hi; rw [hno] at this; cases this))))
  have hyes := bnf h83
  refine AW.skip (B3 ?_)
  exact ⟨i + 1, _, by exact wK 100, by omega, ⟨hi, upS hi hUi (hyes)⟩, rfl⟩
 refine AW.exit ?_
 refine eth_e ?_
 refine eth_e ?_
 refine exit_here ?_
 refine D17 ?_
 exact aR (fE (e := bCe (dcE ⟨fun k => ⟨A1, A2, A3, (upE hUi (by (try rw [qA] at h74); omega)), by (try simp only [qA] at k); (try rw [w64 (by omega) (by omega), w64 (by omega) (by omega), w64 (by omega) (by omega)] at k); omega⟩, fun k => by have := k.2.2.2.2; (try simp only [qA]); (try rw [w64 (by omega) (by omega), w64 (by omega) (by omega), w64 (by omega) (by omega)]); omega⟩)))
open Q
def nuB (n : Int) : ByteArray := if n < 0 then ⟨#[45]⟩ ++ decB (-n).toNat else decB n.toNat
theorem nuB_size {n : Int} (h : -10000000000 < n ∧ n < 10000000000) : (nuB n).size ≤ 11 := by
  unfold nuB
  split
  · rw [qE]; have := decB_size (n := (-n).toNat) (by omega); have k : (⟨#[45]⟩ : ByteArray).size = 1 := rfl; omega
  · have := decB_size (n := n.toNat) (by omega); omega
theorem sCe {a b : ByteArray} (h : a = b) : X.c (sC a) = .c (sC b) := by rw [h]
def cmA (acc : ByteArray) (first : Bool) : List ByteArray → ByteArray
  | [] => acc
  | u :: r => cmA ((if first = true then acc else acc ++ ⟨#[44, 32]⟩) ++ u) false r
def cmB (l : List ByteArray) : ByteArray := cmA ⟨#[]⟩ true l
theorem cmA_size : ∀ (l : List ByteArray) (acc : ByteArray) (b : Bool), (cmA acc b l).size ≤ acc.size + smL ByteArray.size l + 2 * l.length
  | [], acc, b => by rw [cmA, smL]; simp
  | u :: r, acc, b => by
    rw [cmA]
    have h := cmA_size r ((if b = true then acc else acc ++ ⟨#[44, 32]⟩) ++ u) false
    rw [qE] at h
    have h2 : (if b = true then acc else acc ++ ⟨#[44, 32]⟩).size ≤ acc.size + 2 := by
      split
      · omega
      · rw [qE]; exact jA _
    rw [smL, qM]; omega
theorem cmB_size (l : List ByteArray) : (cmB l).size ≤ smL ByteArray.size l + 2 * l.length := by
  have := cmA_size l ⟨#[]⟩ true
  have k : (⟨#[]⟩ : ByteArray).size = 0 := rfl
  unfold cmB; omega
theorem smL_le {α : Type} {f : α → Nat} {B : Nat} : ∀ l : List α, (∀ a ∈ l, f a ≤ B) → smL f l ≤ l.length * B
  | [], _ => by rw [smL]; exact qZ _
  | a :: r, h => by
    rw [smL, qM, Nat.add_mul]
    have := h a (by simp); have := smL_le r fun b hb => h b (by simp [hb]); omega
theorem cmB_bd {l : List ByteArray} {N B : Nat} (hn : l.length ≤ N) (hB : ∀ u ∈ l, u.size ≤ B) : smL ByteArray.size l + 2 * l.length ≤ N * B + 2 * N := by
  have h1 := smL_le (f := ByteArray.size) l hB
  have h2 : l.length * B ≤ N * B := Nat.mul_le_mul_right _ hn
  omega
theorem cmA_st {l : List ByteArray} {i : Nat} {t R : ByteArray} (hi : i < l.length) (h : cmA t (decide (i = 0)) (l.drop i) = R) : cmA ((if i = 0 then t else t ++ ⟨#[44, 32]⟩) ++ l[i]) (decide (i + 1 = 0)) (l.drop (i + 1)) = R := by
  rw [qH hi, cmA] at h
  rw [jI (by omega)]
  rw [← h]
  by_cases h0 : i = 0
  · rw [if_pos h0, if_pos (by simp [h0])]
  · rw [if_neg h0, if_neg (by simp [h0])]
theorem map_take3 {α β : Type} {f : α → β} {l : List α} {i : Nat} (hi : i < l.length) : (l.take (i + 1)).map f = (l.take i).map f ++ [f l[i]] := by
  rw [qJ hi, qK]; rfl
theorem XW.ts00 {k sz : Nat} : XW (.c (.a (.ts 0 .nn sz []))) (.c (.a (.ts k .nn sz []))) := ⟨rfl, fun cc v h => by
  cases h with
  | tsE => exact .tsE
  | ts hk hne => exact absurd rfl hne⟩
theorem ghAdd {n : Nat} {t : Nat → X} {L : Nat → Option AO} {H : Heap} (x : AO) (hx : x.empty) : Gh ⟨n, t, L, H⟩ fun s' => ∃ k, H k = none ∧ s' = ⟨n, t, L, upd H k (some x)⟩ := fun c a w g => by
  obtain ⟨k, h1, h2, h3⟩ := g.add0 hx
  exact ⟨_, c, ⟨k, h1, rfl⟩, h2, h3⟩
theorem AW.emp {P : Program} {n : Nat} {t : Nat → X} {L : Nat → Option AO} {H : Heap} {cd : Code} {Q : Exit → S → Prop} (i : Nat) (e sz : Nat) (hi : t i = .c (.a (.ts 0 .nn sz []))) (k : ∀ k, H k = none → AW P cd Q ⟨n, upd t i (.c (.a (.ts k .nn sz []))), L, upd H k (some (.tip e sz 0))⟩) : AW P cd Q ⟨n, t, L, H⟩ :=
  AW.gh (ghAdd (.tip e sz 0) rfl) fun s' ⟨k', h1, h2⟩ => by
    subst h2
    exact AW.xw i hi XW.ts00 (k k' h1)
abbrev prT (l : List Ex) : List ByteArray := l.map fun e => prL e 1
def exB (l : List Ex) : ByteArray := cmB (prT l)
structure okP (e : Ex) : Prop where
  ok : Q.okE e
  fm : fmB e = true
  nd : ndE e ≤ 400
theorem okP.sz {e : Ex} (h : okP e) : (prL e 1).size ≤ 28002 := prL_size h.fm h.nd
theorem okP.pr {e : Ex} (h : okP e) : Pu 62 [exC e, iC 1] (.c (sC (prL e 1))) := print_txt e h.ok h.fm (by have := h.nd; omega) 1
theorem exB_size {l : List Ex} (hl : l.length ≤ 2000) (h : ∀ e ∈ l, okP e) : (exB l).size ≤ 56008000 := by
  have h1 := cmB_size (prT l)
  have h2 := cmB_bd (l := prT l) (N := 2000) (B := 28002) (by rw [qA]; exact hl) (fun u hu => by obtain ⟨e, he, rfl⟩ := jE.1 hu; exact (h e he).sz)
  unfold exB; omega
def whB (e : Ex) : ByteArray := if e.op = 0 then ⟨#[]⟩ else ⟨#[32, 87, 72, 69, 82, 69, 32]⟩ ++ prL e 1
theorem whB_size {e : Ex} (h : ¬ e.op = 0 → okP e) : (whB e).size ≤ 28009 := by
  unfold whB
  split
  · exact qZ _
  · rename_i k; rw [qE]; have := (h k).sz; have k2 : (⟨#[32, 87, 72, 69, 82, 69, 32]⟩ : ByteArray).size = 7 := rfl; omega
theorem num_neg (n : Int) (h0 : n < 0) (h1 : -10000000000 < n) : Pu 105 [iC n] (.c (sC (nuB n))) := by
 have kz0 : (⟨#[45]⟩ : ByteArray).size = 1 := rfl
 have hz := decB_size (n := (-n).toNat) (by omega)
 intro H
 refine Spec.enter Tryz.func105 rfl ?_
 refine AW.wk (wK 23 (l := [(0, .c (iC n))]) (ll := []) (H := (H))) ?_
 refine D1 ?_
 refine AW.seq (D3 ?_)
 refine cD ?_ ?_ <;> intro h4
 ·
  refine D1 ?_
  refine sQ (q_neg _ rfl rfl ((by show IntKind.i64.wrap (0 - n) = (((-n).toNat : Nat) : Int); rw [w64 (by omega) (by omega)]; omega : IntKind.i64.wrap _ = (((-n).toNat : Nat) : Int)))) ?_
  refine sQ (q_call _ rfl fn105 rfl (num_any (-n).toNat (by omega)) rfl) ?_
  refine G2 ?_
  exact aR (fE (e := sCe (by rw [nuB, if_pos h0])))
 exfalso; omega
theorem num_z (n : Int) (h : -10000000000 < n ∧ n < 10000000000) : Pu 105 [iC n] (.c (sC (nuB n))) := by
  by_cases h0 : n < 0
  · exact num_neg n h0 h.1
  · have e : nuB n = decB n.toNat := by rw [nuB, if_neg h0]
    rw [e]
    have k := num_any n.toNat (by omega)
    rw [show ((n.toNat : Nat) : Int) = n by omega] at k
    exact k
theorem comma_any (l : List ByteArray) (z : Nz) (hB : smL ByteArray.size l + 2 * l.length ≤ 1000000000000) : Pu 95 [sL z l] (.c (sC (cmB l))) := by
 have kz0 : (⟨#[44, 32]⟩ : ByteArray).size = 2 := rfl
 have kz1 : (⟨#[]⟩ : ByteArray).size = 0 := rfl
 intro H
 refine Spec.enter Tryz.func95 rfl ?_
 refine AW.wk (wK 22 (l := [(0, .c (sL z l))]) (ll := []) (H := (H))) ?_
 refine D1 ?_
 refine D1 ?_
 refine AW.seq (D1 ?_)
 refine AW.block (AW.loop (fun (i : Nat) s => ∃ (t : ByteArray), (i ≤ l.length ∧ t.size ≤ smL ByteArray.size (l.take i) + 2 * i ∧ cmA t (decide (i = 0)) (l.drop i) = cmB l) ∧ s = ⟨22, sp [(0, .c (sL z l)), (2, .c (sC ⟨#[]⟩)), (3, .c (sC t)), (4, nX i)], lv [], H⟩) (fun i => l.length - i) 0 ⟨_, by exact wK 22, ⟨#[]⟩, ⟨qZ _, qZ _, rfl⟩, rfl⟩ (fun i s hs => ?_))
 obtain ⟨t, ⟨hi0, ht, hE⟩, rfl⟩ := hs
 refine AW.seq (D5 ?_)
 refine cD ?_ ?_ <;> intro h8
 rotate_left
 ·
  refine AW.exit ?_
  refine eth_e ?_
  refine eth_e ?_
  refine exit_here ?_
  refine AW.seq ?_
  have hf : t = cmB l := by rw [qW (by rw [qA] at h8; omega), cmA] at hE; exact hE
  refine B2 ?_
  exact aR (fE (e := sCe hf))
 have hi := oI h8
 have htk := smL_put (f := ByteArray.size) hi
 have htl := smL_tk (f := ByteArray.size) (l := l) (i := i + 1)
 refine AW.skip (AW.seq (AW.block (AW.seq (D3 ?_))))
 refine cD ?_ ?_ <;> intro h12
 ·
  refine B3 ?_
  refine B7 ?_
  refine B3 ?_
  exact ⟨i + 1, _, by exact wK 22, by omega, (t ++ ⟨#[44, 32]⟩) ++ l[i], ⟨hi, by rw [qE, qE]; omega, by have := cmA_st hi hE; rw [if_neg (by omega)] at this; exact this⟩, rfl⟩
 refine AW.skip (B7 ?_)
 refine B3 ?_
 exact ⟨i + 1, _, by exact wK 22, by omega, t ++ l[i], ⟨hi, by rw [qE]; omega, by have := cmA_st hi hE; rw [if_pos (by omega)] at this; exact this⟩, rfl⟩
theorem exprsT_any (l : List Ex) (z : Nz) (hl : l.length ≤ 2000) (h : ∀ e ∈ l, okP e) : Pu 94 [exsC z l] (.c (sC (exB l))) := by
 intro H
 refine Spec.enter Tryz.func94 rfl ?_
 refine AW.wk (wK 22 (l := [(0, .c (exsC z l))]) (ll := []) (H := (H))) ?_
 refine D1 ?_
 refine sR (sQ (q_build0 rfl el51) ?_)
 refine sB ?_
 refine AW.seq (D1 ?_)
 refine AW.block (AW.emp 3 9 1 rfl (fun k0 hk0 => ?_))
 refine AW.loop (fun (i : Nat) s => ∃ (kt : Nat) (zs : List (List E.T)), (i ≤ l.length ∧ H kt = none ∧ zs = ((l.take i).map (fun e => prL e 1)).map sT ∧ zs.length = i) ∧ s = ⟨22, sp [(0, .c (exsC z l)), (2, .c (sC ⟨#[]⟩)), (4, nX i), (3, .c (.a (.ts kt .nn 1 zs)))], lv [], upd H kt (some (.tip 9 1 zs.length))⟩) (fun i => l.length - i) 0 ⟨_, by exact wK 22, k0, [], ⟨qZ _, hk0, rfl, rfl⟩, rfl⟩ (fun i s hs => ?_)
 obtain ⟨kt, zs, ⟨hi0, hkt, hzs, hzl⟩, rfl⟩ := hs
 refine AW.seq (D5 ?_)
 refine cD ?_ ?_ <;> intro h9
 ·
  have hi := oI h9
  refine AW.skip (AW.seq (AW.block (B5 ?_)))
  refine Z16 fn62 ((h _ (qC hi)).pr) ?_
  refine G1 ?_
  refine SeqK.app1 rfl (hkt) rfl el51 rfl rfl (by (try simp only [qG, qA, qP, qM, qQ]); (try simp [hzl]); omega) rfl rfl (fun k19 hk19 => ?_)
  refine sB ?_
  refine B3 ?_
  exact ⟨i + 1, _, by exact wK 22, by omega, k19, zs ++ [sT (prL l[i] 1)], ⟨hi, hk19, by rw [hzs, map_take3 hi, qK]; rfl, by simp [hzl]⟩, rfl⟩
 refine AW.exit ?_
 refine eth_e ?_
 refine eth_e ?_
 refine exit_here ?_
 refine AW.seq ?_
 obtain rfl := oE h9 hi0
 rw [qT] at hzs
 refine AW.xw 3 rfl (XW.ts.trans (XW.es hzs)) ?_
 refine B1 ?_
 refine sQ (q_call _ rfl fn95 rfl (comma_any _ _ (jB (cmB_bd (l := prT l) (N := 2000) (B := 28002) (by rw [qA]; exact hl) (fun u hu => by obtain ⟨e, he, rfl⟩ := jE.1 hu; exact (h e he).sz)) (by decide))) rfl) ?_
 refine sB ?_
 exact aR (fin_x (x := .c _) (H) (.tmp rfl .nil) rfl ((fun j o h => upd_sub hkt j o h)) (⟨sCe rfl, rfl⟩))
theorem where_any (st : St) (h : ¬ st.wh.op = 0 → okP st.wh) : Pu 96 [stC st] (.c (sC (whB st.wh))) := by
 have kz0 : (⟨#[32, 87, 72, 69, 82, 69, 32]⟩ : ByteArray).size = 7 := rfl
 intro H
 refine Spec.enter Tryz.func96 rfl ?_
 refine AW.wk (wK 11 (l := [(0, .c (stC st))]) (ll := []) (H := (H))) ?_
 refine D2 ?_
 refine AW.seq (D5 ?_)
 refine cD ?_ ?_ <;> intro h6
 ·
  refine D1 ?_
  exact aR (fE (e := sCe (by rw [whB, if_pos h6])))
 have hz := (h h6).sz
 refine AW.skip (D2 ?_)
 refine Z16 fn62 ((h h6).pr) ?_
 refine G2 ?_
 exact aR (fE (e := sCe (by rw [whB, if_neg h6])))
open Q
theorem put_zs {α : Type} {P : List ByteArray} {l : List α} {f : α → ByteArray} {i : Nat} {zs : List (List E.T)} {u : ByteArray} (hi : i < l.length) (h : zs = (P ++ (l.take i).map f).map sT) (hu : u = f l[i]) : zs ++ [sT u] = (P ++ (l.take (i + 1)).map f).map sT := by
  rw [h, map_take3 hi, hu]; simp only [qK, qO, qL, List.map_nil]
theorem bd_app {a b : ByteArray} {n m : Nat} (ha : a.size ≤ n) (hb : b.size ≤ m) : (a ++ b).size ≤ n + m := by rw [qE]; omega
def wds : List ByteArray := [⟨#[]⟩, ⟨#[67, 79, 85, 78, 84]⟩, ⟨#[67, 79, 85, 78, 84]⟩, ⟨#[83, 85, 77]⟩, ⟨#[77, 73, 78]⟩, ⟨#[77, 65, 88]⟩]
def wdA (n : Int) : ByteArray := wds.getD n.toNat ⟨#[]⟩
theorem wd_at {n : Int} (h : n.toNat < wds.length) : wds[n.toNat] = wdA n := by unfold wdA; rw [qI, qF h]; rfl
theorem wd_ix {n : Int} (h0 : 0 ≤ n) (h : n ≤ 5) : (wds.map sT)[n.toNat]? = some (sT (wdA n)) := by
  have hl : n.toNat < wds.length := by show n.toNat < 6; omega
  rw [qR, qF hl, wd_at hl]; rfl
theorem wd_size {n : Int} (h0 : 0 ≤ n) (h : n ≤ 5) : (wdA n).size ≤ 5 := by
  have : n = 0 ∨ n = 1 ∨ n = 2 ∨ n = 3 ∨ n = 4 ∨ n = 5 := by omega
  rcases this with rfl | rfl | rfl | rfl | rfl | rfl <;> decide
def itS (x : It) : ByteArray := if x.ag = 0 then prL x.ex 1 else if x.ag = 1 then ⟨#[67, 79, 85, 78, 84, 40, 42, 41]⟩ else wdA x.ag ++ ⟨#[40]⟩ ++ prL x.ex 1 ++ ⟨#[41]⟩
theorem it_0 {x : It} (h : x.ag = 0) : prL x.ex 1 = itS x := by rw [itS, if_pos h]
theorem it_1 {x : It} (h : ¬ x.ag = 0) (h1 : x.ag = 1) : ⟨#[67, 79, 85, 78, 84, 40, 42, 41]⟩ = itS x := by rw [itS, if_neg h, if_pos h1]
theorem it_2 {x : It} (h : ¬ x.ag = 0) (h1 : ¬ x.ag = 1) : wdA x.ag ++ ⟨#[40]⟩ ++ prL x.ex 1 ++ ⟨#[41]⟩ = itS x := by rw [itS, if_neg h, if_neg h1]
structure okIt (x : It) : Prop where
  lo : 0 ≤ x.ag
  hi : x.ag ≤ 5
  ex : x.ag ≠ 1 → okP x.ex
theorem it_size {x : It} (h : okIt x) : (itS x).size ≤ 28100 := by
  unfold itS
  split
  · rename_i k; have := (h.ex (by omega)).sz; omega
  · split
    · show 8 ≤ 28100; omega
    · rename_i k
      have h1 := (h.ex k).sz
      have h2 := wd_size h.lo h.hi
      have k1 : (⟨#[40]⟩ : ByteArray).size = 1 := rfl
      have k2 : (⟨#[41]⟩ : ByteArray).size = 1 := rfl
      simp only [qE]; omega
def itsT (l : List It) : ByteArray := if l.length = 0 then ⟨#[42]⟩ else cmB (l.map itS)
theorem its_bd {l : List It} (hl : l.length ≤ 2000) (h : ∀ x ∈ l, okIt x) : smL ByteArray.size (l.map itS) + 2 * (l.map itS).length ≤ 57000000 := jB (cmB_bd (N := 2000) (B := 28100) (by rw [qA]; exact hl) (fun u hu => by obtain ⟨e, he, rfl⟩ := jE.1 hu; exact it_size (h e he))) (by decide)
theorem its_size {l : List It} (hl : l.length ≤ 2000) (h : ∀ x ∈ l, okIt x) : (itsT l).size ≤ 57000000 := by
  unfold itsT
  split
  · show 1 ≤ _; omega
  · exact jB (cmB_size _) (its_bd hl h)
abbrev coE1 (x : Co) : ByteArray := x.nm ++ ⟨#[32, 73, 78, 84, 69, 71, 69, 82, 40]⟩ ++ nuB x.lo ++ ⟨#[44, 32]⟩ ++ nuB x.hi ++ ⟨#[41]⟩
abbrev coE2 (x : Co) : ByteArray := x.nm ++ ⟨#[32, 84, 69, 88, 84, 40]⟩ ++ nuB x.mx ++ ⟨#[41]⟩
def coS (x : Co) : ByteArray := if x.nn = true then (if x.ty = 1 then coE1 x else coE2 x) ++ ⟨#[32, 78, 79, 84, 32, 78, 85, 76, 76]⟩ else (if x.ty = 1 then coE1 x else coE2 x)
theorem co_1 {x : Co} (h : x.ty = 1) (hn : x.nn = true) : coE1 x ++ ⟨#[32, 78, 79, 84, 32, 78, 85, 76, 76]⟩ = coS x := by rw [coS, if_pos hn, if_pos h]
theorem co_2 {x : Co} (h : x.ty = 1) (hn : x.nn = false) : coE1 x = coS x := by rw [coS, if_neg (by rw [hn]; simp), if_pos h]
theorem co_3 {x : Co} (h : ¬ x.ty = 1) (hn : x.nn = true) : coE2 x ++ ⟨#[32, 78, 79, 84, 32, 78, 85, 76, 76]⟩ = coS x := by rw [coS, if_pos hn, if_neg h]
theorem co_4 {x : Co} (h : ¬ x.ty = 1) (hn : x.nn = false) : coE2 x = coS x := by rw [coS, if_neg (by rw [hn]; simp), if_neg h]
theorem colR_rg {x : Co} (h : colR x) : (-10000000000 < x.lo ∧ x.lo < 10000000000) ∧ (-10000000000 < x.hi ∧ x.hi < 10000000000) ∧ (-10000000000 < x.mx ∧ x.mx < 10000000000) := by omega
theorem co_size {x : Co} (h : colQ x) : (coS x).size ≤ 100 := by
  have h1 := h.1.1.2
  obtain ⟨r1, r2, r3⟩ := colR_rg h.2
  have s1 := nuB_size r1
  have s2 := nuB_size r2
  have s3 := nuB_size r3
  have e1 : (coE1 x).size ≤ 60 := by
    have k1 : (⟨#[32, 73, 78, 84, 69, 71, 69, 82, 40]⟩ : ByteArray).size = 9 := rfl
    have k2 : (⟨#[44, 32]⟩ : ByteArray).size = 2 := rfl
    have k3 : (⟨#[41]⟩ : ByteArray).size = 1 := rfl
    simp only [qE]; omega
  have e2 : (coE2 x).size ≤ 60 := by
    have k1 : (⟨#[32, 84, 69, 88, 84, 40]⟩ : ByteArray).size = 6 := rfl
    have k3 : (⟨#[41]⟩ : ByteArray).size = 1 := rfl
    simp only [qE]; omega
  have k : (⟨#[32, 78, 79, 84, 32, 78, 85, 76, 76]⟩ : ByteArray).size = 9 := rfl
  unfold coS
  split
  · split
    · exact jB (bd_app e1 (Nat.le_of_eq k)) (by decide)
    · exact jB (bd_app e2 (Nat.le_of_eq k)) (by decide)
  · split <;> omega
def kyS (l : List ByteArray) : ByteArray := ⟨#[85, 78, 73, 81, 85, 69, 32, 40]⟩ ++ cmB l ++ ⟨#[41]⟩
def fkS (f : Rf) : ByteArray := ⟨#[70, 79, 82, 69, 73, 71, 78, 32, 75, 69, 89, 32, 40]⟩ ++ cmB f.cols ++ ⟨#[41, 32, 82, 69, 70, 69, 82, 69, 78, 67, 69, 83, 32]⟩ ++ f.tab ++ ⟨#[32, 40]⟩ ++ cmB f.tgt ++ ⟨#[41]⟩
def ckS (e : Ex) : ByteArray := ⟨#[67, 72, 69, 67, 75, 32, 40]⟩ ++ prL e 1 ++ ⟨#[41]⟩
abbrev nmL (l : List ByteArray) : Prop := l.length ≤ 2000 ∧ ∀ u ∈ l, u.size ≤ 24
theorem nm_bd {l : List ByteArray} (h : nmL l) : smL ByteArray.size l + 2 * l.length ≤ 52000 := jB (cmB_bd (N := 2000) (B := 24) h.1 h.2) (by decide)
theorem nm_size {l : List ByteArray} (h : nmL l) : (cmB l).size ≤ 52000 := jB (cmB_size _) (nm_bd h)
structure okTd (d : Dn) : Prop where
  cl : d.cols.length ≤ 2000
  cn : ∀ x ∈ d.cols, colQ x
  kl : d.keys.length ≤ 2000
  kn : ∀ l ∈ d.keys, nmL l
  fl : d.fks.length ≤ 2000
  fn : ∀ f ∈ d.fks, nmL f.cols ∧ f.tab.size ≤ 24 ∧ nmL f.tgt
  xl : d.chks.length ≤ 2000
  xn : ∀ e ∈ d.chks, okP e
abbrev elL (d : Dn) : List ByteArray := d.cols.map coS ++ d.keys.map kyS ++ d.fks.map fkS ++ d.chks.map ckS
def elB (d : Dn) : ByteArray := cmB (elL d)
theorem el_bd {d : Dn} (h : okTd d) : smL ByteArray.size (elL d) + 2 * (elL d).length ≤ 900000000 := jB (cmB_bd (N := 8000) (B := 110000) (by simp only [qG, qA]; have := h.cl; have := h.kl; have := h.fl; have := h.xl; omega) (fun u hu => by
  rcases jC.1 hu with hu | hu
  · rcases jC.1 hu with hu | hu
    · rcases jC.1 hu with hu | hu
      · obtain ⟨x, hx, rfl⟩ := jE.1 hu; have := co_size (h.cn x hx); omega
      · obtain ⟨x, hx, rfl⟩ := jE.1 hu
        have := nm_size (h.kn x hx)
        have k1 : (⟨#[85, 78, 73, 81, 85, 69, 32, 40]⟩ : ByteArray).size = 8 := rfl
        have k2 : (⟨#[41]⟩ : ByteArray).size = 1 := rfl
        unfold kyS; simp only [qE]; omega
    · obtain ⟨x, hx, rfl⟩ := jE.1 hu
      obtain ⟨f1, f2, f3⟩ := h.fn x hx
      have := nm_size f1
      have := nm_size f3
      have k1 : (⟨#[70, 79, 82, 69, 73, 71, 78, 32, 75, 69, 89, 32, 40]⟩ : ByteArray).size = 13 := rfl
      have k2 : (⟨#[41, 32, 82, 69, 70, 69, 82, 69, 78, 67, 69, 83, 32]⟩ : ByteArray).size = 13 := rfl
      have k3 : (⟨#[32, 40]⟩ : ByteArray).size = 2 := rfl
      have k4 : (⟨#[41]⟩ : ByteArray).size = 1 := rfl
      unfold fkS; simp only [qE]; omega
  · obtain ⟨x, hx, rfl⟩ := jE.1 hu
    have := (h.xn x hx).sz
    have k1 : (⟨#[67, 72, 69, 67, 75, 32, 40]⟩ : ByteArray).size = 7 := rfl
    have k2 : (⟨#[41]⟩ : ByteArray).size = 1 := rfl
    unfold ckS; simp only [qE]; omega)) (by decide)
theorem el_size {d : Dn} (h : okTd d) : (elB d).size ≤ 900000000 := jB (cmB_size _) (el_bd h)
theorem items_any2 (l : List It) (z : Nz) (hl : l.length ≤ 2000) (h : ∀ x ∈ l, okIt x) : Pu 140 [itsC z l] (.c (sC (itsT l))) := by
 have kz0 : (⟨#[40]⟩ : ByteArray).size = 1 := rfl
 have kz1 : (⟨#[41]⟩ : ByteArray).size = 1 := rfl
 intro H
 refine Spec.enter Tryz.func140 rfl ?_
 refine AW.wk (wK 60 (l := [(0, .c (itsC z l))]) (ll := []) (H := (H))) ?_
 refine D1 ?_
 refine AW.seq (D4 ?_)
 refine cD ?_ ?_ <;> intro h8
 ·
  refine D1 ?_
  exact aR (fE (e := sCe (by rw [itsT, if_pos (by (try simp only [qA] at h8); omega)])))
 refine AW.skip (sR (sQ (q_build0 rfl el51) ?_))
 refine sB ?_
 refine AW.seq (D1 ?_)
 refine AW.block (AW.emp 3 9 1 rfl (fun k0 hk0 => ?_))
 refine AW.loop (fun (i : Nat) s => ∃ (kt : Nat) (zs : List (List E.T)), (i ≤ l.length ∧ H kt = none ∧ zs = ([] ++ (l.take i).map itS).map sT ∧ zs.length ≤ 0 + i) ∧ s = ⟨60, sp [(0, .c (itsC z l)), (2, .c (sC ⟨#[]⟩)), (4, nX i), (3, .c (.a (.ts kt .nn 1 zs)))], lv [], upd H kt (some (.tip 9 1 zs.length))⟩) (fun i => l.length - i) 0 ⟨_, by exact wK 60, k0, [], ⟨qZ _, hk0, rfl, qZ _⟩, rfl⟩ (fun i s hs => ?_)
 obtain ⟨kt, zs, ⟨hi0, hkt, hzs, hzl⟩, rfl⟩ := hs
 refine AW.seq (D5 ?_)
 refine cD ?_ ?_ <;> intro h13
 rotate_left
 ·
  refine AW.exit ?_
  refine eth_e ?_
  refine eth_e ?_
  refine exit_here ?_
  refine AW.seq ?_
  obtain rfl := oE h13 hi0
  rw [qT] at hzs
  refine AW.xw 3 rfl (XW.ts.trans (XW.es hzs)) ?_
  refine B1 ?_
  refine sQ (q_call _ rfl fn95 rfl (comma_any _ _ (jB (its_bd hl h) (by decide))) rfl) ?_
  refine sB ?_
  exact aR (fin_x (x := .c _) (H) (.tmp rfl .nil) rfl ((fun j o h => upd_sub hkt j o h)) (⟨sCe (by rw [itsT, if_neg (by (try simp only [qA] at h8); omega)]; rfl), rfl⟩))
 have hi := oI h13
 have hxi := h _ (qC hi)
 have hlo := hxi.lo
 have hup := hxi.hi
 have hws := wd_size hlo hup
 refine AW.skip (AW.seq (AW.block (D1 ?_)))
 refine SeqK.xw 16 rfl (XW.es (es' := wds.map sT) rfl) ?_
 refine G5 ?_
 refine Z12 sl51 (wd_ix hlo hup) ?_
 refine G2 ?_
 refine D6 ?_
 refine AW.block (D2 ?_)
 refine cD ?_ ?_ <;> intro h42
 ·
  refine B6 ?_
  refine sQ (q_call _ rfl fn62 rfl ((hxi.ex (by omega)).pr) rfl) ?_
  refine G1 ?_
  refine SeqK.app1 rfl (hkt) rfl el51 rfl rfl (by (try simp only [qG, qA, qP, qM, qQ]); omega) rfl rfl (fun k52 hk52 => ?_)
  refine sB ?_
  refine B3 ?_
  exact ⟨i + 1, _, by exact wK 60, by omega, k52, zs ++ [sT (prL l[i].ex 1)], ⟨hi, hk52, put_zs hi hzs (it_0 h42), by (try simp only [qG, qP]); omega⟩, rfl⟩
 refine D2 ?_
 refine cD ?_ ?_ <;> intro h53
 ·
  refine B2 ?_
  refine SeqK.app1 rfl (hkt) rfl el51 rfl rfl (by (try simp only [qG, qA, qP, qM, qQ]); omega) rfl rfl (fun k57 hk57 => ?_)
  refine sB ?_
  refine B3 ?_
  exact ⟨i + 1, _, by exact wK 60, by omega, k57, zs ++ [sT (⟨#[67, 79, 85, 78, 84, 40, 42, 41]⟩)], ⟨hi, hk57, put_zs hi hzs (it_1 h42 h53), by (try simp only [qG, qP]); omega⟩, rfl⟩
 have hsz := (hxi.ex (by omega)).sz
 refine B8 ?_
 refine sQ (q_call _ rfl fn62 rfl ((hxi.ex (by omega)).pr) rfl) ?_
 refine G3 ?_
 refine SeqK.app1 rfl (hkt) rfl el51 rfl rfl (by (try simp only [qG, qA, qP, qM, qQ]); omega) rfl rfl (fun k41 hk41 => ?_)
 refine sB ?_
 refine B3 ?_
 exact ⟨i + 1, _, by exact wK 60, by omega, k41, zs ++ [sT (wdA l[i].ag ++ ⟨#[40]⟩ ++ prL l[i].ex 1 ++ ⟨#[41]⟩)], ⟨hi, hk41, put_zs hi hzs (it_2 h42 h53), by (try simp only [qG, qP]); omega⟩, rfl⟩
theorem elements_any (d : Dn) (hk : okTd d) : Pu 93 [dnC d] (.c (sC (elB d))) := by
 have kz0 : (⟨#[32, 84, 69, 88, 84, 40]⟩ : ByteArray).size = 6 := rfl
 have kz1 : (⟨#[41]⟩ : ByteArray).size = 1 := rfl
 have kz2 : (⟨#[32, 73, 78, 84, 69, 71, 69, 82, 40]⟩ : ByteArray).size = 9 := rfl
 have kz3 : (⟨#[44, 32]⟩ : ByteArray).size = 2 := rfl
 have kz4 : (⟨#[32, 78, 79, 84, 32, 78, 85, 76, 76]⟩ : ByteArray).size = 9 := rfl
 have kz5 : (⟨#[85, 78, 73, 81, 85, 69, 32, 40]⟩ : ByteArray).size = 8 := rfl
 have kz6 : (⟨#[70, 79, 82, 69, 73, 71, 78, 32, 75, 69, 89, 32, 40]⟩ : ByteArray).size = 13 := rfl
 have kz7 : (⟨#[41, 32, 82, 69, 70, 69, 82, 69, 78, 67, 69, 83, 32]⟩ : ByteArray).size = 13 := rfl
 have kz8 : (⟨#[32, 40]⟩ : ByteArray).size = 2 := rfl
 have kz9 : (⟨#[67, 72, 69, 67, 75, 32, 40]⟩ : ByteArray).size = 7 := rfl
 have hcl := hk.cl
 have hkl := hk.kl
 have hfl := hk.fl
 have hxl := hk.xl
 intro H
 refine Spec.enter Tryz.func93 rfl ?_
 refine AW.wk (wK 123 (l := [(0, .c (dnC d))]) (ll := []) (H := (H))) ?_
 refine D2 ?_
 refine sR (sQ (q_build0 rfl el51) ?_)
 refine sB ?_
 refine AW.seq (D1 ?_)
 refine AW.block (AW.emp 3 9 1 rfl (fun k0 hk0 => ?_))
 refine AW.loop (fun (i : Nat) s => ∃ (kt : Nat) (zs : List (List E.T)), (i ≤ d.cols.length ∧ H kt = none ∧ zs = ([] ++ (d.cols.take i).map coS).map sT ∧ zs.length ≤ 0 + i) ∧ s = ⟨123, sp [(1, .lp 1 0), (2, .c (sC ⟨#[]⟩)), (4, nX i), (3, .c (.a (.ts kt .nn 1 zs)))], lv [(1, .box (zDn d))], upd H kt (some (.tip 9 1 zs.length))⟩) (fun i => d.cols.length - i) 0 ⟨_, by exact wK 123, k0, [], ⟨qZ _, hk0, rfl, qZ _⟩, rfl⟩ (fun i s hs => ?_)
 obtain ⟨kt, zs, ⟨hi0, hkt, hzs, hzl⟩, rfl⟩ := hs
 refine AW.seq (D6 ?_)
 refine cD ?_ ?_ <;> intro h16
 ·
  have hi := oI h16
  have hcq := hk.cn _ (qC hi)
  have hnz := hcq.1.1.2
  obtain ⟨r1, r2, r3⟩ := colR_rg hcq.2
  have s1 := nuB_size r1
  have s2 := nuB_size r2
  have s3 := nuB_size r3
  refine AW.skip (AW.seq (AW.block (D8 ?_)))
  refine AW.seq (AW.draw mo ?_)
  refine N5 ?_
  refine Z35 fn105 (num_z _ r3) ?_
  refine N4 ?_
  refine AW.seq (D4 ?_)
  refine cD ?_ ?_ <;> intro h34
  ·
   refine AW.draw mo ?_
   refine N5 ?_
   refine Z35 fn105 (num_z _ r1) ?_
   refine N4 ?_
   refine Z35 fn105 (num_z _ r2) ?_
   refine N4 ?_
   refine AW.seq (D3 ?_)
   refine AW.cond _ rfl (fun h49 => ?_) (fun h49 => ?_)
   ·
    refine B3 ?_
    refine B3 ?_
    refine SeqK.app1 rfl (hkt) rfl el51 rfl rfl (by (try simp only [qG, qA, qP, qM, qQ]); omega) rfl rfl (fun k55 hk55 => ?_)
    refine sB ?_
    refine B3 ?_
    exact ⟨i + 1, _, by exact wK 123, by omega, k55, zs ++ [sT (d.cols[i].nm ++ ⟨#[32, 73, 78, 84, 69, 71, 69, 82, 40]⟩ ++ nuB d.cols[i].lo ++ ⟨#[44, 32]⟩ ++ nuB d.cols[i].hi ++ ⟨#[41]⟩ ++ ⟨#[32, 78, 79, 84, 32, 78, 85, 76, 76]⟩)], ⟨hi, hk55, put_zs hi hzs (co_1 h34 h49), by (try simp only [qG, qP]); omega⟩, rfl⟩
   refine AW.skip (B3 ?_)
   refine SeqK.app1 rfl (hkt) rfl el51 rfl rfl (by (try simp only [qG, qA, qP, qM, qQ]); omega) rfl rfl (fun k55 hk55 => ?_)
   refine sB ?_
   refine B3 ?_
   exact ⟨i + 1, _, by exact wK 123, by omega, k55, zs ++ [sT (d.cols[i].nm ++ ⟨#[32, 73, 78, 84, 69, 71, 69, 82, 40]⟩ ++ nuB d.cols[i].lo ++ ⟨#[44, 32]⟩ ++ nuB d.cols[i].hi ++ ⟨#[41]⟩)], ⟨hi, hk55, put_zs hi hzs (co_2 h34 h49), by (try simp only [qG, qP]); omega⟩, rfl⟩
  refine AW.skip (AW.seq (D3 ?_))
  refine AW.cond _ rfl (fun h49 => ?_) (fun h49 => ?_)
  ·
   refine B3 ?_
   refine B3 ?_
   refine SeqK.app1 rfl (hkt) rfl el51 rfl rfl (by (try simp only [qG, qA, qP, qM, qQ]); omega) rfl rfl (fun k55 hk55 => ?_)
   refine sB ?_
   refine B3 ?_
   exact ⟨i + 1, _, by exact wK 123, by omega, k55, zs ++ [sT (d.cols[i].nm ++ ⟨#[32, 84, 69, 88, 84, 40]⟩ ++ nuB d.cols[i].mx ++ ⟨#[41]⟩ ++ ⟨#[32, 78, 79, 84, 32, 78, 85, 76, 76]⟩)], ⟨hi, hk55, put_zs hi hzs (co_3 h34 h49), by (try simp only [qG, qP]); omega⟩, rfl⟩
  refine AW.skip (B3 ?_)
  refine SeqK.app1 rfl (hkt) rfl el51 rfl rfl (by (try simp only [qG, qA, qP, qM, qQ]); omega) rfl rfl (fun k55 hk55 => ?_)
  refine sB ?_
  refine B3 ?_
  exact ⟨i + 1, _, by exact wK 123, by omega, k55, zs ++ [sT (d.cols[i].nm ++ ⟨#[32, 84, 69, 88, 84, 40]⟩ ++ nuB d.cols[i].mx ++ ⟨#[41]⟩)], ⟨hi, hk55, put_zs hi hzs (co_4 h34 h49), by (try simp only [qG, qP]); omega⟩, rfl⟩
 refine AW.exit ?_
 refine eth_e ?_
 refine eth_e ?_
 refine exit_here ?_
 refine AW.seq (AW.seq ?_)
 obtain rfl := oE h16 hi0
 rw [qT] at hzs
 refine B1 ?_
 refine AW.block (AW.loop (fun (i : Nat) s => ∃ (kt : Nat) (zs : List (List E.T)), (i ≤ d.keys.length ∧ H kt = none ∧ zs = (d.cols.map coS ++ (d.keys.take i).map kyS).map sT ∧ zs.length ≤ 2000 + i) ∧ s = ⟨123, sp [(1, .lp 1 0), (2, .c (sC ⟨#[]⟩)), (7, nX i), (3, .c (.a (.ts kt .nn 1 zs)))], lv [(1, .box (zDn d))], upd H kt (some (.tip 9 1 zs.length))⟩) (fun i => d.keys.length - i) 0 ⟨_, by exact wK 123, kt, zs, ⟨qZ _, hkt, by rw [hzs]; simp only [List.take_zero, List.map_nil, List.append_nil, List.nil_append], by omega⟩, rfl⟩ (fun i s hs => ?_))
 obtain ⟨kt, zs, ⟨hi0, hkt, hzs, hzl⟩, rfl⟩ := hs
 refine AW.seq (D6 ?_)
 refine cD ?_ ?_ <;> intro h60
 ·
  have hi := oI h60
  have hki := hk.kn _ (qC hi)
  have hks := nm_size hki
  refine AW.skip (AW.seq (AW.block (B6 ?_)))
  refine sQ (q_call _ rfl fn95 rfl (comma_any _ _ (jB (nm_bd hki) (by decide))) rfl) ?_
  refine G3 ?_
  refine SeqK.app1 rfl (hkt) rfl el51 rfl rfl (by (try simp only [qG, qA, qP, qM, qQ]); omega) rfl rfl (fun k73 hk73 => ?_)
  refine sB ?_
  refine B3 ?_
  exact ⟨i + 1, _, by exact wK 123, by omega, k73, zs ++ [sT (⟨#[85, 78, 73, 81, 85, 69, 32, 40]⟩ ++ cmB d.keys[i] ++ ⟨#[41]⟩)], ⟨hi, hk73, put_zs hi hzs (rfl), by (try simp only [qG, qP]); omega⟩, rfl⟩
 refine AW.exit ?_
 refine eth_e ?_
 refine eth_e ?_
 refine exit_here ?_
 refine AW.seq (AW.seq ?_)
 obtain rfl := oE h60 hi0
 rw [qT] at hzs
 refine B1 ?_
 refine AW.block (AW.loop (fun (i : Nat) s => ∃ (kt : Nat) (zs : List (List E.T)), (i ≤ d.fks.length ∧ H kt = none ∧ zs = ((d.cols.map coS ++ d.keys.map kyS) ++ (d.fks.take i).map fkS).map sT ∧ zs.length ≤ 4000 + i) ∧ s = ⟨123, sp [(1, .lp 1 0), (2, .c (sC ⟨#[]⟩)), (8, nX i), (3, .c (.a (.ts kt .nn 1 zs)))], lv [(1, .box (zDn d))], upd H kt (some (.tip 9 1 zs.length))⟩) (fun i => d.fks.length - i) 0 ⟨_, by exact wK 123, kt, zs, ⟨qZ _, hkt, by rw [hzs]; simp only [List.take_zero, List.map_nil, List.append_nil, List.nil_append], by omega⟩, rfl⟩ (fun i s hs => ?_))
 obtain ⟨kt, zs, ⟨hi0, hkt, hzs, hzl⟩, rfl⟩ := hs
 refine AW.seq (D6 ?_)
 refine cD ?_ ?_ <;> intro h78
 ·
  have hi := oI h78
  obtain ⟨hf1, hf2, hf3⟩ := hk.fn _ (qC hi)
  have hs1 := nm_size hf1
  have hs3 := nm_size hf3
  refine AW.skip (AW.seq (AW.block (D8 ?_)))
  refine AW.drawO [0, 1, 2, 3, 4, 5, 6, 7, 8, 9, 10, 11, 12, 13, 14, 15, 16, 17] mo (by kernel_rfl) ?_
  refine LexO.q rfl (by kernel_rfl) (q_mvC rfl rfl) rfl rfl rfl ?_
  refine LexO.q rfl (by kernel_rfl) (q_fieldL _ rfl fl110_0 rfl rfl) rfl rfl rfl ?_
  refine LexO.r rfl (by kernel_rfl) (b_load (r := .a _) rfl ty51 rfl rfl rfl rfl rfl rfl) rfl ?_
  refine LexO.q rfl (by kernel_rfl) (q_call _ rfl fn95 rfl (comma_any _ _ (jB (nm_bd hf1) (by decide))) rfl) rfl rfl rfl ?_
  refine LexO.q rfl (by kernel_rfl) (q_addS rfl rfl rfl (by first | omega | (simp only [qE]; omega))) rfl rfl rfl ?_
  refine LexO.q rfl (by kernel_rfl) (q_addS rfl rfl rfl (by first | omega | (simp only [qE]; omega))) rfl rfl rfl ?_
  refine LexO.q rfl (by kernel_rfl) (q_fieldL _ rfl fl110_1 rfl rfl) rfl rfl rfl ?_
  refine LexO.r rfl (by kernel_rfl) (b_load (r := .a _) rfl ty9 rfl rfl rfl rfl rfl rfl) rfl ?_
  refine LexO.q rfl (by kernel_rfl) (q_addS rfl rfl rfl (by first | omega | (simp only [qE]; omega))) rfl rfl rfl ?_
  refine LexO.q rfl (by kernel_rfl) (q_addS rfl rfl rfl (by first | omega | (simp only [qE]; omega))) rfl rfl rfl ?_
  refine LexO.q rfl (by kernel_rfl) (q_fieldL _ rfl fl110_2 rfl rfl) rfl rfl rfl ?_
  refine LexO.r rfl (by kernel_rfl) (b_load (r := .a _) rfl ty51 rfl rfl rfl rfl rfl rfl) rfl ?_
  refine LexO.q rfl (by kernel_rfl) (q_call _ rfl fn95 rfl (comma_any _ _ (jB (nm_bd hf3) (by decide))) rfl) rfl rfl rfl ?_
  refine LexO.q rfl (by kernel_rfl) (q_addS rfl rfl rfl (by first | omega | (simp only [qE]; omega))) rfl rfl rfl ?_
  refine LexO.q rfl (by kernel_rfl) (q_addS rfl rfl rfl (by first | omega | (simp only [qE]; omega))) rfl rfl rfl ?_
  refine LexO.q rfl (by kernel_rfl) (q_buildSlice _ rfl el51 rfl (by decide) rfl) rfl rfl rfl ?_
  refine LexO.app1 rfl (by kernel_rfl) (by kernel_rfl) (by kernel_rfl) rfl (hkt) rfl el51 rfl rfl (by (try simp only [qG, qA, qP, qM, qQ]); omega) rfl rfl (fun k102 hk102 => ?_)
  refine LexO.q rfl (by kernel_rfl) (q_asC rfl rfl) rfl rfl rfl ?_
  refine LexO.nil (by kernel_rfl) ?_
  refine B3 ?_
  exact ⟨i + 1, _, by exact wK 123, by omega, k102, zs ++ [sT (⟨#[70, 79, 82, 69, 73, 71, 78, 32, 75, 69, 89, 32, 40]⟩ ++ cmB d.fks[i].cols ++ ⟨#[41, 32, 82, 69, 70, 69, 82, 69, 78, 67, 69, 83, 32]⟩ ++ d.fks[i].tab ++ ⟨#[32, 40]⟩ ++ cmB d.fks[i].tgt ++ ⟨#[41]⟩)], ⟨hi, hk102, put_zs hi hzs (rfl), by (try simp only [qG, qP]); omega⟩, rfl⟩
 refine AW.exit ?_
 refine eth_e ?_
 refine eth_e ?_
 refine exit_here ?_
 refine AW.seq (AW.seq ?_)
 obtain rfl := oE h78 hi0
 rw [qT] at hzs
 refine B1 ?_
 refine AW.block (AW.loop (fun (i : Nat) s => ∃ (kt : Nat) (zs : List (List E.T)), (i ≤ d.chks.length ∧ H kt = none ∧ zs = ((d.cols.map coS ++ d.keys.map kyS ++ d.fks.map fkS) ++ (d.chks.take i).map ckS).map sT ∧ zs.length ≤ 6000 + i) ∧ s = ⟨123, sp [(1, .lp 1 0), (2, .c (sC ⟨#[]⟩)), (10, nX i), (3, .c (.a (.ts kt .nn 1 zs)))], lv [(1, .box (zDn d))], upd H kt (some (.tip 9 1 zs.length))⟩) (fun i => d.chks.length - i) 0 ⟨_, by exact wK 123, kt, zs, ⟨qZ _, hkt, by rw [hzs]; simp only [List.take_zero, List.map_nil, List.append_nil, List.nil_append], by omega⟩, rfl⟩ (fun i s hs => ?_))
 obtain ⟨kt, zs, ⟨hi0, hkt, hzs, hzl⟩, rfl⟩ := hs
 refine AW.seq (D6 ?_)
 refine cD ?_ ?_ <;> intro h107
 ·
  have hi := oI h107
  have hxi := hk.xn _ (qC hi)
  have hxs := hxi.sz
  refine AW.skip (AW.seq (AW.block (B6 ?_)))
  refine Z16 fn62 (hxi.pr) ?_
  refine G3 ?_
  refine SeqK.app1 rfl (hkt) rfl el51 rfl rfl (by (try simp only [qG, qA, qP, qM, qQ]); omega) rfl rfl (fun k120 hk120 => ?_)
  refine sB ?_
  refine B3 ?_
  exact ⟨i + 1, _, by exact wK 123, by omega, k120, zs ++ [sT (⟨#[67, 72, 69, 67, 75, 32, 40]⟩ ++ prL d.chks[i] 1 ++ ⟨#[41]⟩)], ⟨hi, hk120, put_zs hi hzs (rfl), by (try simp only [qG, qP]); omega⟩, rfl⟩
 refine AW.exit ?_
 refine eth_e ?_
 refine eth_e ?_
 refine exit_here ?_
 refine AW.seq ?_
 obtain rfl := oE h107 hi0
 rw [qT] at hzs
 refine AW.xw 3 rfl (XW.ts.trans (XW.es hzs)) ?_
 refine B1 ?_
 refine sQ (q_call _ rfl fn95 rfl (comma_any _ _ (jB (el_bd hk) (by decide))) rfl) ?_
 refine sB ?_
 exact aR (fin_x (x := .c _) (H) (.tmp rfl .nil) rfl ((fun j o h => upd_sub hkt j o h)) (⟨sCe rfl, rfl⟩))
end Go.Proofs.YtgnnjebfoffphaaGreatDoor.W
