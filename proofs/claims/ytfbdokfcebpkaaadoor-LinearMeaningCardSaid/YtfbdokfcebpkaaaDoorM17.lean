/- Parts of the proof, one after the other: W40, W41. No condition. -/
import Derived.Test.YtfbdokfcebpkaaaDoorM16
namespace Go.Proofs.YtfbdokfcebpkaaaDoor.W
open Go.RowKit E M
set_option linter.unusedVariables false
set_option linter.unusedSimpArgs false
set_option linter.unusedSectionVars false
def evO (r : List RV) (ix kind : Int) : Int × Bool :=
  if ix < 0 ∨ (r.length : Int) ≤ ix ∨ (r.getD ix.toNat ⟨0, 0, ⟨#[]⟩⟩).k ≠ kind then (0, false)
  else if kind = 2 then (((r.getD ix.toNat ⟨0, 0, ⟨#[]⟩⟩).s.size : Int), true) else ((r.getD ix.toNat ⟨0, 0, ⟨#[]⟩⟩).n, true)
def lenV (r : List RV) : List Ex → Int × Bool
  | [] => (0, false)
  | a :: _ => if a.op = 1 then ((a.vs.size : Int), true) else evO r a.ix 2
def negV : List (Int × Bool) → Int × Bool
  | [] => (0, false)
  | v :: _ => (w ((0 : Int) - v.1), v.2)
def opV (op a b : Int) : Int := if op = 4 then w (a + b) else if op = 5 then w (a - b) else if op = 6 then w (a * b) else if op = 7 then a / b else w (a - w (b * (a / b)))
def binV (op : Int) : List (Int × Bool) → Int × Bool
  | a :: b :: _ => if a.2 = true ∧ b.2 = true then (opV op a.1 b.1, true) else (0, false)
  | _ => (0, false)
def stepV (r : List RV) (op ix vk vn : Int) (args : List Ex) (vs : List (Int × Bool)) : Int × Bool :=
  if op = 1 then (vn, decide (vk = 1)) else if op = 2 then evO r ix 1 else if op = 9 then lenV r args else if op = 3 then negV vs else binV op vs
mutual
def evE (r : List RV) : Ex → Int × Bool
  | .mk op _ _ ix vk vn _ args => stepV r op ix vk vn args (evEs r args)
def evEs (r : List RV) : List Ex → List (Int × Bool)
  | [] => []
  | a :: l => evE r a :: evEs r l
end
theorem evEs_map (r : List RV) : ∀ l, evEs r l = l.map (evE r)
  | [] => rfl
  | a :: l => by rw [evEs, evEs_map r l, List.map_cons]
theorem evE_eq (r : List RV) (e : Ex) : evE r e = stepV r e.op e.ix e.vk e.vn e.args (e.args.map (evE r)) := by cases e; rw [evE, evEs_map]
section
variable {r : List RV} {e : Ex}
theorem ev1 (h : e.op = 1) : evE r e = (e.vn, decide (e.vk = 1)) := by rw [evE_eq, stepV, if_pos h]
theorem ev2 (h : e.op = 2) : evE r e = evO r e.ix 1 := by rw [evE_eq, stepV, if_neg (by omega), if_pos h]
theorem ev9 (h : e.op = 9) (h0 : 0 < e.args.length) : evE r e = if e.args[0].op = 1 then ((e.args[0].vs.size : Int), true) else evO r e.args[0].ix 2 := by
  rw [evE_eq, stepV, if_neg (by omega), if_neg (by omega), if_pos h]
  match hh : e.args, h0 with
  | a :: l, _ => rfl
theorem ev3 (h : e.op = 3) (h0 : 0 < e.args.length) : evE r e = (w ((0 : Int) - (evE r e.args[0]).1), (evE r e.args[0]).2) := by
  rw [evE_eq, stepV, if_neg (by omega), if_neg (by omega), if_neg (by omega), if_pos h]
  match hh : e.args, h0 with
  | a :: l, _ => rfl
theorem evB (h : ¬ e.op = 1) (h2 : ¬ e.op = 2) (h9 : ¬ e.op = 9) (h3 : ¬ e.op = 3) (h0 : 0 < e.args.length) (h1 : 1 < e.args.length) : evE r e = if (evE r e.args[0]).2 = true ∧ (evE r e.args[1]).2 = true then (opV e.op (evE r e.args[0]).1 (evE r e.args[1]).1, true) else (0, false) := by
  rw [evE_eq, stepV, if_neg h, if_neg h2, if_neg h9, if_neg h3]
  match hh : e.args, h0, h1 with
  | a :: b :: l, _, _ => rfl
theorem OkE.one (h : OkE e) (h9 : e.op = 9) : 0 < e.args.length := by
  cases h with
  | lenT a h1 h2 | lenC a h1 h2 => rw [h2]; simp
  | lit h1 | col h1 => omega
  | neg a h1 => omega
  | bin a b h1 => omega
theorem OkE.neg1 (h : OkE e) (h9 : e.op = 3) : ∃ h : 0 < e.args.length, (ofE e.args[0]).2 = 0 := by
  cases h with
  | lenT a h1 h2 | lenC a h1 h2 => omega
  | lit h1 | col h1 => omega
  | neg a h1 h2 h3 => exact ⟨by rw [h2]; simp, by simp only [h2]; exact h3⟩
  | bin a b h1 => omega
theorem OkE.two (h : OkE e) (h1 : ¬ e.op = 1) (h2 : ¬ e.op = 2) (h9 : ¬ e.op = 9) (h3 : ¬ e.op = 3) : ∃ (h0 : 0 < e.args.length) (h1 : 1 < e.args.length), (ofE e.args[0]).2 = 0 ∧ (ofE e.args[1]).2 = 0 ∧ 4 ≤ e.op ∧ e.op ≤ 8 ∧ ofE e = comb e.op (ofE e.args[0]).1 (ofE e.args[1]).1 := by
  cases h with
  | lenT a h1 h2 | lenC a h1 h2 => omega
  | lit h1 | col h1 => omega
  | neg a h1 h2 h3 => omega
  | bin a b k1 k2 k3 k4 k5 => exact ⟨by rw [k2]; simp, by rw [k2]; simp, by simp only [k2]; exact k3, by simp only [k2]; exact k4, k1.1, k1.2, by simp only [k2]; exact k5⟩
end
/-! the value of the term -/
theorem rowB_v {r : List RV} (h : rowB r = true) : ∀ v ∈ r, (-2147483648 ≤ v.n ∧ v.n ≤ 2147483647) ∧ v.s.size ≤ 16 := fun v hv => by
  have h1 := (Bool.and_eq_true_iff.1 h).1
  have := List.all_eq_true.1 h1 v hv
  simp only [vB, decide_eq_true_eq] at this
  exact ⟨⟨this.1, this.2.1⟩, this.2.2⟩
theorem evO_ok {r : List RV} {ix kind : Int} (h : (evO r ix kind).2 = true) : 0 ≤ ix ∧ ∃ hh : ix.toNat < r.length, r[ix.toNat].k = kind ∧ evO r ix kind = (if kind = 2 then (r[ix.toNat].s.size : Int) else r[ix.toNat].n, true) := by
  unfold evO at h ⊢
  by_cases hc : ix < 0 ∨ (r.length : Int) ≤ ix ∨ (r.getD ix.toNat ⟨0, 0, ⟨#[]⟩⟩).k ≠ kind
  · rw [if_pos hc] at h; cases h
  · rw [if_neg hc]
    have h0 : 0 ≤ ix := by omega
    have h1 : ix.toNat < r.length := by omega
    have e : r.getD ix.toNat ⟨0, 0, ⟨#[]⟩⟩ = r[ix.toNat] := by simp [List.getD, List.getElem?_eq_getElem h1]
    rw [e] at hc ⊢
    refine ⟨h0, h1, by omega, ?_⟩
    split <;> rfl
theorem evO_at {r : List RV} {ix kind : Int} (h0 : 0 ≤ ix) (h1 : ix.toNat < r.length) (hk : r[ix.toNat].k = kind) : evO r ix kind = if kind = 2 then ((r[ix.toNat].s.size : Int), true) else (r[ix.toNat].n, true) := by
  have e : r.getD ix.toNat ⟨0, 0, ⟨#[]⟩⟩ = r[ix.toNat] := by simp [List.getD, List.getElem?_eq_getElem h1]
  unfold evO
  rw [e, if_neg (by omega)]
theorem evO_no {r : List RV} {ix kind : Int} (h : ix < 0 ∨ (r.length : Int) ≤ ix) : evO r ix kind = (0, false) := by
  unfold evO; rw [if_pos (by omega)]
theorem evO_no' {r : List RV} {ix kind : Int} (h0 : 0 ≤ ix) (h1 : ix.toNat < r.length) (hk : r[ix.toNat].k ≠ kind) : evO r ix kind = (0, false) := by
  have e : r.getD ix.toNat ⟨0, 0, ⟨#[]⟩⟩ = r[ix.toNat] := by simp [List.getD, List.getElem?_eq_getElem h1]
  unfold evO
  rw [e, if_pos (.inr (.inr hk))]
theorem valT_c (r : List RV) (n : Int) : valT r ⟨n, []⟩ = (n, true) := by rw [valT_eq, valPs]
theorem valT_c' (r : List RV) {t : Tm} (h : t.ps = []) : valT r t = (t.c, true) := by rw [valT_eq, h, valPs]
theorem valT_v {r : List RV} {k v : Int} (hk : k ≠ 2) {n : Int} (hn : R64 n) (h : valV r k v = (n, true)) : valT r ⟨0, [⟨1, k, v, 0, []⟩]⟩ = (n, true) := by
  rw [valT_eq, valPs]
  have e : valP r ⟨1, k, v, 0, []⟩ = (n, true) := by rw [valPV (p := ⟨1, k, v, 0, []⟩) hk]; exact h
  rw [e, if_pos rfl, valPs]
  show (w (0 + w (1 * n)), true) = _
  rw [Int.one_mul, w_eq hn, Int.zero_add, w_eq hn]
theorem md.neg {a b : Int} (h : md a b) : md (-a) (-b) := by obtain ⟨k, h⟩ := h; exact ⟨-k, by omega⟩
theorem md.sub {a b c d : Int} (h : md a b) (h' : md c d) : md (a - c) (b - d) := by obtain ⟨k, h⟩ := h; obtain ⟨j, h'⟩ := h'; exact ⟨k - j, by omega⟩
theorem comb_val {r : List RV} {op : Int} {a b : Tm} (ho : 4 ≤ op ∧ op ≤ 8) (ha : vldT a = true) (hb : vldT b = true) (h : (comb op a b).2 = 0) (va : (valT r a).2 = true) (vb : (valT r b).2 = true) : valT r (comb op a b).1 = (opV op (valT r a).1 (valT r b).1, true) ∧ (op = 7 ∨ op = 8 → 1 ≤ (valT r b).1) := by
  cases comb_inv ho h with
  | add h1 h2 =>
    rw [h2] at h ⊢
    exact ⟨by rw [add_val ha hb h va vb, opV, if_pos h1], by omega⟩
  | sub h1 h3 h2 =>
    rw [h2] at h ⊢
    have e1 := scale_val hb h3 vb
    refine ⟨?_, by omega⟩
    rw [add_val ha (scale_vld' hb) h va (by rw [e1]), e1, opV, if_neg (by omega), if_pos h1]
    refine congrArg (fun x => (x, true)) (w_md (((md.rfl' _).add (md_w _)).trans ?_))
    rw [show (valT r a).1 + (valT r b).1 * -1 = (valT r a).1 - (valT r b).1 by omega]
    exact md.rfl' _
  | mulL h1 h3 h2 =>
    rw [h2] at h ⊢
    refine ⟨?_, by omega⟩
    rw [scale_val hb h vb, opV, if_neg (by omega), if_neg (by omega), if_pos h1, valT_c' r h3, Int.mul_comm]
  | mulR h1 h3 h2 =>
    rw [h2] at h ⊢
    refine ⟨?_, by omega⟩
    rw [scale_val ha h va, opV, if_neg (by omega), if_neg (by omega), if_pos h1, valT_c' r h3]
  | div h1 h3 h4 h5 h2 =>
    rw [h2] at h ⊢
    refine ⟨?_, fun _ => by rw [valT_c' r h3]; exact h4.1⟩
    rw [(div_val ha h va).2, opV, if_neg (by omega), if_neg (by omega), if_neg (by omega), if_pos h1, valT_c' r h3]
  | mod h1 h3 h4 h5 h6 h2 =>
    rw [h2] at h ⊢
    refine ⟨?_, fun _ => by rw [valT_c' r h3]; exact h4.1⟩
    have e1 := (div_val ha h5 va).2
    have e2 := scale_val (div_vld' ha) h6 (by rw [e1])
    rw [add_val ha (scale_vld' (div_vld' ha)) h va (by rw [e2]), e2, e1, opV, if_neg (by omega), if_neg (by omega), if_neg (by omega), if_neg (by omega), valT_c' r h3]
    refine congrArg (fun x => (x, true)) (w_md (((md.rfl' _).add (md_w _)).trans (md.trans ?_ ((md.rfl' _).sub (md_w _).symm))))
    rw [show (valT r a).1 + (valT r a).1 / b.c * -b.c = (valT r a).1 - b.c * ((valT r a).1 / b.c) by rw [Int.mul_neg, Int.mul_comm]; omega]
    exact md.rfl' _
theorem meaning {r : List RV} (hw : rowB r = true) (e : Ex) : rgE' e → (ofE e).2 = 0 → (evE r e).2 = true → valT r (ofE e).1 = evE r e := by
  induction e using Ex.ind with
  | h e ih =>
    intro hr h hv
    have hr' := (rgE_eq e).1 hr
    have hrow := rowB_v hw
    have hO := okE_inv h
    cases hO with
    | lit h1 h2 h3 h4 => rw [h3, ev1 h1, valT_c, h2]; rfl
    | col h1 h2 h3 h4 =>
      rw [ev2 h1] at hv ⊢
      obtain ⟨k0, k1, k2, k3⟩ := evO_ok hv
      rw [h3, k3, if_neg (by decide)]
      have := (hrow _ (List.getElem_mem k1)).1
      exact valT_v (by decide) (by show -9223372036854775808 ≤ _ ∧ _ ≤ 9223372036854775807; omega) (by rw [valV_at k0 k1, if_neg (by decide)]; simp [k2])
    | lenT a h1 h2 h3 h4 h5 =>
      have h0 : 0 < e.args.length := by rw [h2]; simp
      have ea : e.args[0] = a := by simp [h2]
      rw [ev9 h1 h0, ea, if_pos h3, h4, valT_c]
    | lenC a h1 h2 h3 h0' h4 h5 =>
      have h0 : 0 < e.args.length := by rw [h2]; simp
      have ea : e.args[0] = a := by simp [h2]
      rw [ev9 h1 h0, ea, if_neg (by omega)] at hv ⊢
      obtain ⟨k0, k1, k2, k3⟩ := evO_ok hv
      rw [h4, k3, if_pos rfl]
      have := (hrow _ (List.getElem_mem k1)).2
      exact valT_v (by decide) (by show -9223372036854775808 ≤ ((_ : Nat) : Int) ∧ ((_ : Nat) : Int) ≤ 9223372036854775807; omega) (by rw [valV_at k0 k1, if_pos rfl]; simp [k2])
    | neg a h1 h2 h3 h4 =>
      have h0 : 0 < e.args.length := by rw [h2]; simp
      have ea : e.args[0] = a := by simp [h2]
      have ma : a ∈ e.args := by rw [h2]; simp
      rw [ev3 h1 h0, ea] at hv ⊢
      have k := ih a ma (hr'.2 a ma) h3 hv
      have kg := ofE_gd a h3
      rw [h4] at h ⊢
      rw [scale_val kg.1 h (by rw [k]; exact hv), k]
      have hv' : (evE r a).2 = true := hv
      rw [hv', show (evE r a).1 * -1 = (0 : Int) - (evE r a).1 by omega]
    | bin a b h1 h2 h3 h4 h5 =>
      have h0 : 0 < e.args.length := by rw [h2]; simp
      have h01 : 1 < e.args.length := by rw [h2]; simp
      have ea : e.args[0] = a := by simp [h2]
      have eb : e.args[1] = b := by simp [h2]
      have ma : a ∈ e.args := by rw [h2]; simp
      have mb : b ∈ e.args := by rw [h2]; simp
      rw [evB (by omega) (by omega) (by omega) (by omega) h0 h01, ea, eb] at hv ⊢
      split at hv
      · rename_i hab
        rw [if_pos hab]
        have ka := ih a ma (hr'.2 a ma) h3 hab.1
        have kb := ih b mb (hr'.2 b mb) h4 hab.2
        rw [h5] at h ⊢
        rw [(comb_val h1 (ofE_gd a h3).1 (ofE_gd b h4).1 h (by rw [ka]; exact hab.1) (by rw [kb]; exact hab.2)).1, ka, kb]
      · cases hv
theorem flo {r : List RV} (hw : rowB r = true) {e a b : Ex} (hr : rgE' e) (h : (ofE e).2 = 0) (ha : a ∈ e.args) (hb : b ∈ e.args) (h3 : (ofE a).2 = 0) (h4 : (ofE b).2 = 0) (h5 : ofE e = comb e.op (ofE a).1 (ofE b).1) (ho : 4 ≤ e.op ∧ e.op ≤ 8) (ho' : e.op = 7 ∨ e.op = 8) (va : (evE r a).2 = true) (vb : (evE r b).2 = true) : R64 (evE r a).1 ∧ 1 ≤ (evE r b).1 := by
  have hr' := (rgE_eq e).1 hr
  have ka := meaning hw a (hr'.2 a ha) h3 va
  have kb := meaning hw b (hr'.2 b hb) h4 vb
  have ga := ofE_gd a h3
  rw [h5] at h
  have := (comb_val ho ga.1 (ofE_gd b h4).1 h (by rw [ka]; exact va) (by rw [kb]; exact vb)).2 ho'
  rw [← ka, ← kb]
  exact ⟨valT_R (vldT_bok ga.1).c, this⟩

set_option maxRecDepth 20000 in
theorem operand_any (r : List RV) (z : Nz) (hL : r.length ≤ 1000000000000000000) (e : Ex) (k : Int) : Pure Tryd.prog 65 [exC e, rowC z r, iC k] (vrC (evO r e.ix k)) := by
  intro H
  refine Spec.enter Tryd.func65 rfl ?_
  refine AW.wk (Wk.keep 43 [(0, .c (exC e)), (1, .c (rowC z r)), (2, .c (iC k))] [] (H) rfl ⟨rfl, rfl, rfl, trivial⟩ trivial (fun _ _ h => h) rfl) ?_
  refine AW.seq ?_
  refine AW.reg ?_
  refine SeqK.r (b_box (r := [_, _, _, _, _, _, _, _]) rfl rfl rfl rfl rfl rfl) rfl ?_
  refine SeqK.q (q_asC rfl rfl) rfl rfl rfl ?_
  refine SeqK.q (q_asC rfl rfl) rfl rfl rfl ?_
  refine SeqK.nil ?_
  refine AW.seq ?_
  refine AW.seq ?_
  refine AW.reg ?_
  refine SeqK.q (q_fieldL _ rfl Fx.fl36_3 rfl rfl) rfl rfl rfl ?_
  refine SeqK.r (b_load (r := .a _) rfl Fx.ty3 rfl rfl rfl rfl rfl rfl) rfl ?_
  refine SeqK.q (q_lss rfl rfl rfl) rfl rfl rfl ?_
  refine SeqK.qD (q_mvC rfl rfl) rfl rfl rfl (fun g11 => ?_) (fun g11 => ?_)
  ·
    refine SeqK.off rfl rfl rfl rfl rfl rfl ?_
    refine SeqK.off rfl rfl rfl rfl rfl rfl ?_
    refine SeqK.off rfl rfl rfl rfl rfl rfl ?_
    refine SeqK.off rfl rfl rfl rfl rfl rfl ?_
    refine SeqK.off rfl rfl rfl rfl rfl rfl ?_
    refine SeqK.q (q_pkT rfl rfl rfl) rfl rfl rfl ?_
    refine SeqK.q (q_mvC rfl rfl) rfl rfl rfl ?_
    refine SeqK.off rfl rfl rfl rfl rfl rfl ?_
    refine SeqK.off rfl rfl rfl rfl rfl rfl ?_
    refine SeqK.off rfl rfl rfl rfl rfl rfl ?_
    refine SeqK.off rfl rfl rfl rfl rfl rfl ?_
    refine SeqK.off rfl rfl rfl rfl rfl rfl ?_
    refine SeqK.off rfl rfl rfl rfl rfl rfl ?_
    refine SeqK.off rfl rfl rfl rfl rfl rfl ?_
    refine SeqK.off rfl rfl rfl rfl rfl rfl ?_
    refine SeqK.q (q_pkT rfl rfl rfl) rfl rfl rfl ?_
    refine SeqK.nil ?_
    refine AW.condT rfl ?_
    refine AW.seq ?_
    refine AW.reg ?_
    refine SeqK.q (q_asC rfl rfl) rfl rfl rfl ?_
    refine SeqK.q (q_asC rfl rfl) rfl rfl rfl ?_
    refine SeqK.nil ?_
    refine AW.ret ?_
    exact fin_x (x := .tup [_, _]) (H) (.tmp rfl (.tmp rfl .nil)) rfl (fun _ _ h => h) (⟨vre (by first | rw [evO_no (by first | omega | (rw [List.length_map] at *; omega))] | rw [evO_no' hv0 hv1 (by omega)]), rfl⟩)
  ·
    refine SeqK.on (q_fieldL _ rfl Fx.fl36_3 rfl rfl) rfl rfl rfl rfl rfl ?_
    refine SeqK.rOn (b_load (r := .a _) rfl Fx.ty3 rfl rfl rfl rfl rfl rfl) rfl rfl rfl ?_
    refine SeqK.on (q_mvC rfl rfl) rfl rfl rfl rfl rfl ?_
    refine SeqK.on (q_len rfl Fx.un38 rfl) rfl rfl rfl rfl rfl ?_
    refine SeqK.on (q_geq rfl rfl rfl) rfl rfl rfl rfl rfl ?_
    refine SeqK.q (q_pkF rfl rfl rfl) rfl rfl rfl ?_
    refine SeqK.qD (q_mvC rfl rfl) rfl rfl rfl (fun g18 => ?_) (fun g18 => ?_)
    ·
      refine SeqK.off rfl rfl rfl rfl rfl rfl ?_
      refine SeqK.off rfl rfl rfl rfl rfl rfl ?_
      refine SeqK.off rfl rfl rfl rfl rfl rfl ?_
      refine SeqK.off rfl rfl rfl rfl rfl rfl ?_
      refine SeqK.off rfl rfl rfl rfl rfl rfl ?_
      refine SeqK.off rfl rfl rfl rfl rfl rfl ?_
      refine SeqK.off rfl rfl rfl rfl rfl rfl ?_
      refine SeqK.off rfl rfl rfl rfl rfl rfl ?_
      refine SeqK.q (q_pkT rfl rfl rfl) rfl rfl rfl ?_
      refine SeqK.nil ?_
      refine AW.condT rfl ?_
      refine AW.seq ?_
      refine AW.reg ?_
      refine SeqK.q (q_asC rfl rfl) rfl rfl rfl ?_
      refine SeqK.q (q_asC rfl rfl) rfl rfl rfl ?_
      refine SeqK.nil ?_
      refine AW.ret ?_
      exact fin_x (x := .tup [_, _]) (H) (.tmp rfl (.tmp rfl .nil)) rfl (fun _ _ h => h) (⟨vre (by first | rw [evO_no (by first | omega | (rw [List.length_map] at *; omega))] | rw [evO_no' hv0 hv1 (by omega)]), rfl⟩)
    ·
      have hv1 : e.ix.toNat < r.length := by rw [List.length_map] at *; omega
      have hv0 : 0 ≤ e.ix := by omega
      refine SeqK.on (q_mvC rfl rfl) rfl rfl rfl rfl rfl ?_
      refine SeqK.on (q_fieldL _ rfl Fx.fl36_3 rfl rfl) rfl rfl rfl rfl rfl ?_
      refine SeqK.rOn (b_load (r := .a _) rfl Fx.ty3 rfl rfl rfl rfl rfl rfl) rfl rfl rfl ?_
      refine SeqK.on (q_index _ rfl Fx.sl38 rfl rfl (by omega) (idx_map (f := rvT) hv1)) rfl rfl rfl rfl rfl ?_
      refine SeqK.on (q_fieldP _ rfl Fx.fl33_0 rfl rfl) rfl rfl rfl rfl rfl ?_
      refine SeqK.on (q_load (.a _) rfl Fx.ty3 rfl rfl rfl) rfl rfl rfl rfl rfl ?_
      refine SeqK.on (q_mvC rfl rfl) rfl rfl rfl rfl rfl ?_
      refine SeqK.on (q_neq rfl rfl rfl) rfl rfl rfl rfl rfl ?_
      refine SeqK.q (q_pkF rfl rfl rfl) rfl rfl rfl ?_
      refine SeqK.nil ?_
      refine AW.condD rfl (fun h27 => ?_) (fun h27 => ?_)
      ·
        refine AW.seq ?_
        refine AW.reg ?_
        refine SeqK.q (q_asC rfl rfl) rfl rfl rfl ?_
        refine SeqK.q (q_asC rfl rfl) rfl rfl rfl ?_
        refine SeqK.nil ?_
        refine AW.ret ?_
        exact fin_x (x := .tup [_, _]) (H) (.tmp rfl (.tmp rfl .nil)) rfl (fun _ _ h => h) (⟨vre (by first | rw [evO_no (by first | omega | (rw [List.length_map] at *; omega))] | rw [evO_no' hv0 hv1 (by omega)]), rfl⟩)
      ·
        refine AW.skip ?_
        refine AW.seq ?_
        refine AW.seq ?_
        refine AW.reg ?_
        refine SeqK.q (q_mvC rfl rfl) rfl rfl rfl ?_
        refine SeqK.q (q_eql rfl rfl rfl) rfl rfl rfl ?_
        refine SeqK.nil ?_
        refine AW.condD rfl (fun h29 => ?_) (fun h29 => ?_)
        ·
          refine AW.seq ?_
          refine AW.reg ?_
          refine SeqK.q (q_mvC rfl rfl) rfl rfl rfl ?_
          refine SeqK.q (q_fieldL _ rfl Fx.fl36_3 rfl rfl) rfl rfl rfl ?_
          refine SeqK.r (b_load (r := .a _) rfl Fx.ty3 rfl rfl rfl rfl rfl rfl) rfl ?_
          refine SeqK.q (q_index _ rfl Fx.sl38 rfl rfl (by omega) (idx_map (f := rvT) hv1)) rfl rfl rfl ?_
          refine SeqK.q (q_fieldP _ rfl Fx.fl33_2 rfl rfl) rfl rfl rfl ?_
          refine SeqK.q (q_load (.a _) rfl Fx.ty9 rfl rfl rfl) rfl rfl rfl ?_
          refine SeqK.q (q_lenS rfl Fx.un9 rfl) rfl rfl rfl ?_
          refine SeqK.q (q_asC rfl rfl) rfl rfl rfl ?_
          refine SeqK.q (q_asC rfl rfl) rfl rfl rfl ?_
          refine SeqK.nil ?_
          refine AW.ret ?_
          exact fin_x (x := .tup [_, _]) (H) (.tmp rfl (.tmp rfl .nil)) rfl (fun _ _ h => h) (⟨vre (by rw [evO_at hv0 hv1 (by omega), if_pos h29]), rfl⟩)
        ·
          refine AW.skip ?_
          refine AW.seq ?_
          refine AW.reg ?_
          refine SeqK.q (q_mvC rfl rfl) rfl rfl rfl ?_
          refine SeqK.q (q_fieldL _ rfl Fx.fl36_3 rfl rfl) rfl rfl rfl ?_
          refine SeqK.r (b_load (r := .a _) rfl Fx.ty3 rfl rfl rfl rfl rfl rfl) rfl ?_
          refine SeqK.q (q_index _ rfl Fx.sl38 rfl rfl (by omega) (idx_map (f := rvT) hv1)) rfl rfl rfl ?_
          refine SeqK.q (q_fieldP _ rfl Fx.fl33_1 rfl rfl) rfl rfl rfl ?_
          refine SeqK.q (q_load (.a _) rfl Fx.ty2 rfl rfl rfl) rfl rfl rfl ?_
          refine SeqK.q (q_asC rfl rfl) rfl rfl rfl ?_
          refine SeqK.q (q_asC rfl rfl) rfl rfl rfl ?_
          refine SeqK.nil ?_
          refine AW.ret ?_
          exact fin_x (x := .tup [_, _]) (H) (.tmp rfl (.tmp rfl .nil)) rfl (fun _ _ h => h) (⟨vre (by rw [evO_at hv0 hv1 (by omega), if_neg h29]), rfl⟩)

set_option maxHeartbeats 4000000 in
set_option maxRecDepth 20000 in
theorem eval_of (r : List RV) (z : Nz) (hw : rowB r = true) (hL : r.length ≤ 1000000000000000000) (e : Ex) (hr : rgE' e) (hO : (ofE e).2 = 0) (ih : ∀ a ∈ e.args, (ofE a).2 = 0 → Pure Tryd.prog 24 [exC a, rowC z r] (vrC (evE r a))) : Pure Tryd.prog 24 [exC e, rowC z r] (vrC (evE r e)) := by
  intro H
  refine Spec.enter Tryd.func24 rfl ?_
  refine AW.wk (Wk.keep 120 [(0, .c (exC e)), (1, .c (rowC z r))] [] (H) rfl ⟨rfl, rfl, trivial⟩ trivial (fun _ _ h => h) rfl) ?_
  refine AW.seq ?_
  refine AW.reg ?_
  refine SeqK.r (b_box (r := [_, _, _, _, _, _, _, _]) rfl rfl rfl rfl rfl rfl) rfl ?_
  refine SeqK.q (q_asC rfl rfl) rfl rfl rfl ?_
  refine SeqK.q (q_asC rfl rfl) rfl rfl rfl ?_
  refine SeqK.nil ?_
  refine AW.seq ?_
  refine AW.seq ?_
  have hI := okE_inv hO
  have hlt := ((rgE_eq e).1 hr).1.2.2.2
  have hrv := ((rgE_eq e).1 hr).1.2.2.1
  refine AW.reg ?_
  refine SeqK.q (q_fieldL _ rfl Fx.fl36_0 rfl rfl) rfl rfl rfl ?_
  refine SeqK.r (b_load (r := .a _) rfl Fx.ty3 rfl rfl rfl rfl rfl rfl) rfl ?_
  refine SeqK.nil ?_
  refine AW.block ?_
  refine AW.seq ?_
  refine AW.reg ?_
  refine SeqK.q (q_eql rfl rfl rfl) rfl rfl rfl ?_
  refine SeqK.q (q_asC rfl rfl) rfl rfl rfl ?_
  refine SeqK.nil ?_
  refine AW.condD rfl (fun h14 => ?_) (fun h14 => ?_)
  ·
    refine AW.seq ?_
    refine AW.draw Fx.mo ?_
    refine LexK.q (q_fieldL _ rfl Fx.fl36_4 rfl rfl) rfl rfl rfl ?_
    refine LexK.q (q_fieldL _ rfl Fx.fl33_1 rfl rfl) rfl rfl rfl ?_
    refine LexK.r (b_load (r := .a _) rfl Fx.ty2 rfl rfl rfl rfl rfl rfl) rfl ?_
    refine LexK.q (q_fieldL _ rfl Fx.fl36_4 rfl rfl) rfl rfl rfl ?_
    refine LexK.q (q_fieldL _ rfl Fx.fl33_0 rfl rfl) rfl rfl rfl ?_
    refine LexK.r (b_load (r := .a _) rfl Fx.ty3 rfl rfl rfl rfl rfl rfl) rfl ?_
    refine LexK.q (q_eql rfl rfl rfl) rfl rfl rfl ?_
    refine LexK.q (q_asC rfl rfl) rfl rfl rfl ?_
    refine LexK.q (q_asC rfl rfl) rfl rfl rfl ?_
    refine LexK.nil (by kernel_rfl) ?_
    refine AW.ret ?_
    exact fin_x (x := .tup [_, _]) (H) (.tmp rfl (.tmp rfl .nil)) rfl (fun _ _ h => h) (⟨vre (ev1 h14).symm, rfl⟩)
  ·
    refine AW.seq ?_
    refine AW.reg ?_
    refine SeqK.q (q_eql rfl rfl rfl) rfl rfl rfl ?_
    refine SeqK.q (q_asC rfl rfl) rfl rfl rfl ?_
    refine SeqK.nil ?_
    refine AW.condD rfl (fun h23 => ?_) (fun h23 => ?_)
    ·
      refine AW.seq ?_
      refine AW.reg ?_
      refine SeqK.r (b_load (r := .g [_, _, _, _, _, _, _, _]) rfl Fx.ty36 rfl rfl rfl rfl rfl rfl) rfl ?_
      refine SeqK.q (q_mvC rfl rfl) rfl rfl rfl ?_
      refine SeqK.q (q_call _ rfl Fx.fn65 rfl (operand_any r z hL _ _) rfl) rfl rfl rfl ?_
      refine SeqK.q (q_extract _ rfl rfl rfl) rfl rfl rfl ?_
      refine SeqK.q (q_extract _ rfl rfl rfl) rfl rfl rfl ?_
      refine SeqK.q (q_asC rfl rfl) rfl rfl rfl ?_
      refine SeqK.q (q_asC rfl rfl) rfl rfl rfl ?_
      refine SeqK.nil ?_
      refine AW.ret ?_
      exact fin_x (x := .tup [_, _]) (H) (.tmp rfl (.tmp rfl .nil)) rfl (fun _ _ h => h) (⟨vre (ev2 h23).symm, rfl⟩)
    ·
      refine AW.seq ?_
      refine AW.reg ?_
      refine SeqK.q (q_eql rfl rfl rfl) rfl rfl rfl ?_
      refine SeqK.q (q_asC rfl rfl) rfl rfl rfl ?_
      refine SeqK.nil ?_
      refine AW.condD rfl (fun h30 => ?_) (fun h30 => ?_)
      ·
        have h0 := hI.one h30
        refine AW.seq ?_
        refine AW.seq ?_
        refine AW.reg ?_
        refine SeqK.q (q_fieldL _ rfl Fx.fl36_5 rfl rfl) rfl rfl rfl ?_
        refine SeqK.r (b_load (r := .a _) rfl Fx.ty34 rfl rfl rfl rfl rfl rfl) rfl ?_
        refine SeqK.q (q_index _ rfl Fx.sl34 rfl rfl (by omega) (idx_ex h0)) rfl rfl rfl ?_
        refine SeqK.q (q_fieldP _ rfl Fx.fl36_0 rfl rfl) rfl rfl rfl ?_
        refine SeqK.q (q_load (.a _) rfl Fx.ty3 rfl rfl rfl) rfl rfl rfl ?_
        refine SeqK.q (q_eql rfl rfl rfl) rfl rfl rfl ?_
        refine SeqK.nil ?_
        refine AW.condD rfl (fun h37 => ?_) (fun h37 => ?_)
        ·
          refine AW.seq ?_
          refine AW.reg ?_
          refine SeqK.q (q_fieldL _ rfl Fx.fl36_5 rfl rfl) rfl rfl rfl ?_
          refine SeqK.r (b_load (r := .a _) rfl Fx.ty34 rfl rfl rfl rfl rfl rfl) rfl ?_
          refine SeqK.q (q_index _ rfl Fx.sl34 rfl rfl (by omega) (idx_ex h0)) rfl rfl rfl ?_
          refine SeqK.q (q_fieldP _ rfl Fx.fl36_4 rfl rfl) rfl rfl rfl ?_
          refine SeqK.q (q_fieldP _ rfl Fx.fl33_2 rfl rfl) rfl rfl rfl ?_
          refine SeqK.q (q_load (.a _) rfl Fx.ty9 rfl rfl rfl) rfl rfl rfl ?_
          refine SeqK.q (q_lenS rfl Fx.un9 rfl) rfl rfl rfl ?_
          refine SeqK.q (q_asC rfl rfl) rfl rfl rfl ?_
          refine SeqK.q (q_asC rfl rfl) rfl rfl rfl ?_
          refine SeqK.nil ?_
          refine AW.ret ?_
          exact fin_x (x := .tup [_, _]) (H) (.tmp rfl (.tmp rfl .nil)) rfl (fun _ _ h => h) (⟨vre (by rw [ev9 h30 h0, if_pos h37]), rfl⟩)
        ·
          refine AW.skip ?_
          refine AW.seq ?_
          refine AW.reg ?_
          refine SeqK.q (q_fieldL _ rfl Fx.fl36_5 rfl rfl) rfl rfl rfl ?_
          refine SeqK.r (b_load (r := .a _) rfl Fx.ty34 rfl rfl rfl rfl rfl rfl) rfl ?_
          refine SeqK.q (q_index _ rfl Fx.sl34 rfl rfl (by omega) (idx_ex h0)) rfl rfl rfl ?_
          refine SeqK.q (q_load (.g [_, _, _, _, _, _, _, _]) rfl Fx.ty36 rfl rfl rfl) rfl rfl rfl ?_
          refine SeqK.q (q_mvC rfl rfl) rfl rfl rfl ?_
          refine SeqK.q (q_call _ rfl Fx.fn65 rfl (operand_any r z hL _ _) rfl) rfl rfl rfl ?_
          refine SeqK.q (q_extract _ rfl rfl rfl) rfl rfl rfl ?_
          refine SeqK.q (q_extract _ rfl rfl rfl) rfl rfl rfl ?_
          refine SeqK.q (q_asC rfl rfl) rfl rfl rfl ?_
          refine SeqK.q (q_asC rfl rfl) rfl rfl rfl ?_
          refine SeqK.nil ?_
          refine AW.ret ?_
          exact fin_x (x := .tup [_, _]) (H) (.tmp rfl (.tmp rfl .nil)) rfl (fun _ _ h => h) (⟨vre (by rw [ev9 h30 h0, if_neg h37]), rfl⟩)
      ·
        refine AW.seq ?_
        refine AW.reg ?_
        refine SeqK.q (q_eql rfl rfl rfl) rfl rfl rfl ?_
        refine SeqK.q (q_asC rfl rfl) rfl rfl rfl ?_
        refine SeqK.nil ?_
        refine AW.condD rfl (fun h53 => ?_) (fun h53 => ?_)
        ·
          obtain ⟨h0, hn⟩ := hI.neg1 h53
          refine AW.seq ?_
          refine AW.reg ?_
          refine SeqK.q (q_fieldL _ rfl Fx.fl36_5 rfl rfl) rfl rfl rfl ?_
          refine SeqK.r (b_load (r := .a _) rfl Fx.ty34 rfl rfl rfl rfl rfl rfl) rfl ?_
          refine SeqK.q (q_index _ rfl Fx.sl34 rfl rfl (by omega) (idx_ex h0)) rfl rfl rfl ?_
          refine SeqK.q (q_load (.g [_, _, _, _, _, _, _, _]) rfl Fx.ty36 rfl rfl rfl) rfl rfl rfl ?_
          refine SeqK.q (q_mvC rfl rfl) rfl rfl rfl ?_
          refine SeqK.q (q_call _ rfl Fx.fn24 rfl (ih _ (List.getElem_mem h0) hn) rfl) rfl rfl rfl ?_
          refine SeqK.q (q_mvT rfl rfl) rfl rfl rfl ?_
          refine SeqK.q (q_extract _ rfl rfl rfl) rfl rfl rfl ?_
          refine SeqK.q (q_extract _ rfl rfl rfl) rfl rfl rfl ?_
          refine SeqK.q (q_asC rfl rfl) rfl rfl rfl ?_
          refine SeqK.q (q_asC rfl rfl) rfl rfl rfl ?_
          refine SeqK.nil ?_
          refine AW.seq ?_
          refine AW.reg ?_
          refine SeqK.q (q_mvC rfl rfl) rfl rfl rfl ?_
          refine SeqK.q (q_neg _ rfl rfl (rfl)) rfl rfl rfl ?_
          refine SeqK.q (q_mvC rfl rfl) rfl rfl rfl ?_
          refine SeqK.q (q_asC rfl rfl) rfl rfl rfl ?_
          refine SeqK.q (q_asC rfl rfl) rfl rfl rfl ?_
          refine SeqK.nil ?_
          refine AW.ret ?_
          exact fin_x (x := .tup [_, _]) (H) (.tmp rfl (.tmp rfl .nil)) rfl (fun _ _ h => h) (⟨vre (ev3 h53 h0).symm, rfl⟩)
        ·
          refine AW.skip ?_
          refine AW.seq ?_
          obtain ⟨h0, h1, hn0, hn1, hl4, hl8, hcm⟩ := hI.two h14 h23 h30 h53
          refine AW.reg ?_
          refine SeqK.q (q_fieldL _ rfl Fx.fl36_5 rfl rfl) rfl rfl rfl ?_
          refine SeqK.r (b_load (r := .a _) rfl Fx.ty34 rfl rfl rfl rfl rfl rfl) rfl ?_
          refine SeqK.q (q_index _ rfl Fx.sl34 rfl rfl (by omega) (idx_ex h0)) rfl rfl rfl ?_
          refine SeqK.q (q_load (.g [_, _, _, _, _, _, _, _]) rfl Fx.ty36 rfl rfl rfl) rfl rfl rfl ?_
          refine SeqK.q (q_mvC rfl rfl) rfl rfl rfl ?_
          refine SeqK.q (q_call _ rfl Fx.fn24 rfl (ih _ (List.getElem_mem h0) hn0) rfl) rfl rfl rfl ?_
          refine SeqK.q (q_mvT rfl rfl) rfl rfl rfl ?_
          refine SeqK.q (q_extract _ rfl rfl rfl) rfl rfl rfl ?_
          refine SeqK.q (q_extract _ rfl rfl rfl) rfl rfl rfl ?_
          refine SeqK.q (q_asC rfl rfl) rfl rfl rfl ?_
          refine SeqK.q (q_asC rfl rfl) rfl rfl rfl ?_
          refine SeqK.nil ?_
          refine AW.seq ?_
          refine AW.reg ?_
          refine SeqK.q (q_fieldL _ rfl Fx.fl36_5 rfl rfl) rfl rfl rfl ?_
          refine SeqK.r (b_load (r := .a _) rfl Fx.ty34 rfl rfl rfl rfl rfl rfl) rfl ?_
          refine SeqK.q (q_index _ rfl Fx.sl34 rfl rfl (by omega) (idx_ex h1)) rfl rfl rfl ?_
          refine SeqK.q (q_load (.g [_, _, _, _, _, _, _, _]) rfl Fx.ty36 rfl rfl rfl) rfl rfl rfl ?_
          refine SeqK.q (q_mvC rfl rfl) rfl rfl rfl ?_
          refine SeqK.q (q_call _ rfl Fx.fn24 rfl (ih _ (List.getElem_mem h1) hn1) rfl) rfl rfl rfl ?_
          refine SeqK.q (q_mvT rfl rfl) rfl rfl rfl ?_
          refine SeqK.q (q_extract _ rfl rfl rfl) rfl rfl rfl ?_
          refine SeqK.q (q_extract _ rfl rfl rfl) rfl rfl rfl ?_
          refine SeqK.q (q_asC rfl rfl) rfl rfl rfl ?_
          refine SeqK.q (q_asC rfl rfl) rfl rfl rfl ?_
          refine SeqK.nil ?_
          refine AW.seq ?_
          refine AW.seq ?_
          refine AW.reg ?_
          refine SeqK.q (q_mvC rfl rfl) rfl rfl rfl ?_
          refine SeqK.q (q_not rfl rfl) rfl rfl rfl ?_
          refine SeqK.qB (q_mvC rfl rfl) rfl rfl rfl (fun g87 => ?_) (fun g87 => ?_)
          ·
            refine SeqK.off rfl rfl rfl rfl rfl rfl ?_
            refine SeqK.off rfl rfl rfl rfl rfl rfl ?_
            refine SeqK.q (q_pkT rfl rfl rfl) rfl rfl rfl ?_
            refine SeqK.nil ?_
            refine AW.condT rfl ?_
            refine AW.seq ?_
            refine AW.reg ?_
            refine SeqK.q (q_asC rfl rfl) rfl rfl rfl ?_
            refine SeqK.q (q_asC rfl rfl) rfl rfl rfl ?_
            refine SeqK.nil ?_
            refine AW.ret ?_
            exact fin_x (x := .tup [_, _]) (H) (.tmp rfl (.tmp rfl .nil)) rfl (fun _ _ h => h) (⟨vre (by rw [evB (r := r) h14 h23 h30 h53 h0 h1, if_neg (by intro hh; simp_all)]), rfl⟩)
          ·
            refine SeqK.on (q_mvC rfl rfl) rfl rfl rfl rfl rfl ?_
            refine SeqK.on (q_not rfl rfl) rfl rfl rfl rfl rfl ?_
            refine SeqK.q (q_pkF rfl rfl rfl) rfl rfl rfl ?_
            refine SeqK.nil ?_
            refine AW.cond _ rfl (fun h90 => ?_) (fun h90 => ?_)
            ·
              refine AW.seq ?_
              refine AW.reg ?_
              refine SeqK.q (q_asC rfl rfl) rfl rfl rfl ?_
              refine SeqK.q (q_asC rfl rfl) rfl rfl rfl ?_
              refine SeqK.nil ?_
              refine AW.ret ?_
              exact fin_x (x := .tup [_, _]) (H) (.tmp rfl (.tmp rfl .nil)) rfl (fun _ _ h => h) (⟨vre (by rw [evB (r := r) h14 h23 h30 h53 h0 h1, if_neg (by intro hh; simp_all)]), rfl⟩)
            ·
              refine AW.skip ?_
              refine AW.seq ?_
              refine AW.seq ?_
              have kv := evB (r := r) h14 h23 h30 h53 h0 h1
              have va : (evE r e.args[0]).2 = true := by cases hq : (evE r e.args[0]).2 <;> simp_all
              have vb : (evE r e.args[1]).2 = true := by cases hq : (evE r e.args[1]).2 <;> simp_all
              rw [if_pos ⟨va, vb⟩] at kv
              refine AW.reg ?_
              refine SeqK.q (q_fieldL _ rfl Fx.fl36_0 rfl rfl) rfl rfl rfl ?_
              refine SeqK.r (b_load (r := .a _) rfl Fx.ty3 rfl rfl rfl rfl rfl rfl) rfl ?_
              refine SeqK.nil ?_
              refine AW.block ?_
              refine AW.seq ?_
              refine AW.reg ?_
              refine SeqK.q (q_eql rfl rfl rfl) rfl rfl rfl ?_
              refine SeqK.q (q_asC rfl rfl) rfl rfl rfl ?_
              refine SeqK.nil ?_
              refine AW.condD rfl (fun h93 => ?_) (fun h93 => ?_)
              ·
                refine AW.seq ?_
                refine AW.reg ?_
                refine SeqK.q (q_mvC rfl rfl) rfl rfl rfl ?_
                refine SeqK.q (q_mvC rfl rfl) rfl rfl rfl ?_
                refine SeqK.q (q_add _ rfl rfl rfl (rfl)) rfl rfl rfl ?_
                refine SeqK.q (q_asC rfl rfl) rfl rfl rfl ?_
                refine SeqK.q (q_asC rfl rfl) rfl rfl rfl ?_
                refine SeqK.nil ?_
                refine AW.ret ?_
                exact fin_x (x := .tup [_, _]) (H) (.tmp rfl (.tmp rfl .nil)) rfl (fun _ _ h => h) (⟨vre (by rw [kv, opV, if_pos (by assumption)]), rfl⟩)
              ·
                refine AW.seq ?_
                refine AW.reg ?_
                refine SeqK.q (q_eql rfl rfl rfl) rfl rfl rfl ?_
                refine SeqK.q (q_asC rfl rfl) rfl rfl rfl ?_
                refine SeqK.nil ?_
                refine AW.condD rfl (fun h98 => ?_) (fun h98 => ?_)
                ·
                  refine AW.seq ?_
                  refine AW.reg ?_
                  refine SeqK.q (q_mvC rfl rfl) rfl rfl rfl ?_
                  refine SeqK.q (q_mvC rfl rfl) rfl rfl rfl ?_
                  refine SeqK.q (q_sub _ rfl rfl rfl (rfl)) rfl rfl rfl ?_
                  refine SeqK.q (q_asC rfl rfl) rfl rfl rfl ?_
                  refine SeqK.q (q_asC rfl rfl) rfl rfl rfl ?_
                  refine SeqK.nil ?_
                  refine AW.ret ?_
                  exact fin_x (x := .tup [_, _]) (H) (.tmp rfl (.tmp rfl .nil)) rfl (fun _ _ h => h) (⟨vre (by rw [kv, opV, if_neg (by assumption), if_pos (by assumption)]), rfl⟩)
                ·
                  refine AW.seq ?_
                  refine AW.reg ?_
                  refine SeqK.q (q_eql rfl rfl rfl) rfl rfl rfl ?_
                  refine SeqK.q (q_asC rfl rfl) rfl rfl rfl ?_
                  refine SeqK.nil ?_
                  refine AW.condD rfl (fun h103 => ?_) (fun h103 => ?_)
                  ·
                    refine AW.seq ?_
                    refine AW.reg ?_
                    refine SeqK.q (q_mvC rfl rfl) rfl rfl rfl ?_
                    refine SeqK.q (q_mvC rfl rfl) rfl rfl rfl ?_
                    refine SeqK.q (q_mul _ rfl rfl rfl (rfl)) rfl rfl rfl ?_
                    refine SeqK.q (q_asC rfl rfl) rfl rfl rfl ?_
                    refine SeqK.q (q_asC rfl rfl) rfl rfl rfl ?_
                    refine SeqK.nil ?_
                    refine AW.ret ?_
                    exact fin_x (x := .tup [_, _]) (H) (.tmp rfl (.tmp rfl .nil)) rfl (fun _ _ h => h) (⟨vre (by rw [kv, opV, if_neg (by omega), if_neg (by omega), if_pos (by assumption)]), rfl⟩)
                  ·
                    refine AW.seq ?_
                    refine AW.reg ?_
                    refine SeqK.q (q_eql rfl rfl rfl) rfl rfl rfl ?_
                    refine SeqK.q (q_asC rfl rfl) rfl rfl rfl ?_
                    refine SeqK.nil ?_
                    refine AW.condD rfl (fun h108 => ?_) (fun h108 => ?_)
                    ·
                      refine AW.seq ?_
                      have hfl := flo hw hr hO (List.getElem_mem h0) (List.getElem_mem h1) hn0 hn1 hcm ⟨hl4, hl8⟩ (by omega) va vb
                      refine AW.reg ?_
                      refine SeqK.q (q_mvC rfl rfl) rfl rfl rfl ?_
                      refine SeqK.q (q_mvC rfl rfl) rfl rfl rfl ?_
                      refine SeqK.q (q_call _ rfl Fx.fn34 rfl (rfloor_any _ _ hfl.1 hfl.2) rfl) rfl rfl rfl ?_
                      refine SeqK.q (q_asC rfl rfl) rfl rfl rfl ?_
                      refine SeqK.q (q_asC rfl rfl) rfl rfl rfl ?_
                      refine SeqK.nil ?_
                      refine AW.ret ?_
                      exact fin_x (x := .tup [_, _]) (H) (.tmp rfl (.tmp rfl .nil)) rfl (fun _ _ h => h) (⟨vre (by rw [kv, opV, if_neg (by omega), if_neg (by omega), if_neg (by omega), if_pos (by assumption)]), rfl⟩)
                    ·
                      refine AW.skip ?_
                      refine AW.seq ?_
                      have hfl := flo hw hr hO (List.getElem_mem h0) (List.getElem_mem h1) hn0 hn1 hcm ⟨hl4, hl8⟩ (by omega) va vb
                      refine AW.reg ?_
                      refine SeqK.q (q_mvC rfl rfl) rfl rfl rfl ?_
                      refine SeqK.q (q_mvC rfl rfl) rfl rfl rfl ?_
                      refine SeqK.q (q_mvC rfl rfl) rfl rfl rfl ?_
                      refine SeqK.q (q_mvC rfl rfl) rfl rfl rfl ?_
                      refine SeqK.q (q_call _ rfl Fx.fn34 rfl (rfloor_any _ _ hfl.1 hfl.2) rfl) rfl rfl rfl ?_
                      refine SeqK.q (q_mul _ rfl rfl rfl (rfl)) rfl rfl rfl ?_
                      refine SeqK.q (q_sub _ rfl rfl rfl (rfl)) rfl rfl rfl ?_
                      refine SeqK.q (q_asC rfl rfl) rfl rfl rfl ?_
                      refine SeqK.q (q_asC rfl rfl) rfl rfl rfl ?_
                      refine SeqK.nil ?_
                      refine AW.ret ?_
                      exact fin_x (x := .tup [_, _]) (H) (.tmp rfl (.tmp rfl .nil)) rfl (fun _ _ h => h) (⟨vre (by rw [kv, opV, if_neg (by omega), if_neg (by omega), if_neg (by omega), if_neg (by omega)]), rfl⟩)

theorem eval_any (r : List RV) (z : Nz) (hw : rowB r = true) (hL : r.length ≤ 1000000000000000000) (e : Ex) : rgE' e → (ofE e).2 = 0 → Pure Tryd.prog 24 [exC e, rowC z r] (vrC (evE r e)) := by
  induction e using Ex.ind with
  | h e ih =>
    intro hr hO
    exact eval_of r z hw hL e hr hO fun a ha ho => ih a ha (((rgE_eq e).1 hr).2 a ha) ho

end Go.Proofs.YtfbdokfcebpkaaaDoor.W
namespace Go.Proofs.YtfbdokfcebpkaaaDoor.W
open Go.RowKit E M
set_option linter.unusedVariables false
set_option linter.unusedSimpArgs false
set_option linter.unusedSectionVars false
theorem few_iff {e : Ex} (h : fewB e = true) : e.siz ≤ 80 ∧ e.mds ≤ 6 := by simpa [fewB] using h

set_option maxRecDepth 20000 in
theorem meaning_law (e : Ex) (hr : rgE' e) (r : List RV) (z : Nz) (hL : r.length ≤ 1000000000000000000) (H : Heap) : E.Spec Tryd.prog 6 [exC e, rowC z r] H fun x H' => x = bX true := by
  refine Spec.enter Tryd.func6 rfl ?_
  refine AW.wk (Wk.keep 53 [(0, .c (exC e)), (1, .c (rowC z r))] [] (H) rfl ⟨rfl, rfl, trivial⟩ trivial (fun _ _ h => h) rfl) ?_
  refine AW.seq ?_
  refine AW.reg ?_
  refine SeqK.r (b_box (r := [_, _, _, _, _, _, _, _]) rfl rfl rfl rfl rfl rfl) rfl ?_
  refine SeqK.q (q_asC rfl rfl) rfl rfl rfl ?_
  refine SeqK.nil ?_
  refine AW.seq ?_
  refine AW.seq ?_
  refine AW.reg ?_
  refine SeqK.q (q_call _ rfl Fx.fn12 rfl (awake_any) rfl) rfl rfl rfl ?_
  refine SeqK.q (q_not rfl rfl) rfl rfl rfl ?_
  refine SeqK.q (q_mvC rfl rfl) rfl rfl rfl ?_
  refine SeqK.rOn (b_load (r := .g [_, _, _, _, _, _, _, _]) rfl Fx.ty36 rfl rfl rfl rfl rfl rfl) rfl rfl rfl ?_
  refine SeqK.on (q_call _ rfl Fx.fn21 rfl (few_any e hr) rfl) rfl rfl rfl rfl rfl ?_
  refine SeqK.on (q_not rfl rfl) rfl rfl rfl rfl rfl ?_
  refine SeqK.q (q_pkF rfl rfl rfl) rfl rfl rfl ?_
  refine SeqK.qB (q_mvC rfl rfl) rfl rfl rfl (fun g18 => ?_) (fun g18 => ?_)
  ·
    refine SeqK.off rfl rfl rfl rfl rfl rfl ?_
    refine SeqK.off rfl rfl rfl rfl rfl rfl ?_
    refine SeqK.off rfl rfl rfl rfl rfl rfl ?_
    refine SeqK.q (q_pkT rfl rfl rfl) rfl rfl rfl ?_
    refine SeqK.nil ?_
    refine AW.condT rfl ?_
    refine AW.seq ?_
    refine AW.reg ?_
    refine SeqK.q (q_call _ rfl Fx.fn12 rfl (awake_any) rfl) rfl rfl rfl ?_
    refine SeqK.q (q_asC rfl rfl) rfl rfl rfl ?_
    refine SeqK.nil ?_
    refine AW.ret ?_
    exact fin_x (x := .c _) (_) (.tmp rfl .nil) rfl (fun _ _ h => h) (by first | rfl | (simp; done) | (have km := meaning kw e hr h30 (by simpa using g45); rw [km] at g47; simp_all))
  ·
    refine SeqK.on (q_mvC rfl rfl) rfl rfl rfl rfl rfl ?_
    refine SeqK.on (q_call _ rfl Fx.fn22 rfl (row_any r z hL) rfl) rfl rfl rfl rfl rfl ?_
    refine SeqK.on (q_not rfl rfl) rfl rfl rfl rfl rfl ?_
    refine SeqK.q (q_pkF rfl rfl rfl) rfl rfl rfl ?_
    refine SeqK.nil ?_
    refine AW.cond _ rfl (fun h22 => ?_) (fun h22 => ?_)
    ·
      refine AW.seq ?_
      refine AW.reg ?_
      refine SeqK.q (q_call _ rfl Fx.fn12 rfl (awake_any) rfl) rfl rfl rfl ?_
      refine SeqK.q (q_asC rfl rfl) rfl rfl rfl ?_
      refine SeqK.nil ?_
      refine AW.ret ?_
      exact fin_x (x := .c _) (_) (.tmp rfl .nil) rfl (fun _ _ h => h) (by first | rfl | (simp; done) | (have km := meaning kw e hr h30 (by simpa using g45); rw [km] at g47; simp_all))
    ·
      refine AW.skip ?_
      refine AW.seq ?_
      have kf := few_iff (by simpa using g18 : fewB e = true)
      have kw : rowB r = true := by simpa using h22
      have hok := okE_few e hr kf.1 kf.2
      have kg := gd_few kf.1 kf.2
      refine AW.reg ?_
      refine SeqK.r (b_load (r := .g [_, _, _, _, _, _, _, _]) rfl Fx.ty36 rfl rfl rfl rfl rfl rfl) rfl ?_
      refine SeqK.q (q_call _ rfl Fx.fn23 rfl (of_any e hok) rfl) rfl rfl rfl ?_
      refine SeqK.q (q_mvT rfl rfl) rfl rfl rfl ?_
      refine SeqK.q (q_extract _ rfl rfl rfl) rfl rfl rfl ?_
      refine SeqK.q (q_extract _ rfl rfl rfl) rfl rfl rfl ?_
      refine SeqK.r (b_alloc (r := [_, _]) rfl rfl Fx.ze24 rfl rfl rfl rfl) rfl ?_
      refine SeqK.r (b_store (r := [_, _]) rfl rfl Fx.ty24 rfl rfl rfl rfl rfl rfl) rfl ?_
      refine SeqK.q (q_asC rfl rfl) rfl rfl rfl ?_
      refine SeqK.nil ?_
      refine AW.seq ?_
      refine AW.seq ?_
      refine AW.reg ?_
      refine SeqK.q (q_mvC rfl rfl) rfl rfl rfl ?_
      refine SeqK.q (q_neq rfl rfl rfl) rfl rfl rfl ?_
      refine SeqK.nil ?_
      refine AW.condD rfl (fun h30 => ?_) (fun h30 => ?_)
      ·
        refine AW.seq ?_
        refine AW.reg ?_
        refine SeqK.q (q_asC rfl rfl) rfl rfl rfl ?_
        refine SeqK.nil ?_
        refine AW.ret ?_
        exact fin_x (x := .c _) (_) (.tmp rfl .nil) rfl (fun _ _ h => h) (by first | rfl | (simp; done) | (have km := meaning kw e hr h30 (by simpa using g45); rw [km] at g47; simp_all))
      ·
        replace h30 := Classical.not_not.1 h30
        refine AW.skip ?_
        refine AW.seq ?_
        refine AW.reg ?_
        refine SeqK.r (b_load (r := .g [_, _, _, _, _, _, _, _]) rfl Fx.ty36 rfl rfl rfl rfl rfl rfl) rfl ?_
        refine SeqK.q (q_mvC rfl rfl) rfl rfl rfl ?_
        refine SeqK.q (q_call _ rfl Fx.fn24 rfl (eval_any r z kw hL e hr h30) rfl) rfl rfl rfl ?_
        refine SeqK.q (q_mvT rfl rfl) rfl rfl rfl ?_
        refine SeqK.q (q_extract _ rfl rfl rfl) rfl rfl rfl ?_
        refine SeqK.q (q_extract _ rfl rfl rfl) rfl rfl rfl ?_
        refine SeqK.q (q_asC rfl rfl) rfl rfl rfl ?_
        refine SeqK.q (q_asC rfl rfl) rfl rfl rfl ?_
        refine SeqK.nil ?_
        refine AW.seq ?_
        refine AW.reg ?_
        refine SeqK.r (b_load (r := .g [_, _]) rfl Fx.ty24 rfl rfl rfl rfl rfl rfl) rfl ?_
        refine SeqK.q (q_mvC rfl rfl) rfl rfl rfl ?_
        refine SeqK.q (q_call _ rfl Fx.fn25 rfl (value_any r z _ (kg h30).1 (by have := (kg h30).2; omega)) rfl) rfl rfl rfl ?_
        refine SeqK.q (q_mvT rfl rfl) rfl rfl rfl ?_
        refine SeqK.q (q_extract _ rfl rfl rfl) rfl rfl rfl ?_
        refine SeqK.q (q_extract _ rfl rfl rfl) rfl rfl rfl ?_
        refine SeqK.q (q_asC rfl rfl) rfl rfl rfl ?_
        refine SeqK.q (q_asC rfl rfl) rfl rfl rfl ?_
        refine SeqK.nil ?_
        refine AW.seq ?_
        refine AW.reg ?_
        refine SeqK.q (q_mvC rfl rfl) rfl rfl rfl ?_
        refine SeqK.q (q_not rfl rfl) rfl rfl rfl ?_
        refine SeqK.qB (q_mvC rfl rfl) rfl rfl rfl (fun g45 => ?_) (fun g45 => ?_)
        ·
          refine SeqK.off rfl rfl rfl rfl rfl rfl ?_
          refine SeqK.off rfl rfl rfl rfl rfl rfl ?_
          refine SeqK.offU rfl rfl rfl rfl rfl ?_
          refine SeqK.offU rfl rfl rfl rfl rfl ?_
          refine SeqK.offU rfl rfl rfl rfl rfl ?_
          refine SeqK.off rfl rfl rfl rfl rfl rfl ?_
          refine SeqK.q (q_pkT rfl rfl rfl) rfl rfl rfl ?_
          refine SeqK.q (q_asC rfl rfl) rfl rfl rfl ?_
          refine SeqK.nil ?_
          refine AW.ret ?_
          exact fin_x (x := .c _) (_) (.tmp rfl .nil) rfl (fun _ _ h => h) (by first | rfl | (simp; done) | (have km := meaning kw e hr h30 (by simpa using g45); rw [km] at g47; simp_all))
        ·
          refine SeqK.on (q_mvC rfl rfl) rfl rfl rfl rfl rfl ?_
          refine SeqK.onB (q_mvC rfl rfl) rfl rfl rfl rfl rfl (fun g47 => ?_) (fun g47 => ?_)
          ·
            refine SeqK.on (q_mvC rfl rfl) rfl rfl rfl rfl rfl ?_
            refine SeqK.on (q_mvC rfl rfl) rfl rfl rfl rfl rfl ?_
            refine SeqK.on (q_eql rfl rfl rfl) rfl rfl rfl rfl rfl ?_
            refine SeqK.on (q_pkT rfl rfl rfl) rfl rfl rfl rfl rfl ?_
            refine SeqK.q (q_pkF rfl rfl rfl) rfl rfl rfl ?_
            refine SeqK.q (q_asC rfl rfl) rfl rfl rfl ?_
            refine SeqK.nil ?_
            refine AW.ret ?_
            exact fin_x (x := .c _) (_) (.tmp rfl .nil) rfl (fun _ _ h => h) (by first | rfl | (simp; done) | (have km := meaning kw e hr h30 (by simpa using g45); rw [km] at g47; simp_all))
          ·
            refine SeqK.off rfl rfl rfl rfl rfl rfl ?_
            refine SeqK.off rfl rfl rfl rfl rfl rfl ?_
            refine SeqK.off rfl rfl rfl rfl rfl rfl ?_
            refine SeqK.on (q_pkF rfl rfl rfl) rfl rfl rfl rfl rfl ?_
            refine SeqK.q (q_pkF rfl rfl rfl) rfl rfl rfl ?_
            refine SeqK.q (q_asC rfl rfl) rfl rfl rfl ?_
            refine SeqK.nil ?_
            refine AW.ret ?_
            exact fin_x (x := .c _) (_) (.tmp rfl .nil) rfl (fun _ _ h => h) (by first | rfl | (simp; done) | (have km := meaning kw e hr h30 (by simpa using g45); rw [km] at g47; simp_all))

end Go.Proofs.YtfbdokfcebpkaaaDoor.W
