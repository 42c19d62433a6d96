import Derived.Test.YtkpacejikoengaaW2
import Derived.Test.YtkpacejikoengaaP1
import Derived.Test.YtkpacejikoengaaShelf
namespace Go.Proofs.Ytkpacejikoengaa.W
open Go.RowKit E M
set_option linter.unusedVariables false
set_option linter.unusedSimpArgs false
theorem sort_any (H : Heap) (k : Nat) (l : List Int) (hk : H k = some (.row 3 1 (l.map i64A))) (hl : l.length ≤ 1000000) :
    E.Spec Try.prog 34 [.a (.os k 0 l.length 1)] H fun x H' => x = .tup [] ∧ H' = upd H k (some (.row 3 1 ((l.mergeSort fun x y => decide (x ≤ y)).map i64A))) :=
  E.Spec.sort (Value.int .i64) (fun _ => rfl) (fun l => l.mergeSort fun x y => decide (x ≤ y)) (fun l => List.length_mergeSort l) (fun blk off cap zs w => Try.slices_Sort_int blk off cap zs w) (fun p cap w => Try.slices_Sort_int_none p cap w) H k 3 l hk (by omega)
def TightOk (all : List Bd) (ts : List Int) : Prop := (∀ v ∈ ts, 0 ≤ v ∧ v < all.length) ∧ ∀ b ∈ all, ∃ v ∈ ts, (bd all v.toNat).i = b.i ∧ (bd all v.toNat).j = b.j ∧ (bd all v.toNat).c ≤ b.c
theorem nodup_len {l : List ME} {seen : List Nat} {kk : KK} {ck : Nat} (h : MOk kk l ck) (hn : seen.Nodup) (hs : ∀ s ∈ seen, ∃ m ∈ l, m.b = s) : seen.length ≤ l.length := by
  have := len_sub seen (l.map (·.b)) hn fun s hs' => by
    obtain ⟨m, h1, h2⟩ := hs s hs'
    exact List.mem_map.2 ⟨m, h1, h2⟩
  simpa using this
theorem same_born {kk : KK} {es3 : List ME} {c3 : Nat} (ok : MOk kk es3 c3) {m m' : ME} (h : m ∈ es3) (h' : m' ∈ es3) (e : m.b = m'.b) : m = m' := by
  obtain ⟨i, hi⟩ := List.getElem?_of_mem h
  obtain ⟨j, hj⟩ := List.getElem?_of_mem h'
  have hil := (List.getElem?_eq_some_iff.1 hi).1
  have hjl := (List.getElem?_eq_some_iff.1 hj).1
  have h1 : (es3.map (·.b))[i]? = some m.b := by rw [List.getElem?_map, hi]; rfl
  have h2 : (es3.map (·.b))[j]? = some m'.b := by rw [List.getElem?_map, hj]; rfl
  have : i = j := by
    refine (List.getElem_inj (xs := es3.map (·.b)) (h₀ := by simpa using hil) (h₁ := by simpa using hjl) ok.inj).1 ?_
    have e1 := (List.getElem?_eq_some_iff.1 h1).2
    have e2 := (List.getElem?_eq_some_iff.1 h2).2
    rw [e1, e2, e]
  subst this
  rw [hi] at hj; injection hj
theorem MatAt.tightAll {H : Heap} {k n : Nat} {all : List Bd} {z : Nz} {k3 k1 : Nat} {es : List ME} {ck : Nat} {r : Int → Int → Option Nat} (h : MatAt H k n all z k3 k1 es ck r) {out : List Int} {seen : List Nat} (h1 : ∀ v ∈ out, 0 ≤ v ∧ v < all.length) (h2 : ∀ m ∈ es, m.b ∈ seen → ∃ k9 : Nat, m.x = iC (k9 : Nat) ∧ (k9 : Int) ∈ out) (hd : ∀ m ∈ es, m.b ∈ seen) : TightOk all (out.mergeSort fun x y => decide (x ≤ y)) := by
  have hp := List.mergeSort_perm out (fun x y => decide (x ≤ y))
  refine ⟨fun v hv => h1 v (hp.mem_iff.1 hv), fun b hb => ?_⟩
  have hl := h.least b.i b.j
  have hg := h.get b.i b.j
  cases hr : r b.i b.j with
  | none => rw [hr] at hl; exact absurd ⟨rfl, rfl⟩ (hl b hb)
  | some k9 =>
    rw [hr] at hl hg
    obtain ⟨m, h3, h4, h5⟩ := mget_some (kk := Fx.kk80) rfl h.ok.key hg
    obtain ⟨k8, h6, h7⟩ := h2 m h3 (hd m h3)
    rw [h5] at h6
    have : k9 = k8 := by injection h6 with h6; injection h6 with h6; injection h6 with h6; injection h6 with _ h6; omega
    subst this
    refine ⟨(k9 : Int), hp.mem_iff.2 h7, ?_⟩
    have := hl.2.2.2 b hb rfl rfl
    exact ⟨by simpa using hl.2.1, by simpa using hl.2.2.1, by simpa using this⟩
theorem same_key {kk : KK} {es3 : List ME} {c3 : Nat} (ok : MOk kk es3 c3) {m m' : ME} (h : m ∈ es3) (h' : m' ∈ es3) (e : m.k = m'.k) : m = m' := by
  obtain ⟨i, hi⟩ := List.getElem?_of_mem h
  obtain ⟨j, hj⟩ := List.getElem?_of_mem h'
  have hil := (List.getElem?_eq_some_iff.1 hi).1
  have hjl := (List.getElem?_eq_some_iff.1 hj).1
  have h1 : (es3.map (·.k))[i]? = some m.k := by rw [List.getElem?_map, hi]; rfl
  have h2 : (es3.map (·.k))[j]? = some m'.k := by rw [List.getElem?_map, hj]; rfl
  have : i = j := by
    refine (List.getElem_inj (xs := es3.map (·.k)) (h₀ := by simpa using hil) (h₁ := by simpa using hjl) ok.nodup).1 ?_
    have e1 := (List.getElem?_eq_some_iff.1 h1).2
    have e2 := (List.getElem?_eq_some_iff.1 h2).2
    rw [e1, e2, e]
  subst this
  rw [hi] at hj; injection hj
def vO (m : ME) : Int := match m.x with | .a (.t (.v (.int _ q))) => q | _ => 0
theorem MatAt.entry {H : Heap} {k n : Nat} {all : List Bd} {z : Nz} {k3 k1 : Nat} {es : List ME} {ck : Nat} {r : Int → Int → Option Nat} (h : MatAt H k n all z k3 k1 es ck r) {m : ME} (hm : m ∈ es) : ∃ i j, ∃ k : Nat, m.k = Fx.pr i j ∧ r i j = some k ∧ m.x = iC (k : Nat) ∧ vO m = k := by
  obtain ⟨i, j, e⟩ := Fx.pr_of (h.ok.key _ hm)
  have h9 := mget_mem h.ok hm
  rw [e, h.get] at h9
  cases hr : r i j with
  | none => rw [hr] at h9; cases h9
  | some q =>
    rw [hr] at h9
    have h9 : iC (q : Nat) = m.x := by injection h9
    exact ⟨i, j, q, e, hr, h9.symm, by unfold vO; rw [← h9]⟩
theorem MatAt.tightEx {H : Heap} {k n : Nat} {all : List Bd} {z : Nz} {k3 k1 : Nat} {es : List ME} {ck : Nat} {r : Int → Int → Option Nat} (h : MatAt H k n all z k3 k1 es ck r) {out : List Int} {seen : List Nat} (hn : seen.Nodup) (hd : ∀ m ∈ es, m.b ∈ seen) (hm : ∃ ms : List ME, (∀ m ∈ ms, m ∈ es) ∧ seen = ms.map (·.b) ∧ out = ms.map vO) : TightEx r (out.mergeSort fun x y => decide (x ≤ y)) := by
  obtain ⟨ms, h1, h2, h3⟩ := hm
  have hp := List.mergeSort_perm out (fun x y => decide (x ≤ y))
  have hmem : ∀ m ∈ es, m ∈ ms := fun m hm => by
    have h4 := hd m hm
    rw [h2] at h4
    obtain ⟨m', h5, h6⟩ := List.mem_map.1 h4
    exact same_born h.ok (h1 m' h5) hm h6 ▸ h5
  have hpair : ms.Pairwise fun a b => vO a ≠ vO b := by
    have h4 : ms.Pairwise fun a b => a.b ≠ b.b := by rw [h2] at hn; exact List.pairwise_map.1 hn
    have h5 : ms.Pairwise fun a b => a ∈ es ∧ b ∈ es ∧ a.b ≠ b.b := h4.imp_of_mem fun ha hb hne => ⟨h1 _ ha, h1 _ hb, hne⟩
    refine h5.imp fun {a b} ⟨ha, hb, hne⟩ e => hne ?_
    obtain ⟨i, j, k, e1, e2, _, e4⟩ := h.entry ha
    obtain ⟨i', j', k', g1, g2, _, g4⟩ := h.entry hb
    have hk : k = k' := by rw [e4, g4] at e; omega
    subst hk
    have l1 := h.least i j
    have l2 := h.least i' j'
    rw [e2] at l1
    rw [g2] at l2
    have hi : i = i' := l1.2.1.symm.trans l2.2.1
    have hj : j = j' := l1.2.2.1.symm.trans l2.2.2.1
    subst hi hj
    rw [same_key h.ok ha hb (e1.trans g1.symm)]
  refine ⟨fun v hv => ?_, fun i j k9 hr => ?_, ?_⟩
  · have hv := hp.mem_iff.1 hv
    rw [h3] at hv
    obtain ⟨m, h4, rfl⟩ := List.mem_map.1 hv
    obtain ⟨i, j, k, _, e2, _, e4⟩ := h.entry (h1 m h4)
    exact ⟨i, j, k, e2, e4⟩
  · have hg := h.get i j
    rw [hr] at hg
    obtain ⟨m, h4, h5, h6⟩ := mget_some (kk := Fx.kk80) rfl h.ok.key hg
    refine hp.mem_iff.2 ?_
    rw [h3]
    refine List.mem_map.2 ⟨m, hmem m h4, ?_⟩
    unfold vO; rw [h6]
  · have hs := List.pairwise_mergeSort (le := fun x y : Int => decide (x ≤ y)) (fun a b c h1 h2 => by simp at h1 h2 ⊢; omega) (fun a b => by simp; omega) out
    have hnd : (out.mergeSort fun x y => decide (x ≤ y)).Pairwise (· ≠ ·) := hp.nodup_iff.2 (by rw [h3]; exact List.pairwise_map.2 hpair)
    exact (hs.and hnd).imp fun {a b} ⟨h4, h5⟩ => by simp at h4; omega

set_option maxRecDepth 20000 in
theorem tight_row (H : Heap) (k n : Nat) (all : List Bd) {z : Nz} {k3 k1 : Nat} {es : List ME} {ck : Nat} {r : Int → Int → Option Nat} (I : MatAt H k n all z k3 k1 es ck r) (hl : all.length ≤ 100000) : E.Spec Try.prog 33 [.a (.bp k 0)] H fun x H' => ∃ kr ts, H kr = none ∧ TightOk all ts ∧ TightEx r ts ∧ x = .c (.a (.os kr 0 ts.length 1)) ∧ ts.length ≤ all.length ∧ H' = upd H kr (some (.row 3 1 (ts.map i64A))) := by
  have hbox := I.box
  have hm1 := I.map
  have hesl := I.esl
  refine Spec.enter Try.func33 rfl ?_
  refine AW.wk (Wk.keep 22 [(0, .c (.a (.bp k 0)))] [] (H) rfl ⟨rfl, trivial⟩ trivial (fun _ _ h => h) rfl) ?_
  refine AW.seq ?_
  refine AW.reg ?_
  refine SeqK.q (q_asC rfl rfl) rfl rfl rfl ?_
  refine SeqK.nil ?_
  refine AW.seq ?_
  refine AW.reg ?_
  refine SeqK.q (q_asC rfl rfl) rfl rfl rfl ?_
  refine SeqK.nil ?_
  refine AW.seq ?_
  refine AW.seq ?_
  refine AW.reg ?_
  refine SeqK.q (q_mvC rfl rfl) rfl rfl rfl ?_
  refine SeqK.q (q_nilH rfl rfl) rfl rfl rfl ?_
  refine SeqK.q (q_fieldH _ rfl Fx.fl73_2 rfl rfl) rfl rfl rfl ?_
  refine SeqK.r (g_load (r := .a _) rfl Fx.ty71 rfl (by (repeat rw [upd_ne _ _ (by first | assumption | exact Ne.symm (by assumption))]); first | assumption | exact upd_same _ _ _) rfl rfl rfl rfl) rfl ?_
  refine SeqK.r (b_range rfl rfl Fx.un71 rfl (by (repeat rw [upd_ne _ _ (by first | assumption | exact Ne.symm (by assumption))]); first | assumption | exact upd_same _ _ _) rfl rfl) rfl ?_
  refine SeqK.nil ?_
  refine AW.block ?_
  refine AW.row 3 3 1 rfl (fun k0 hk0 => ?_)
  refine AW.loop (fun (i : Nat) s => ∃ (kr : Nat) (seen : List Nat) (out : List Int) (m : Nat), (m = out.length ∧ H kr = none ∧ seen.Nodup ∧ (∀ s ∈ seen, ∃ m ∈ es, m.b = s) ∧ seen.length = i ∧ out.length = i ∧ (∀ v ∈ out, 0 ≤ v ∧ v < all.length) ∧ (∀ m ∈ es, m.b ∈ seen → ∃ k9 : Nat, m.x = iC (k9 : Nat) ∧ (k9 : Int) ∈ out) ∧ ∃ ms : List ME, (∀ m ∈ ms, m ∈ es) ∧ seen = ms.map (·.b) ∧ out = ms.map vO) ∧ s = ⟨22, sp [(3, .c (.a (.os kr 0 m 1))), (10, .lp 10 0)], lv [(10, .iter k1 ck seen ck)], upd H kr (some (.row 3 1 (out.map i64A)))⟩) (fun i => es.length + 1 - i) 0 ⟨_, Wk.keep 22 [(3, .c (.a (.os (k0) 0 (0) 1))), (10, .lp 10 0)] [(10, .iter k1 ck ([]) ck)] (upd H (k0) (some (.row 3 1 (([]).map i64A)))) rfl ⟨rfl, rfl, trivial⟩ ⟨rfl, trivial⟩ (fun _ _ h => h) rfl, k0, [], [], 0, ⟨rfl, hk0, by simp, by simp, rfl, rfl, by simp, by simp, [], by simp, rfl, rfl⟩, rfl⟩ (fun i s hs => ?_)
  obtain ⟨kr, seen, out, m, ⟨hnl, hkr, hsn, hss, hsl, hol, hob, hoe, hms⟩, rfl⟩ := hs
  obtain ⟨nkr, nk1r⟩ : k ≠ kr ∧ k1 ≠ kr := ⟨fun e => (by rw [← e, hbox] at hkr; cases hkr), fun e => (by rw [← e, hm1] at hkr; cases hkr)⟩
  have hseen := nodup_len I.ok hsn hss
  refine AW.seq ?_
  refine AW.reg ?_
  refine SeqK.next rfl rfl rfl rfl rfl rfl (by (repeat rw [upd_ne _ _ (by first | assumption | exact Ne.symm (by assumption))]); first | assumption | exact upd_same _ _ _) (fun m hm => I.ok.born m hm) (Nat.le_refl _) (fun hd11 => ?_) (fun m11 hm11 hn11 => ?_)
  ·
    refine SeqK.q (q_extract _ rfl rfl rfl) rfl rfl rfl ?_
    refine SeqK.nil ?_
    refine AW.seq ?_
    refine AW.condF rfl ?_
    refine AW.exit ?_
    refine eth_e ?_
    refine eth_e ?_
    refine exit_here ?_
    refine AW.seq ?_
    refine AW.reg ?_
    refine SeqK.q (q_mvC rfl rfl) rfl rfl rfl ?_
    refine SeqK.callE rfl rfl rfl rfl Fx.fn34 rfl (hnl ▸ sort_any _ kr out (upd_same _ _ _) (by omega)) (fun _ _ h => by rw [h.1]; rfl) (fun x20 H20 q20 => ?_)
    obtain ⟨rfl, rfl⟩ := q20
    refine SeqK.nil ?_
    refine AW.seq ?_
    refine AW.reg ?_
    refine SeqK.q (q_mvC rfl rfl) rfl rfl rfl ?_
    refine SeqK.q (q_asC rfl rfl) rfl rfl rfl ?_
    refine SeqK.nil ?_
    refine AW.ret ?_
    exact fin_x (x := .c _) (_) (.tmp rfl .nil) rfl (fun _ _ h => h) (⟨kr, out.mergeSort fun x y => decide (x ≤ y), hkr, I.tightAll hob hoe hd11, I.tightEx hsn hd11 hms, by rw [hnl, List.length_mergeSort], by rw [List.length_mergeSort]; omega, by
      show upd (upd H kr _) kr _ = _
      rw [upd_upd]⟩)
  ·
    obtain ⟨mk, mx, mb⟩ := m11
    obtain ⟨i9, j9, rfl⟩ := Fx.pr_of (I.ok.key _ hm11)
    have h9 := mget_mem I.ok hm11
    rw [I.get] at h9
    obtain ⟨k9, hr9, rfl⟩ : ∃ k9 : Nat, r i9 j9 = some k9 ∧ iC (k9 : Nat) = mx := by
      cases hr : r i9 j9 with
      | none => rw [hr] at h9; cases h9
      | some q => rw [hr] at h9; injection h9 with h9; exact ⟨q, rfl, h9⟩
    have hk9 : k9 < all.length := by have := I.least i9 j9; rw [hr9] at this; exact this.1
    refine SeqK.q (q_extract _ rfl rfl rfl) rfl rfl rfl ?_
    refine SeqK.nil ?_
    refine AW.seq ?_
    refine AW.condT rfl ?_
    refine AW.skip ?_
    refine AW.block ?_
    refine AW.seq ?_
    refine AW.reg ?_
    refine SeqK.r (b_entry rfl rfl rfl (by (repeat rw [upd_ne _ _ (by first | assumption | exact Ne.symm (by assumption))]); first | assumption | exact upd_same _ _ _) (by assumption) rfl rfl) rfl ?_
    refine SeqK.q (q_extract _ rfl rfl rfl) rfl rfl rfl ?_
    refine SeqK.q (q_asC rfl rfl) rfl rfl rfl ?_
    refine SeqK.nil ?_
    refine AW.reg ?_
    refine SeqK.q (q_mvC rfl rfl) rfl rfl rfl ?_
    refine SeqK.q (q_mvC rfl rfl) rfl rfl rfl ?_
    refine SeqK.q (q_buildSlice _ rfl Fx.el36 rfl (by decide) rfl) rfl rfl rfl ?_
    refine SeqK.appR1 rfl (by assumption) rfl Fx.el36 rfl (by simp [hnl]) rfl (by simp; omega) rfl rfl (fun k18 hk18 => ?_)
    refine SeqK.q (q_asC rfl rfl) rfl rfl rfl ?_
    refine SeqK.nil ?_
    exact ⟨i + 1, _, Wk.keep 22 [(3, .c (.a (.os (k18) 0 (m + 1) 1))), (10, .lp 10 0)] [(10, .iter k1 ck (seen ++ [mb]) ck)] (upd H (k18) (some (.row 3 1 ((out ++ [(k9 : Int)]).map i64A)))) rfl ⟨rfl, rfl, trivial⟩ ⟨rfl, trivial⟩ (fun j o h => by rw [List.map_append] at h; exact h) rfl, by omega, k18, seen ++ [mb], out ++ [(k9 : Int)], m + 1, ⟨by simp [hnl], hk18, by rw [List.nodup_append]; exact ⟨hsn, by simp, fun a ha c hc e => by simp at hc; subst hc e; exact hn11 ha⟩, fun s hs' => (List.mem_append.1 hs').elim (hss s) (fun h => by simp at h; exact ⟨_, hm11, h.symm⟩), by simp; omega, by simp; omega, fun v hv => (List.mem_append.1 hv).elim (hob v) (fun h => by simp at h; subst h; exact ⟨by omega, by omega⟩), fun m h9 h8 => by
      rcases List.mem_append.1 h8 with h7 | h7
      · obtain ⟨q, q1, q2⟩ := hoe m h9 h7; exact ⟨q, q1, by simp [q2]⟩
      · simp at h7
        have := same_born I.ok hm11 h9 h7.symm
        subst this
        exact ⟨k9, rfl, by simp⟩, by
      obtain ⟨ms, q1, q2, q3⟩ := hms
      exact ⟨ms ++ [⟨Fx.pr i9 j9, iC (k9 : Nat), mb⟩], fun m hm => (List.mem_append.1 hm).elim (q1 m) (fun h => by simp at h; subst h; exact hm11), by rw [q2]; simp, by rw [q3]; simp [vO]⟩⟩, rfl⟩


theorem flat_i64 (cs : List Int) : (cs.map i64T).flatten.map A.t = cs.map i64A := by
  induction cs with
  | nil => rfl
  | cons c cs ih => simp only [List.map_cons, List.flatten_cons, List.map_append, ih]; rfl
theorem tight_any (H : Heap) (k n : Nat) (all : List Bd) {z : Nz} {k3 k1 : Nat} {es : List ME} {ck : Nat} {r : Int → Int → Option Nat} (I : MatAt H k n all z k3 k1 es ck r) (hl : all.length ≤ 100000) :
    E.Spec Try.prog 33 [.a (.bp k 0)] H fun x H' => ∃ ts, TightOk all ts ∧ TightEx r ts ∧ ts.length ≤ all.length ∧ x = .c (.a (.t (.sl .un 1 (ts.map i64T)))) ∧ H' = H :=
  E.Spec.freeze (tight_row H k n all I hl) fun x H' ⟨kr, ts, h1, h2, h2x, hx, h3, hH⟩ => ⟨kr, 1, 3, ts.map i64T, by rw [hH, upd_same, flat_i64], fun e he => by obtain ⟨s, _, rfl⟩ := List.mem_map.1 he; rfl, by decide, by
    subst hx hH
    refine ⟨ts, h2, h2x, h3, ?_, upd_back h1⟩
    simp [fzX, fzC, fzA]⟩

end Go.Proofs.Ytkpacejikoengaa.W
