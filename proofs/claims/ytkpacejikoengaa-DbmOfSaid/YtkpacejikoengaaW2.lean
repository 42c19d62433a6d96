import Derived.Test.YtkpacejikoengaaW1
namespace Go.Proofs.Ytkpacejikoengaa.W
open Go.RowKit E M
set_option linter.unusedVariables false
set_option linter.unusedSimpArgs false
/-- the error of Add -/
def adE (n : Nat) (b : Bd) : Int := if 0 ≤ b.i ∧ b.i ≤ n ∧ 0 ≤ b.j ∧ b.j ≤ n then (if -1125899906842624 ≤ b.c ∧ b.c ≤ 1125899906842624 then 0 else 3) else 1
def adL (n : Nat) (all : List Bd) (b : Bd) : List Bd := if adE n b = 0 then all ++ [b] else all
theorem adE_ok {n : Nat} {b : Bd} (h : OkB n b) : adE n b = 0 := by
  unfold adE; obtain ⟨h1, h2, h3, h4, h5, h6⟩ := h
  rw [if_pos ⟨h1, h2, h3, h4⟩, if_pos ⟨h5, h6⟩]
theorem adE_1 {n : Nat} {b : Bd} (h : ¬ (0 ≤ b.i ∧ b.i ≤ n ∧ 0 ≤ b.j ∧ b.j ≤ n)) : adE n b = 1 := by unfold adE; rw [if_neg h]
theorem adE_3 {n : Nat} {b : Bd} (h : 0 ≤ b.i ∧ b.i ≤ n ∧ 0 ≤ b.j ∧ b.j ≤ n) (h' : ¬ (-1125899906842624 ≤ b.c ∧ b.c ≤ 1125899906842624)) : adE n b = 3 := by unfold adE; rw [if_pos h, if_neg h']
theorem adE_0 {n : Nat} {b : Bd} (h : adE n b = 0) : OkB n b := by
  unfold adE at h
  split at h
  · rename_i h1
    split at h
    · rename_i h2; exact ⟨h1.1, h1.2.1, h1.2.2.1, h1.2.2.2, h2.1, h2.2⟩
    · cases h
  · cases h
theorem MatAt.add {H H1 : Heap} {k n : Nat} {all : List Bd} {z : Nz} {k3 k1 : Nat} {es es' : List ME} {ck ck' : Nat} {r r' : Int → Int → Option Nat} {b : Bd} {k4 : Nat} (h : MatAt H k n all z k3 k1 es ck r) (ht : H k3 = some (.tip 78 3 all.length))
    (h1 : H1 k1 = some (.map Fx.kk80 es' ck')) (hs : ∀ j, j ≠ k1 → H1 j = H j) (ok : MOk Fx.kk80 es' ck') (get : ∀ i j, mget (Fx.pr i j) es' = (r' i j).map fun k => iC (k : Nat)) (least : ∀ i j, LeastOk (all ++ [b]) i j (r' i j)) (hb : OkB n b) (hes : es'.length ≤ all.length + 1) (hk4 : H1 k4 = none) :
    Mat (upd (upd (upd H1 k3 none) k4 (some (.tip 78 3 (all.map bdT ++ [bdT b]).length))) k (some (.box [.t (.v (.int .i64 (n : Nat))), .ts k4 z 3 (all.map bdT ++ [bdT b]), .mp k1]))) k n (all ++ [b]) := by
  obtain ⟨n1, n2, n3⟩ := h.ne ht
  have n4 : k4 ≠ k1 := fun e => by rw [e, h1] at hk4; cases hk4
  have n5 : k4 ≠ k3 := fun e => by rw [e, hs _ n3, ht] at hk4; cases hk4
  have n6 : k4 ≠ k := fun e => by rw [e, hs _ n2, h.box] at hk4; cases hk4
  refine ⟨z, k4, k1, es', ck', r', ⟨by rw [upd_same, List.map_append]; rfl, by rw [upd_ne _ _ n2.symm, upd_ne _ _ n4.symm, upd_ne _ _ n3.symm]; exact h1, ok, get, least, fun b' hb' => ?_, h.n64, by simpa using hes⟩, by rw [upd_ne _ _ n6, upd_same]; simp⟩
  rcases List.mem_append.1 hb' with h5 | h5
  · exact h.bnd b' h5
  · simp at h5; subst h5; exact hb
theorem MatAt.look {H : Heap} {k n : Nat} {all : List Bd} {z : Nz} {k3 k1 : Nat} {es : List ME} {ck : Nat} {r : Int → Int → Option Nat} (h : MatAt H k n all z k3 k1 es ck r) (b : Bd) (v : Nat) : ∀ i j, mget (Fx.pr i j) (mset (Fx.pr b.i b.j) (iC (v : Nat)) ck es) = ((fun i j => if i = b.i ∧ j = b.j then some v else r i j) i j).map fun k => iC (k : Nat) := fun i j => by
  rw [mget_mset (kk := Fx.kk80) rfl rfl h.ok.key]
  by_cases e : i = b.i ∧ j = b.j
  · obtain ⟨rfl, rfl⟩ := e
    rw [show keq (Fx.pr b.i b.j) (Fx.pr b.i b.j) = true from keq_refl (kk := Fx.kk80) rfl]
    simp
  · have : keq (Fx.pr i j) (Fx.pr b.i b.j) = false := by
      cases h9 : keq (Fx.pr i j) (Fx.pr b.i b.j) with
      | false => rfl
      | true => exact absurd (Fx.pr_inj.1 ((keq_iff (kk := Fx.kk80) rfl rfl).1 h9)) e
    rw [this, cond_false, h.get]
    simp only [if_neg e]
theorem MatAt.tight {H : Heap} {k n : Nat} {all : List Bd} {z : Nz} {k3 k1 : Nat} {es : List ME} {ck : Nat} {r : Int → Int → Option Nat} (h : MatAt H k n all z k3 k1 es ck r) (b : Bd) (hc : ∀ k, r b.i b.j = some k → b.c < (bd all k).c) : ∀ i j, LeastOk (all ++ [b]) i j ((fun i j => if i = b.i ∧ j = b.j then some all.length else r i j) i j) := fun i j => by
  by_cases e : i = b.i ∧ j = b.j
  · obtain ⟨rfl, rfl⟩ := e
    simp only [and_self, if_true]
    exact (h.least b.i b.j).turn hc
  · simp only [if_neg e]
    exact (h.least i j).skip fun e9 => e ⟨e9.1.symm, e9.2.symm⟩
theorem MatAt.loose {H : Heap} {k n : Nat} {all : List Bd} {z : Nz} {k3 k1 : Nat} {es : List ME} {ck : Nat} {r : Int → Int → Option Nat} (h : MatAt H k n all z k3 k1 es ck r) (b : Bd) {k9 : Nat} (hr : r b.i b.j = some k9) (hc : (bd all k9).c ≤ b.c) : ∀ i j, LeastOk (all ++ [b]) i j (r i j) := fun i j => by
  by_cases e : i = b.i ∧ j = b.j
  · obtain ⟨rfl, rfl⟩ := e
    have := h.least b.i b.j
    rw [hr] at this ⊢
    exact this.keep hc
  · exact (h.least i j).skip fun e9 => e ⟨e9.1.symm, e9.2.symm⟩
theorem mset_le {k : Value} {x : C} {ck : Nat} {es : List ME} : (mset k x ck es).length ≤ es.length + 1 := by
  rw [mset_length]; split <;> simp
theorem bd_get {all : List Bd} {k : Nat} (h : k < all.length) : bd all k = all[k] := getD_get h
/-- what grows elsewhere stays -/
def Tips (H H' : Heap) : Prop := ∀ j e sz m, e ≠ 78 → H j = some (.tip e sz m) → H' j = some (.tip e sz m)
theorem Tips.refl (H : Heap) : Tips H H := fun _ _ _ _ _ h => h
theorem Tips.upd {H H1 : Heap} (h : Tips H H1) {k : Nat} {o : Option AO} (hk : ∀ e sz m, e ≠ 78 → H k ≠ some (.tip e sz m)) : Tips H (E.upd H1 k o) := fun j e sz m he hj => by
  have e9 : j ≠ k := fun e9 => hk e sz m he (by rw [← e9]; exact hj)
  rw [upd_ne _ _ e9]; exact h j e sz m he hj
theorem Tips.new {H H1 : Heap} (h : Tips H H1) {k : Nat} (hk : H1 k = none) : ∀ e sz m, e ≠ 78 → H k ≠ some (.tip e sz m) := fun e sz m he hj => by
  have := h k e sz m he hj; rw [hk] at this; cases this
theorem Mat.new {H : Heap} {k n : Nat} {all : List Bd} {k9 : Nat} {o : Option AO} (h : Mat H k n all) (hk : H k9 = none) : Mat (E.upd H k9 o) k n all := by
  obtain ⟨z, k3, k1, es, ck, r, h1, h2⟩ := h
  have hs := fun j o' h => (upd_sub (x := o) hk j o' h : E.upd H k9 o j = some o')
  exact ⟨z, k3, k1, es, ck, r, h1.mono fun j o h _ _ => hs j o h, hs _ _ h2⟩
theorem Mat.move {H : Heap} {k n : Nat} {all : List Bd} {k9 k8 : Nat} {o : Option AO} {sz m : Nat} (h : Mat H k n all) (ht : H k9 = some (.tip 41 sz m)) (hk : H k8 = none) : Mat (E.upd (E.upd H k9 none) k8 o) k n all := by
  obtain ⟨z, k3, k1, es, ck, r, h1, h2⟩ := h
  have hs : ∀ j o', (∀ sz m, o' ≠ .tip 41 sz m) → H j = some o' → E.upd (E.upd H k9 none) k8 o j = some o' := fun j o' hne hj => by
    have n1 : j ≠ k8 := fun e => by rw [e, hk] at hj; cases hj
    have n2 : j ≠ k9 := fun e => by rw [e, ht] at hj; injection hj with hj; exact hne _ _ hj.symm
    rw [upd_ne _ _ n1, upd_ne _ _ n2]; exact hj
  exact ⟨z, k3, k1, es, ck, r, ⟨hs _ _ (fun _ _ e => by cases e) h1.box, hs _ _ (fun _ _ e => by cases e) h1.map, h1.ok, h1.get, h1.least, h1.bnd, h1.n64, h1.esl⟩, hs _ _ (fun _ _ e => by injection e with e; cases e) h2⟩
theorem MatAt.tips {H H1 : Heap} {k n : Nat} {all : List Bd} {z : Nz} {k3 k1 : Nat} {es : List ME} {ck : Nat} {r : Int → Int → Option Nat} {k4 : Nat} {o3 o4 o : Option AO} (h : MatAt H k n all z k3 k1 es ck r) (ht : H k3 = some (.tip 78 3 all.length)) (hs : ∀ j, j ≠ k1 → H1 j = H j) (hk4 : H1 k4 = none) : Tips H (E.upd (E.upd (E.upd H1 k3 o3) k4 o4) k o) := by
  have h1 : Tips H H1 := fun j e sz m he hj => by
    rw [hs j fun e9 => by rw [e9, h.map] at hj; cases hj]; exact hj
  refine ((h1.upd fun e sz m he h9 => ?_).upd (h1.new hk4)).upd fun e sz m he h9 => ?_
  · rw [ht] at h9; injection h9 with h9; injection h9 with h9; exact he h9.symm
  · rw [h.box] at h9; cases h9

set_option maxRecDepth 20000 in
theorem add_any (H : Heap) (k n : Nat) (all : List Bd) (b : Bd) (I : Mat H k n all) (hl : all.length ≤ 1000) : E.Spec Try.prog 22 [.a (.bp k 0), iC b.i, iC b.j, iC b.c] H fun x H' => x = iX .i64 (adE n b) ∧ Mat H' k n (adL n all b) ∧ Tips H H' := by
  refine Spec.enter Try.func22 rfl ?_
  refine AW.wk (Wk.keep 77 [(0, .c (.a (.bp k 0))), (1, .c (iC b.i)), (2, .c (iC b.j)), (3, .c (iC b.c))] [] (H) rfl ⟨rfl, rfl, rfl, rfl, trivial⟩ trivial (fun _ _ h => h) rfl) ?_
  refine AW.seq ?_
  refine AW.reg ?_
  refine SeqK.q (q_asC rfl rfl) rfl rfl rfl ?_
  refine SeqK.nil ?_
  refine AW.seq ?_
  refine AW.seq ?_
  refine AW.reg ?_
  refine SeqK.q (q_mvC rfl rfl) rfl rfl rfl ?_
  refine SeqK.q (q_mvC rfl rfl) rfl rfl rfl ?_
  refine SeqK.r (g_call rfl Fx.fn27 rfl (is_any _ _ _ _ _ I.r) rfl rfl rfl) rfl ?_
  refine SeqK.q (q_not rfl rfl) rfl rfl rfl ?_
  refine SeqK.qB (q_mvC rfl rfl) rfl rfl rfl (fun g16 => ?_) (fun g16 => ?_)
  ·
    refine SeqK.off rfl rfl rfl rfl rfl rfl ?_
    refine SeqK.off rfl rfl rfl rfl rfl rfl ?_
    refine SeqK.off rfl rfl rfl rfl rfl rfl ?_
    refine SeqK.off rfl rfl rfl rfl rfl rfl ?_
    refine SeqK.q (q_pkT rfl rfl rfl) rfl rfl rfl ?_
    refine SeqK.nil ?_
    refine AW.condT rfl ?_
    refine AW.seq ?_
    refine AW.reg ?_
    refine SeqK.q (q_asC rfl rfl) rfl rfl rfl ?_
    refine SeqK.nil ?_
    refine AW.ret ?_
    exact fin_x (x := .c _) (H) (.tmp rfl .nil) rfl (fun _ _ h => h) (⟨by rw [adE_1 (by simp_all <;> omega)], by rw [show adL n all b = all from if_neg (by rw [adE_1 (by simp_all <;> omega)]; decide)]; exact I, .refl _⟩)
  ·
    skip
    refine SeqK.on (q_mvC rfl rfl) rfl rfl rfl rfl rfl ?_
    refine SeqK.on (q_mvC rfl rfl) rfl rfl rfl rfl rfl ?_
    refine SeqK.rOn (g_call rfl Fx.fn27 rfl (is_any _ _ _ _ _ I.r) rfl rfl rfl) rfl rfl rfl ?_
    refine SeqK.on (q_not rfl rfl) rfl rfl rfl rfl rfl ?_
    refine SeqK.q (q_pkF rfl rfl rfl) rfl rfl rfl ?_
    refine SeqK.nil ?_
    refine AW.cond _ rfl (fun h21 => ?_) (fun h21 => ?_)
    ·
      refine AW.seq ?_
      refine AW.reg ?_
      refine SeqK.q (q_asC rfl rfl) rfl rfl rfl ?_
      refine SeqK.nil ?_
      refine AW.ret ?_
      exact fin_x (x := .c _) (H) (.tmp rfl .nil) rfl (fun _ _ h => h) (⟨by rw [adE_1 (by simp_all <;> omega)], by rw [show adL n all b = all from if_neg (by rw [adE_1 (by simp_all <;> omega)]; decide)]; exact I, .refl _⟩)
    ·
      refine AW.skip ?_
      refine AW.seq ?_
      refine AW.seq ?_
      refine AW.reg ?_
      refine SeqK.q (q_mvC rfl rfl) rfl rfl rfl ?_
      refine SeqK.q (q_lss rfl rfl rfl) rfl rfl rfl ?_
      refine SeqK.qD (q_mvC rfl rfl) rfl rfl rfl (fun g24 => ?_) (fun g24 => ?_)
      ·
        refine SeqK.off rfl rfl rfl rfl rfl rfl ?_
        refine SeqK.off rfl rfl rfl rfl rfl rfl ?_
        refine SeqK.q (q_pkT rfl rfl rfl) rfl rfl rfl ?_
        refine SeqK.nil ?_
        refine AW.condT rfl ?_
        refine AW.seq ?_
        refine AW.reg ?_
        refine SeqK.q (q_asC rfl rfl) rfl rfl rfl ?_
        refine SeqK.nil ?_
        refine AW.ret ?_
        exact fin_x (x := .c _) (H) (.tmp rfl .nil) rfl (fun _ _ h => h) (⟨by rw [adE_3 (by simp_all <;> omega) (by simp_all <;> omega)], by rw [show adL n all b = all from if_neg (by rw [adE_3 (by simp_all <;> omega) (by simp_all <;> omega)]; decide)]; exact I, .refl _⟩)
      ·
        refine SeqK.on (q_mvC rfl rfl) rfl rfl rfl rfl rfl ?_
        refine SeqK.on (q_gtr rfl rfl rfl) rfl rfl rfl rfl rfl ?_
        refine SeqK.q (q_pkF rfl rfl rfl) rfl rfl rfl ?_
        refine SeqK.nil ?_
        refine AW.condD rfl (fun h27 => ?_) (fun h27 => ?_)
        ·
          refine AW.seq ?_
          refine AW.reg ?_
          refine SeqK.q (q_asC rfl rfl) rfl rfl rfl ?_
          refine SeqK.nil ?_
          refine AW.ret ?_
          exact fin_x (x := .c _) (H) (.tmp rfl .nil) rfl (fun _ _ h => h) (⟨by rw [adE_3 (by simp_all <;> omega) (by simp_all <;> omega)], by rw [show adL n all b = all from if_neg (by rw [adE_3 (by simp_all <;> omega) (by simp_all <;> omega)]; decide)]; exact I, .refl _⟩)
        ·
          refine AW.skip ?_
          refine AW.seq ?_
          have hbk : OkB n b := by refine ⟨?_, ?_, ?_, ?_, ?_, ?_⟩ <;> simp_all <;> omega
          obtain ⟨z, k3, k1, es, ck, r, I, ht⟩ := I
          have hbox := I.box
          have hm1 := I.map
          obtain ⟨n1, n2, n3⟩ := I.ne ht
          have ht9 : H k3 = some (.tip 78 3 (all.map bdT).length) := by rw [List.length_map]; exact ht
          refine AW.reg ?_
          refine SeqK.q (q_mvC rfl rfl) rfl rfl rfl ?_
          refine SeqK.q (q_mvC rfl rfl) rfl rfl rfl ?_
          refine SeqK.q (q_build2 (zs := [_, _]) (r := [_, _]) [(0, 1), (1, 1)] _ rfl Fx.ze80 rfl Fx.bp80 rfl rfl rfl rfl) rfl rfl rfl ?_
          refine SeqK.r (b_alloc (r := [_, _]) rfl rfl Fx.ze80 rfl rfl rfl rfl) rfl ?_
          refine SeqK.r (b_store (r := [_, _]) rfl rfl Fx.ty80 rfl rfl rfl rfl rfl rfl) rfl ?_
          refine SeqK.nil ?_
          refine AW.seq ?_
          refine AW.seq ?_
          rcases hr : r b.i b.j with _ | k9
          ·
            refine AW.draw Fx.mo ?_
            refine LexK.q (q_mvC rfl rfl) rfl rfl rfl ?_
            refine LexK.q (q_nilH rfl rfl) rfl rfl rfl ?_
            refine LexK.q (q_fieldH _ rfl Fx.fl73_2 rfl rfl) rfl rfl rfl ?_
            refine LexK.r (g_load (r := .a _) rfl Fx.ty71 rfl (by (repeat rw [upd_ne _ _ (by first | assumption | exact Ne.symm (by assumption))]); first | assumption | exact upd_same _ _ _) rfl rfl rfl rfl) rfl ?_
            refine LexK.r (b_load (r := .g [_, _]) rfl Fx.ty80 rfl rfl rfl rfl rfl rfl) rfl ?_
            refine LexK.r (g_lookup (r := .tup [.a _, .a (.t (.v (.bool _)))]) Fx.kl80 rfl Fx.un71 Fx.ze3 rfl (by (repeat rw [upd_ne _ _ (by first | assumption | exact Ne.symm (by assumption))]); first | assumption | exact upd_same _ _ _) rfl rfl (by rw [I.get, hr]) rfl rfl rfl) rfl ?_
            refine LexK.q (q_mvT rfl rfl) rfl rfl rfl ?_
            refine LexK.q (q_extract _ rfl rfl rfl) rfl rfl rfl ?_
            refine LexK.q (q_extract _ rfl rfl rfl) rfl rfl rfl ?_
            refine LexK.q (q_asC rfl rfl) rfl rfl rfl ?_
            refine LexK.q (q_asC rfl rfl) rfl rfl rfl ?_
            refine LexK.nil (by kernel_rfl) ?_
            refine AW.seq ?_
            refine AW.reg ?_
            refine SeqK.q (q_mvC rfl rfl) rfl rfl rfl ?_
            refine SeqK.q (q_not rfl rfl) rfl rfl rfl ?_
            refine SeqK.q (q_mvC rfl rfl) rfl rfl rfl ?_
            refine SeqK.off rfl rfl rfl rfl rfl rfl ?_
            refine SeqK.off rfl rfl rfl rfl rfl rfl ?_
            refine SeqK.off rfl rfl rfl rfl rfl rfl ?_
            refine SeqK.off rfl rfl rfl rfl rfl rfl ?_
            refine SeqK.off rfl rfl rfl rfl rfl rfl ?_
            refine SeqK.off rfl rfl rfl rfl rfl rfl ?_
            refine SeqK.off rfl rfl rfl rfl rfl rfl ?_
            refine SeqK.off rfl rfl rfl rfl rfl rfl ?_
            refine SeqK.off rfl rfl rfl rfl rfl rfl ?_
            refine SeqK.off rfl rfl rfl rfl rfl rfl ?_
            refine SeqK.q (q_pkT rfl rfl rfl) rfl rfl rfl ?_
            refine SeqK.nil ?_
            refine AW.condT rfl ?_
            refine AW.draw Fx.mo ?_
            refine LexK.q (q_mvC rfl rfl) rfl rfl rfl ?_
            refine LexK.q (q_nilH rfl rfl) rfl rfl rfl ?_
            refine LexK.q (q_fieldH _ rfl Fx.fl73_2 rfl rfl) rfl rfl rfl ?_
            refine LexK.r (g_load (r := .a _) rfl Fx.ty71 rfl (by (repeat rw [upd_ne _ _ (by first | assumption | exact Ne.symm (by assumption))]); first | assumption | exact upd_same _ _ _) rfl rfl rfl rfl) rfl ?_
            refine LexK.r (b_load (r := .g [_, _]) rfl Fx.ty80 rfl rfl rfl rfl rfl rfl) rfl ?_
            refine LexK.q (q_mvC rfl rfl) rfl rfl rfl ?_
            refine LexK.q (q_nilH rfl rfl) rfl rfl rfl ?_
            refine LexK.q (q_fieldH _ rfl Fx.fl73_1 rfl rfl) rfl rfl rfl ?_
            refine LexK.r (g_load (r := .a _) rfl Fx.ty70 rfl (by (repeat rw [upd_ne _ _ (by first | assumption | exact Ne.symm (by assumption))]); first | assumption | exact upd_same _ _ _) rfl rfl rfl rfl) rfl ?_
            refine LexK.q (q_lenTs rfl Fx.un70 rfl) rfl rfl rfl ?_
            refine LexK.r (g_mapUpdate Fx.kl80 rfl rfl Fx.un71 rfl (by (repeat rw [upd_ne _ _ (by first | assumption | exact Ne.symm (by assumption))]); first | assumption | exact upd_same _ _ _) rfl rfl rfl) rfl ?_
            refine LexK.nil (by kernel_rfl) ?_
            refine AW.seq ?_
            refine AW.reg ?_
            refine SeqK.q (q_mvC rfl rfl) rfl rfl rfl ?_
            refine SeqK.q (q_mvC rfl rfl) rfl rfl rfl ?_
            refine SeqK.q (q_nilH rfl rfl) rfl rfl rfl ?_
            refine SeqK.q (q_fieldH _ rfl Fx.fl73_1 rfl rfl) rfl rfl rfl ?_
            refine SeqK.r (g_load (r := .a _) rfl Fx.ty70 rfl (by (repeat rw [upd_ne _ _ (by first | assumption | exact Ne.symm (by assumption))]); first | assumption | exact upd_same _ _ _) rfl rfl rfl rfl) rfl ?_
            refine SeqK.q (q_mvC rfl rfl) rfl rfl rfl ?_
            refine SeqK.q (q_mvC rfl rfl) rfl rfl rfl ?_
            refine SeqK.q (q_mvC rfl rfl) rfl rfl rfl ?_
            refine SeqK.q (q_build2 (zs := [_, _, _]) (r := [_, _, _]) [(0, 1), (1, 1), (2, 1)] _ rfl Fx.ze78 rfl Fx.bp78 rfl rfl rfl rfl) rfl rfl rfl ?_
            refine SeqK.q (q_buildSlice _ rfl Fx.el70 rfl (by decide) rfl) rfl rfl rfl ?_
            refine SeqK.app rfl rfl Fx.el70 rfl (by rw [upd_ne _ _ n3]; exact ht9) rfl (by simp; omega) rfl rfl (fun k74 hk74 => ?_)
            have n6 : k ≠ k74 := fun e => by rw [← e] at hk74; first | (rw [upd_ne _ _ n2, hbox] at hk74; cases hk74) | (rw [hbox] at hk74; cases hk74)
            refine SeqK.q (q_nilH rfl rfl) rfl rfl rfl ?_
            refine SeqK.q (q_fieldH _ rfl Fx.fl73_1 rfl rfl) rfl rfl rfl ?_
            refine SeqK.r (g_store rfl rfl Fx.ty70 rfl rfl (by (repeat rw [upd_ne _ _ (by first | assumption | exact Ne.symm (by assumption))]); first | assumption | exact upd_same _ _ _) rfl rfl rfl) rfl ?_
            refine SeqK.nil ?_
            refine AW.seq ?_
            refine AW.reg ?_
            refine SeqK.q (q_asC rfl rfl) rfl rfl rfl ?_
            refine SeqK.nil ?_
            refine AW.ret ?_
            exact fin_x (x := .c _) (_) (.tmp rfl .nil) rfl (fun _ _ h => h) (⟨by rw [adE_ok hbk], by
              have := I.add (b := b) ht (upd_same _ _ _) (fun j hj => upd_ne _ _ hj) (I.ok.set rfl) (I.look b (all.map bdT).length) (by rw [List.length_map]; exact I.tight b (fun k hk => by rw [hr] at hk; cases hk)) hbk (Nat.le_trans mset_le (Nat.succ_le_succ I.esl)) hk74
              rw [show adL n all b = all ++ [b] from if_pos (adE_ok hbk)]
              exact this, I.tips ht (fun j hj => upd_ne _ _ hj) hk74⟩)
          ·
            obtain ⟨hk9, hq1, hq2, hq3⟩ : LeastOk all b.i b.j (some k9) := hr ▸ I.least b.i b.j
            refine AW.draw Fx.mo ?_
            refine LexK.q (q_mvC rfl rfl) rfl rfl rfl ?_
            refine LexK.q (q_nilH rfl rfl) rfl rfl rfl ?_
            refine LexK.q (q_fieldH _ rfl Fx.fl73_2 rfl rfl) rfl rfl rfl ?_
            refine LexK.r (g_load (r := .a _) rfl Fx.ty71 rfl (by (repeat rw [upd_ne _ _ (by first | assumption | exact Ne.symm (by assumption))]); first | assumption | exact upd_same _ _ _) rfl rfl rfl rfl) rfl ?_
            refine LexK.r (b_load (r := .g [_, _]) rfl Fx.ty80 rfl rfl rfl rfl rfl rfl) rfl ?_
            refine LexK.r (g_lookup (r := .tup [.a _, .a (.t (.v (.bool _)))]) Fx.kl80 rfl Fx.un71 Fx.ze3 rfl (by (repeat rw [upd_ne _ _ (by first | assumption | exact Ne.symm (by assumption))]); first | assumption | exact upd_same _ _ _) rfl rfl (by rw [I.get, hr]) rfl rfl rfl) rfl ?_
            refine LexK.q (q_mvT rfl rfl) rfl rfl rfl ?_
            refine LexK.q (q_extract _ rfl rfl rfl) rfl rfl rfl ?_
            refine LexK.q (q_extract _ rfl rfl rfl) rfl rfl rfl ?_
            refine LexK.q (q_asC rfl rfl) rfl rfl rfl ?_
            refine LexK.q (q_asC rfl rfl) rfl rfl rfl ?_
            refine LexK.nil (by kernel_rfl) ?_
            refine AW.seq ?_
            refine AW.reg ?_
            refine SeqK.q (q_mvC rfl rfl) rfl rfl rfl ?_
            refine SeqK.q (q_not rfl rfl) rfl rfl rfl ?_
            refine SeqK.q (q_mvC rfl rfl) rfl rfl rfl ?_
            refine SeqK.on (q_mvC rfl rfl) rfl rfl rfl rfl rfl ?_
            refine SeqK.on (q_mvC rfl rfl) rfl rfl rfl rfl rfl ?_
            refine SeqK.on (q_nilH rfl rfl) rfl rfl rfl rfl rfl ?_
            refine SeqK.on (q_fieldH _ rfl Fx.fl73_1 rfl rfl) rfl rfl rfl rfl rfl ?_
            refine SeqK.rOn (g_load (r := .a _) rfl Fx.ty70 rfl (by (repeat rw [upd_ne _ _ (by first | assumption | exact Ne.symm (by assumption))]); first | assumption | exact upd_same _ _ _) rfl rfl rfl rfl) rfl rfl rfl ?_
            refine SeqK.on (q_mvC rfl rfl) rfl rfl rfl rfl rfl ?_
            refine SeqK.on (q_indexTs _ rfl Fx.sl70 rfl rfl (by omega) (idx_map hk9)) rfl rfl rfl rfl rfl ?_
            refine SeqK.on (q_fieldP _ rfl Fx.fl78_2 rfl rfl) rfl rfl rfl rfl rfl ?_
            refine SeqK.on (q_load (.a _) rfl Fx.ty2 rfl rfl rfl) rfl rfl rfl rfl rfl ?_
            refine SeqK.on (q_lss rfl rfl rfl) rfl rfl rfl rfl rfl ?_
            refine SeqK.q (q_pkF rfl rfl rfl) rfl rfl rfl ?_
            refine SeqK.nil ?_
            refine AW.condD rfl (fun h53 => ?_) (fun h53 => ?_)
            ·
              refine AW.draw Fx.mo ?_
              refine LexK.q (q_mvC rfl rfl) rfl rfl rfl ?_
              refine LexK.q (q_nilH rfl rfl) rfl rfl rfl ?_
              refine LexK.q (q_fieldH _ rfl Fx.fl73_2 rfl rfl) rfl rfl rfl ?_
              refine LexK.r (g_load (r := .a _) rfl Fx.ty71 rfl (by (repeat rw [upd_ne _ _ (by first | assumption | exact Ne.symm (by assumption))]); first | assumption | exact upd_same _ _ _) rfl rfl rfl rfl) rfl ?_
              refine LexK.r (b_load (r := .g [_, _]) rfl Fx.ty80 rfl rfl rfl rfl rfl rfl) rfl ?_
              refine LexK.q (q_mvC rfl rfl) rfl rfl rfl ?_
              refine LexK.q (q_nilH rfl rfl) rfl rfl rfl ?_
              refine LexK.q (q_fieldH _ rfl Fx.fl73_1 rfl rfl) rfl rfl rfl ?_
              refine LexK.r (g_load (r := .a _) rfl Fx.ty70 rfl (by (repeat rw [upd_ne _ _ (by first | assumption | exact Ne.symm (by assumption))]); first | assumption | exact upd_same _ _ _) rfl rfl rfl rfl) rfl ?_
              refine LexK.q (q_lenTs rfl Fx.un70 rfl) rfl rfl rfl ?_
              refine LexK.r (g_mapUpdate Fx.kl80 rfl rfl Fx.un71 rfl (by (repeat rw [upd_ne _ _ (by first | assumption | exact Ne.symm (by assumption))]); first | assumption | exact upd_same _ _ _) rfl rfl rfl) rfl ?_
              refine LexK.nil (by kernel_rfl) ?_
              refine AW.seq ?_
              refine AW.reg ?_
              refine SeqK.q (q_mvC rfl rfl) rfl rfl rfl ?_
              refine SeqK.q (q_mvC rfl rfl) rfl rfl rfl ?_
              refine SeqK.q (q_nilH rfl rfl) rfl rfl rfl ?_
              refine SeqK.q (q_fieldH _ rfl Fx.fl73_1 rfl rfl) rfl rfl rfl ?_
              refine SeqK.r (g_load (r := .a _) rfl Fx.ty70 rfl (by (repeat rw [upd_ne _ _ (by first | assumption | exact Ne.symm (by assumption))]); first | assumption | exact upd_same _ _ _) rfl rfl rfl rfl) rfl ?_
              refine SeqK.q (q_mvC rfl rfl) rfl rfl rfl ?_
              refine SeqK.q (q_mvC rfl rfl) rfl rfl rfl ?_
              refine SeqK.q (q_mvC rfl rfl) rfl rfl rfl ?_
              refine SeqK.q (q_build2 (zs := [_, _, _]) (r := [_, _, _]) [(0, 1), (1, 1), (2, 1)] _ rfl Fx.ze78 rfl Fx.bp78 rfl rfl rfl rfl) rfl rfl rfl ?_
              refine SeqK.q (q_buildSlice _ rfl Fx.el70 rfl (by decide) rfl) rfl rfl rfl ?_
              refine SeqK.app rfl rfl Fx.el70 rfl (by rw [upd_ne _ _ n3]; exact ht9) rfl (by simp; omega) rfl rfl (fun k74 hk74 => ?_)
              have n6 : k ≠ k74 := fun e => by rw [← e] at hk74; first | (rw [upd_ne _ _ n2, hbox] at hk74; cases hk74) | (rw [hbox] at hk74; cases hk74)
              refine SeqK.q (q_nilH rfl rfl) rfl rfl rfl ?_
              refine SeqK.q (q_fieldH _ rfl Fx.fl73_1 rfl rfl) rfl rfl rfl ?_
              refine SeqK.r (g_store rfl rfl Fx.ty70 rfl rfl (by (repeat rw [upd_ne _ _ (by first | assumption | exact Ne.symm (by assumption))]); first | assumption | exact upd_same _ _ _) rfl rfl rfl) rfl ?_
              refine SeqK.nil ?_
              refine AW.seq ?_
              refine AW.reg ?_
              refine SeqK.q (q_asC rfl rfl) rfl rfl rfl ?_
              refine SeqK.nil ?_
              refine AW.ret ?_
              exact fin_x (x := .c _) (_) (.tmp rfl .nil) rfl (fun _ _ h => h) (⟨by rw [adE_ok hbk], by
                have := I.add (b := b) ht (upd_same _ _ _) (fun j hj => upd_ne _ _ hj) (I.ok.set rfl) (I.look b (all.map bdT).length) (by rw [List.length_map]; exact I.tight b (fun k hk => by rw [hr] at hk; injection hk with hk; subst hk; rw [bd_get hk9]; omega)) hbk (Nat.le_trans mset_le (Nat.succ_le_succ I.esl)) hk74
                rw [show adL n all b = all ++ [b] from if_pos (adE_ok hbk)]
                exact this, I.tips ht (fun j hj => upd_ne _ _ hj) hk74⟩)
            ·
              refine AW.skip ?_
              refine AW.seq ?_
              refine AW.reg ?_
              refine SeqK.q (q_mvC rfl rfl) rfl rfl rfl ?_
              refine SeqK.q (q_mvC rfl rfl) rfl rfl rfl ?_
              refine SeqK.q (q_nilH rfl rfl) rfl rfl rfl ?_
              refine SeqK.q (q_fieldH _ rfl Fx.fl73_1 rfl rfl) rfl rfl rfl ?_
              refine SeqK.r (g_load (r := .a _) rfl Fx.ty70 rfl (by (repeat rw [upd_ne _ _ (by first | assumption | exact Ne.symm (by assumption))]); first | assumption | exact upd_same _ _ _) rfl rfl rfl rfl) rfl ?_
              refine SeqK.q (q_mvC rfl rfl) rfl rfl rfl ?_
              refine SeqK.q (q_mvC rfl rfl) rfl rfl rfl ?_
              refine SeqK.q (q_mvC rfl rfl) rfl rfl rfl ?_
              refine SeqK.q (q_build2 (zs := [_, _, _]) (r := [_, _, _]) [(0, 1), (1, 1), (2, 1)] _ rfl Fx.ze78 rfl Fx.bp78 rfl rfl rfl rfl) rfl rfl rfl ?_
              refine SeqK.q (q_buildSlice _ rfl Fx.el70 rfl (by decide) rfl) rfl rfl rfl ?_
              refine SeqK.app rfl rfl Fx.el70 rfl (ht9) rfl (by simp; omega) rfl rfl (fun k74 hk74 => ?_)
              have n6 : k ≠ k74 := fun e => by rw [← e] at hk74; first | (rw [upd_ne _ _ n2, hbox] at hk74; cases hk74) | (rw [hbox] at hk74; cases hk74)
              refine SeqK.q (q_nilH rfl rfl) rfl rfl rfl ?_
              refine SeqK.q (q_fieldH _ rfl Fx.fl73_1 rfl rfl) rfl rfl rfl ?_
              refine SeqK.r (g_store rfl rfl Fx.ty70 rfl rfl (by (repeat rw [upd_ne _ _ (by first | assumption | exact Ne.symm (by assumption))]); first | assumption | exact upd_same _ _ _) rfl rfl rfl) rfl ?_
              refine SeqK.nil ?_
              refine AW.seq ?_
              refine AW.reg ?_
              refine SeqK.q (q_asC rfl rfl) rfl rfl rfl ?_
              refine SeqK.nil ?_
              refine AW.ret ?_
              exact fin_x (x := .c _) (_) (.tmp rfl .nil) rfl (fun _ _ h => h) (⟨by rw [adE_ok hbk], by
                have := I.add (b := b) ht hm1 (fun j hj => rfl) I.ok I.get (I.loose b hr (by rw [bd_get hk9]; omega)) hbk (by have := I.esl; omega) hk74
                rw [show adL n all b = all ++ [b] from if_pos (adE_ok hbk)]
                exact this, I.tips ht (fun j hj => rfl) hk74⟩)

end Go.Proofs.Ytkpacejikoengaa.W
