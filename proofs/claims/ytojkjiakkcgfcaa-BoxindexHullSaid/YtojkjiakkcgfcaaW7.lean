import Derived.Test.YtojkjiakkcgfcaaW6
import Derived.Test.YtojkjiakkcgfcaaSo
namespace Go.Proofs.Ytojkjiakkcgfcaa.W
open Go.RowKit E
set_option linter.unusedVariables false
structure CandOf (f : Int → Option Bx) (b : Bx) (cs : List Int) : Prop where
  asc : cs.Pairwise (· < ·)
  mem : ∀ i, i ∈ cs ↔ ∃ b', f i = some b' ∧ meet b' b = true
theorem meet_tab {b' b : Bx} (h : meet b' b = true) : b'.tb = b.tb ∧ b'.ss.length ≠ 0 := by
  simp only [meet, Bool.and_eq_true, decide_eq_true_eq, Bool.not_eq_true', decide_eq_false_iff_not] at h
  exact ⟨h.1.1.1, h.1.2⟩
theorem cand_sorted {f : Int → Option Bx} {b : Bx} {out : List Int} (hn : out.Nodup) (hm : ∀ i, i ∈ out ↔ ∃ b', f i = some b' ∧ meet b' b = true) : CandOf f b (out.mergeSort fun x y => decide (x ≤ y)) := by
  have hp := List.mergeSort_perm out (fun x y => decide (x ≤ y))
  refine ⟨?_, fun i => by rw [hp.mem_iff]; exact hm i⟩
  have h1 : (out.mergeSort fun x y => decide (x ≤ y)).Pairwise (fun x y => decide (x ≤ y) = true) := List.pairwise_mergeSort (fun a b c h1 h2 => by simp at *; omega) (fun a b => by simp; omega) out
  have h2 : (out.mergeSort fun x y => decide (x ≤ y)).Nodup := hp.nodup_iff.2 hn
  refine (h1.and h2).imp fun {x y} h => ?_
  have h3 : x ≤ y := by simpa using h.1
  have h4 : x ≠ y := h.2
  omega
theorem len_sub {α : Type} : ∀ (a b : List α), a.Nodup → (∀ x ∈ a, x ∈ b) → a.length ≤ b.length := by
  classical
  intro a
  induction a with
  | nil => intro b _ _; simp
  | cons x a ih =>
    intro b hn hm
    obtain ⟨h1, h2⟩ := List.nodup_cons.1 hn
    have hx := hm x (by simp)
    have := ih (b.erase x) h2 fun y hy => (List.mem_erase_of_ne (fun e => h1 (by rw [← e]; exact hy))).2 (hm y (by simp [hy]))
    rw [List.length_erase_of_mem hx] at this
    have hpos : 0 < b.length := List.length_pos_of_mem hx
    simp; omega
theorem nodup_len {l : List ME} {seen : List Nat} {kk : KK} {ck : Nat} (h : MOk kk l ck) (hn : seen.Nodup) (hs : ∀ s ∈ seen, ∃ m ∈ l, m.b = s) : seen.length ≤ l.length := by
  have := len_sub seen (l.map (·.b)) hn fun s hs' => by
    obtain ⟨m, h1, h2⟩ := hs s hs'
    exact List.mem_map.2 ⟨m, h1, h2⟩
  simpa using this
theorem IdxAt.out_len {H : Heap} {k k1 k2 : Nat} {es1 : List ME} {c1 : Nat} {es2 : List ME} {c2 : Nat} {g : Int → Option Nat} {f : Int → Option Bx} (h : IdxAt H k k1 k2 es1 c1 es2 c2 g f) {out : List Int} (hn : out.Nodup) (ho : ∀ i ∈ out, ∃ b, f i = some b) : out.length ≤ es1.length := by
  have := len_sub (out.map iv) (es1.map (·.k)) (by
    rw [List.nodup_iff_pairwise_ne, List.pairwise_map]
    exact (List.nodup_iff_pairwise_ne.1 hn).imp fun hne e => hne (by injection e)) fun x hx => by
    obtain ⟨i, hi, rfl⟩ := List.mem_map.1 hx
    obtain ⟨b, hb⟩ := ho i hi
    have h1 := h.get1 i
    rw [hb] at h1
    obtain ⟨m, h2, h3, _⟩ := mget_some (kk := KI) rfl h.ok1.key h1
    exact List.mem_map.2 ⟨m, h2, h3⟩
  simpa using this
section
variable {es3 : List ME} {c3 : Nat} {seen : List Nat} {out : List Int} {f : Int → Option Bx} {b b9 : Bx} {i9 : Int} {mx : C} {mb : Nat}
abbrev Out (es3 : List ME) (seen : List Nat) (f : Int → Option Bx) (b : Bx) (j : Int) : Prop := (∃ m ∈ es3, m.k = iv j ∧ m.b ∈ seen) ∧ ∃ b', f j = some b' ∧ meet b' b = true
theorem same_key (ok : MOk KI es3 c3) {m m' : ME} (h : m ∈ es3) (h' : m' ∈ es3) (e : m.k = m'.k) : m = m' := by
  obtain ⟨i, hi⟩ := List.getElem?_of_mem h
  obtain ⟨j, hj⟩ := List.getElem?_of_mem h'
  have hil := (List.getElem?_eq_some_iff.1 hi).1
  have hjl := (List.getElem?_eq_some_iff.1 hj).1
  have h1 : (es3.map (·.k))[i]? = some m.k := by rw [List.getElem?_map, hi]; rfl
  have h2 : (es3.map (·.k))[j]? = some m'.k := by rw [List.getElem?_map, hj]; rfl
  have : i = j := by
    refine (List.getElem_inj (xs := es3.map (·.k)) (h₀ := by simpa using hil) (h₁ := by simpa using hjl) ok.nodup).1 ?_
    have e1 := (List.getElem?_eq_some_iff.1 h1).2
    have e2 := (List.getElem?_eq_some_iff.1 h2).2
    rw [e1, e2, e]
  subst this
  rw [hi] at hj; injection hj
theorem same_born (ok : MOk KI es3 c3) {m m' : ME} (h : m ∈ es3) (h' : m' ∈ es3) (e : m.b = m'.b) : m = m' := by
  obtain ⟨i, hi⟩ := List.getElem?_of_mem h
  obtain ⟨j, hj⟩ := List.getElem?_of_mem h'
  have hil := (List.getElem?_eq_some_iff.1 hi).1
  have hjl := (List.getElem?_eq_some_iff.1 hj).1
  have h1 : (es3.map (·.b))[i]? = some m.b := by rw [List.getElem?_map, hi]; rfl
  have h2 : (es3.map (·.b))[j]? = some m'.b := by rw [List.getElem?_map, hj]; rfl
  have : i = j := by
    refine (List.getElem_inj (xs := es3.map (·.b)) (h₀ := by simpa using hil) (h₁ := by simpa using hjl) ok.inj).1 ?_
    have e1 := (List.getElem?_eq_some_iff.1 h1).2
    have e2 := (List.getElem?_eq_some_iff.1 h2).2
    rw [e1, e2, e]
  subst this
  rw [hi] at hj; injection hj
theorem out_snoc (ok : MOk KI es3 c3) (hon : out.Nodup) (hom : ∀ j, j ∈ out ↔ Out es3 seen f b j) (hm : (⟨iv i9, mx, mb⟩ : ME) ∈ es3) (hn : mb ∉ seen) : (out ++ [i9]).Nodup := by
  rw [List.nodup_append]
  refine ⟨hon, by simp, fun a ha c hc e => ?_⟩
  simp at hc; subst hc e
  obtain ⟨⟨m, h1, h2, h3⟩, _⟩ := (hom a).1 ha
  have := same_key ok h1 hm h2
  subst this
  exact hn h3
theorem out_yes (ok : MOk KI es3 c3) (hom : ∀ j, j ∈ out ↔ Out es3 seen f b j) (hm : (⟨iv i9, mx, mb⟩ : ME) ∈ es3) (hf : f i9 = some b9) (hme : meet b9 b = true) (j : Int) : j ∈ out ++ [i9] ↔ Out es3 (seen ++ [mb]) f b j := by
  constructor
  · intro h
    rcases List.mem_append.1 h with h | h
    · obtain ⟨⟨m, h1, h2, h3⟩, h4⟩ := (hom j).1 h
      exact ⟨⟨m, h1, h2, by simp [h3]⟩, h4⟩
    · simp at h; subst h; exact ⟨⟨_, hm, rfl, by simp⟩, b9, hf, hme⟩
  · rintro ⟨⟨m, h1, h2, h3⟩, h4⟩
    rcases List.mem_append.1 h3 with h3 | h3
    · exact List.mem_append_left _ ((hom j).2 ⟨⟨m, h1, h2, h3⟩, h4⟩)
    · simp at h3
      have := same_born ok h1 hm h3
      subst this
      injection h2 with _ h2
      simp [h2]
theorem out_no (ok : MOk KI es3 c3) (hom : ∀ j, j ∈ out ↔ Out es3 seen f b j) (hm : (⟨iv i9, mx, mb⟩ : ME) ∈ es3) (hf : f i9 = some b9) (hme : meet b9 b = false) (j : Int) : j ∈ out ↔ Out es3 (seen ++ [mb]) f b j := by
  constructor
  · intro h
    obtain ⟨⟨m, h1, h2, h3⟩, h4⟩ := (hom j).1 h
    exact ⟨⟨m, h1, h2, by simp [h3]⟩, h4⟩
  · rintro ⟨⟨m, h1, h2, h3⟩, b', h4, h5⟩
    rcases List.mem_append.1 h3 with h3 | h3
    · exact (hom j).2 ⟨⟨m, h1, h2, h3⟩, b', h4, h5⟩
    · simp at h3
      have := same_born ok h1 hm h3
      subst this
      injection h2 with _ h2
      rw [← h2, hf] at h4; injection h4 with h4; subst h4
      rw [hme] at h5; cases h5
theorem out_all {H : Heap} {k k1 k2 : Nat} {es1 : List ME} {c1 : Nat} {es2 : List ME} {c2 : Nat} {g : Int → Option Nat} (I : IdxAt H k k1 k2 es1 c1 es2 c2 g f) (get3 : ∀ i, mget (iv i) es3 = if inTab f b.tb i = true then some yes else none) (ok : MOk KI es3 c3) (hd : ∀ m ∈ es3, m.b ∈ seen) {j : Int} (h : j ∈ out ↔ Out es3 seen f b j) : j ∈ out ↔ ∃ b', f j = some b' ∧ meet b' b = true := by
  rw [h]
  refine ⟨fun h => h.2, fun ⟨b', h1, h2⟩ => ⟨?_, b', h1, h2⟩⟩
  obtain ⟨h3, h4⟩ := meet_tab h2
  have h5 : inTab f b.tb j = true := by unfold inTab; rw [h1]; simp [h3, h4]
  have h6 := get3 j
  rw [if_pos h5] at h6
  obtain ⟨m, h7, h8, _⟩ := mget_some (kk := KI) rfl ok.key h6
  exact ⟨m, h7, h8, hd m h7⟩
end

set_option maxRecDepth 20000 in
theorem cand_any (H : Heap) (k N : Nat) (f : Int → Option Bx) (b : Bx) (z : Nz) (I : Idx H k f N) (hN9 : N ≤ 1000000) (hs : b.ss.length ≤ 1000000) : E.Spec Try.prog 14 [.a (.bp k 0), bxC z b] H fun x H' => ∃ kr cs, H kr = none ∧ CandOf f b cs ∧ x = .c (.a (.os kr 0 cs.length 1)) ∧ H' = upd H kr (some (.row 2 1 (cs.map i64A))) := by
  obtain ⟨k1, k2, es1, c1, es2, c2, g, I, hN⟩ := I
  have hbox := I.box
  have hm1 := I.m1
  have hm2 := I.m2
  obtain ⟨nk1, nk2⟩ := I.k1
  have n12 := I.n12
  refine Spec.enter Try.func14 rfl ?_
  refine AW.wk (Wk.keep 34 [(0, .c (.a (.bp k 0))), (1, .c (bxC z b))] [] (H) rfl ⟨rfl, rfl, trivial⟩ trivial (fun _ _ h => h) rfl) ?_
  refine AW.seq ?_
  refine AW.reg ?_
  refine SeqK.r (b_box (r := [_, _]) rfl rfl rfl rfl rfl rfl) rfl ?_
  refine SeqK.q (q_asC rfl rfl) rfl rfl rfl ?_
  refine SeqK.nil ?_
  refine AW.seq ?_
  refine AW.reg ?_
  refine SeqK.q (q_asC rfl rfl) rfl rfl rfl ?_
  refine SeqK.nil ?_
  refine AW.seq ?_
  refine AW.seq ?_
  rcases hg : g b.tb with _ | k3
  ·
    refine AW.draw Fx.mo ?_
    refine LexK.q (q_mvC rfl rfl) rfl rfl rfl ?_
    refine LexK.q (q_nilH rfl rfl) rfl rfl rfl ?_
    refine LexK.q (q_fieldH _ rfl Fx.fl63_1 rfl rfl) rfl rfl rfl ?_
    refine LexK.r (g_load (r := .a _) rfl Fx.ty61 rfl (by (repeat rw [upd_ne _ _ (by first | assumption | exact Ne.symm (by assumption))]); first | assumption | exact upd_same _ _ _) rfl rfl rfl rfl) rfl ?_
    refine LexK.q (q_fieldL _ rfl Fx.fl40_0 rfl rfl) rfl rfl rfl ?_
    refine LexK.r (b_load (r := .a _) rfl Fx.ty3 rfl rfl rfl rfl rfl rfl) rfl ?_
    refine LexK.r (g_lookup (r := .c (.a _)) (.int Fx.un3) rfl Fx.un61 Fx.ze64 rfl (by (repeat rw [upd_ne _ _ (by first | assumption | exact Ne.symm (by assumption))]); first | assumption | exact upd_same _ _ _) rfl rfl (by rw [I.get2, hg]) rfl rfl rfl) rfl ?_
    refine LexK.r (b_range0 rfl rfl Fx.un64 rfl rfl rfl) rfl ?_
    refine LexK.nil (by kernel_rfl) ?_
    refine AW.block ?_
    refine AW.row 5 2 1 rfl (fun k0 hk0 => ?_)
    refine AW.loop (fun (i : Nat) s => (True) ∧ s = ⟨34, sp [(3, .lp 3 0), (5, .c (.a (.os k0 0 0 1))), (14, .lp 14 0)], lv [(3, .box [.t (.v (.int .i64 b.tb)), .t (.sl z 6 (b.ss.map sdT))]), (14, .iter0)], upd H k0 (some (.row 2 1 []))⟩) (fun i => 0) 0 ⟨_, Wk.keep 34 [(3, .lp 3 0), (5, .c (.a (.os k0 0 0 1))), (14, .lp 14 0)] [(3, .box [.t (.v (.int .i64 b.tb)), .t (.sl z 6 (b.ss.map sdT))]), (14, .iter0)] (upd H k0 (some (.row 2 1 []))) rfl ⟨rfl, rfl, rfl, trivial⟩ ⟨rfl, rfl, trivial⟩ (fun _ _ h => h) rfl, trivial, rfl⟩ (fun i s hs => ?_)
    obtain ⟨hs9, rfl⟩ := hs
    refine AW.seq ?_
    refine AW.reg ?_
    refine SeqK.r (g_next0 rfl rfl rfl rfl rfl) rfl ?_
    refine SeqK.q (q_extract _ rfl rfl rfl) rfl rfl rfl ?_
    refine SeqK.nil ?_
    refine AW.seq ?_
    refine AW.condF rfl ?_
    refine AW.exit ?_
    refine eth_e ?_
    refine eth_e ?_
    refine exit_here ?_
    refine AW.seq ?_
    refine AW.reg ?_
    refine SeqK.q (q_mvC rfl rfl) rfl rfl rfl ?_
    refine SeqK.callE rfl rfl rfl rfl Fx.fn26 rfl (sort_any _ k0 [] (upd_same _ _ _) (by decide)) (fun _ _ h => by rw [h.1]; rfl) (fun x32 H32 q32 => ?_)
    obtain ⟨rfl, rfl⟩ := q32
    refine SeqK.nil ?_
    refine AW.seq ?_
    refine AW.reg ?_
    refine SeqK.q (q_mvC rfl rfl) rfl rfl rfl ?_
    refine SeqK.q (q_asC rfl rfl) rfl rfl rfl ?_
    refine SeqK.nil ?_
    refine AW.ret ?_
    exact fin_x (x := .c _) (_) (.tmp rfl .nil) rfl (fun _ _ h => h) (⟨k0, [], hk0, ⟨.nil, fun i => ⟨fun h => by simp at h, fun ⟨b9, h1, h2⟩ => by
      obtain ⟨h3, h4⟩ := meet_tab h2
      have := I.no b.tb hg i
      unfold inTab at this; rw [h1] at this; simp [h3, h4] at this⟩⟩, rfl, by
      show upd (upd H k0 _) k0 (some (AO.row 2 1 (List.map i64A ([].mergeSort fun x y => decide (x ≤ y))))) = _
      rw [upd_upd]; simp⟩)
  ·
    obtain ⟨es3, c3, h3, ok3, get3⟩ := I.tab b.tb k3 hg
    obtain ⟨n31, n32, n3k⟩ := I.gne b.tb k3 hg
    refine AW.draw Fx.mo ?_
    refine LexK.q (q_mvC rfl rfl) rfl rfl rfl ?_
    refine LexK.q (q_nilH rfl rfl) rfl rfl rfl ?_
    refine LexK.q (q_fieldH _ rfl Fx.fl63_1 rfl rfl) rfl rfl rfl ?_
    refine LexK.r (g_load (r := .a _) rfl Fx.ty61 rfl (by (repeat rw [upd_ne _ _ (by first | assumption | exact Ne.symm (by assumption))]); first | assumption | exact upd_same _ _ _) rfl rfl rfl rfl) rfl ?_
    refine LexK.q (q_fieldL _ rfl Fx.fl40_0 rfl rfl) rfl rfl rfl ?_
    refine LexK.r (b_load (r := .a _) rfl Fx.ty3 rfl rfl rfl rfl rfl rfl) rfl ?_
    refine LexK.r (g_lookup (r := .c (.a _)) (.int Fx.un3) rfl Fx.un61 Fx.ze64 rfl (by (repeat rw [upd_ne _ _ (by first | assumption | exact Ne.symm (by assumption))]); first | assumption | exact upd_same _ _ _) rfl rfl (by rw [I.get2, hg]) rfl rfl rfl) rfl ?_
    refine LexK.r (b_range rfl rfl Fx.un64 rfl (by (repeat rw [upd_ne _ _ (by first | assumption | exact Ne.symm (by assumption))]); first | assumption | exact upd_same _ _ _) rfl rfl) rfl ?_
    refine LexK.nil (by kernel_rfl) ?_
    refine AW.block ?_
    refine AW.row 5 2 1 rfl (fun k0 hk0 => ?_)
    refine AW.loop (fun (i : Nat) s => ∃ (kr : Nat) (seen : List Nat) (out : List Int) (n : Nat), (n = out.length ∧ H kr = none ∧ seen.Nodup ∧ (∀ s ∈ seen, ∃ m ∈ es3, m.b = s) ∧ seen.length = i ∧ out.length ≤ i ∧ out.Nodup ∧ ∀ j, j ∈ out ↔ (∃ m ∈ es3, m.k = iv j ∧ m.b ∈ seen) ∧ ∃ b', f j = some b' ∧ meet b' b = true) ∧ s = ⟨34, sp [(0, .c (.a (.bp k 0))), (3, .lp 3 0), (5, .c (.a (.os kr 0 n 1))), (14, .lp 14 0)], lv [(3, .box [.t (.v (.int .i64 b.tb)), .t (.sl z 6 (b.ss.map sdT))]), (14, .iter k3 c3 seen c3)], upd H kr (some (.row 2 1 (out.map i64A)))⟩) (fun i => es3.length + 1 - i) 0 ⟨_, Wk.keep 34 [(0, .c (.a (.bp k 0))), (3, .lp 3 0), (5, .c (.a (.os (k0) 0 (0) 1))), (14, .lp 14 0)] [(3, .box [.t (.v (.int .i64 b.tb)), .t (.sl z 6 (b.ss.map sdT))]), (14, .iter k3 c3 ([]) c3)] (upd H (k0) (some (.row 2 1 (([]).map i64A)))) rfl ⟨rfl, rfl, rfl, rfl, trivial⟩ ⟨rfl, rfl, trivial⟩ (fun _ _ h => h) rfl, k0, [], [], 0, ⟨rfl, hk0, by simp, by simp, rfl, Nat.le_refl _, by simp, fun j => by simp⟩, rfl⟩ (fun i s hs => ?_)
    obtain ⟨kr, seen, out, n, ⟨hnl, hkr, hsn, hss, hsl, hol, hon, hom⟩, rfl⟩ := hs
    obtain ⟨nkr, nk1r, nk2r, nk3r⟩ : k ≠ kr ∧ k1 ≠ kr ∧ k2 ≠ kr ∧ k3 ≠ kr := ⟨fun e => (by rw [← e, hbox] at hkr; cases hkr), fun e => (by rw [← e, hm1] at hkr; cases hkr), fun e => (by rw [← e, hm2] at hkr; cases hkr), fun e => (by rw [← e, h3] at hkr; cases hkr)⟩
    have hseen := nodup_len ok3 hsn hss
    have hol9 := I.out_len hon fun j hj => (by obtain ⟨_, b9, h9, _⟩ := (hom j).1 hj; exact ⟨b9, h9⟩)
    refine AW.seq ?_
    refine AW.reg ?_
    refine SeqK.next rfl rfl rfl rfl rfl rfl (by (repeat rw [upd_ne _ _ (by first | assumption | exact Ne.symm (by assumption))]); first | assumption | exact upd_same _ _ _) (fun m hm => ok3.born m hm) (Nat.le_refl _) (fun hd15 => ?_) (fun m15 hm15 hn15 => ?_)
    ·
      refine SeqK.q (q_extract _ rfl rfl rfl) rfl rfl rfl ?_
      refine SeqK.nil ?_
      refine AW.seq ?_
      refine AW.condF rfl ?_
      refine AW.exit ?_
      refine eth_e ?_
      refine eth_e ?_
      refine exit_here ?_
      refine AW.seq ?_
      refine AW.reg ?_
      refine SeqK.q (q_mvC rfl rfl) rfl rfl rfl ?_
      refine SeqK.callE rfl rfl rfl rfl Fx.fn26 rfl (hnl ▸ sort_any _ kr out (upd_same _ _ _) (by omega)) (fun _ _ h => by rw [h.1]; rfl) (fun x32 H32 q32 => ?_)
      obtain ⟨rfl, rfl⟩ := q32
      refine SeqK.nil ?_
      refine AW.seq ?_
      refine AW.reg ?_
      refine SeqK.q (q_mvC rfl rfl) rfl rfl rfl ?_
      refine SeqK.q (q_asC rfl rfl) rfl rfl rfl ?_
      refine SeqK.nil ?_
      refine AW.ret ?_
      exact fin_x (x := .c _) (_) (.tmp rfl .nil) rfl (fun _ _ h => h) (⟨kr, out.mergeSort fun x y => decide (x ≤ y), hkr, cand_sorted hon (fun j => out_all I get3 ok3 hd15 (hom j)), by rw [hnl, List.length_mergeSort], by
        show upd (upd H kr _) kr _ = _
        rw [upd_upd]⟩)
    ·
      obtain ⟨mk, mx, mb⟩ := m15
      obtain ⟨i9, rfl⟩ : ∃ i9, mk = iv i9 := by
        have := ok3.key _ hm15
        cases mk <;> simp [kok] at this
        subst this; exact ⟨_, rfl⟩
      obtain ⟨b9, hfi, hti, hne9⟩ : ∃ b9, f i9 = some b9 ∧ b9.tb = b.tb ∧ b9.ss.length ≠ 0 := by
        have h9 := mget_mem ok3 hm15
        rw [get3] at h9
        split at h9
        · rename_i h8
          unfold inTab at h8
          split at h8
          · rename_i b9 hb9; simp at h8; exact ⟨b9, hb9, h8.1, by simpa using h8.2⟩
          · cases h8
        · cases h9
      have hs9 := I.ss i9 b9 hfi
      refine SeqK.q (q_extract _ rfl rfl rfl) rfl rfl rfl ?_
      refine SeqK.nil ?_
      refine AW.seq ?_
      refine AW.condT rfl ?_
      refine AW.skip ?_
      refine AW.block ?_
      refine AW.seq ?_
      refine AW.reg ?_
      refine SeqK.r (b_entry rfl rfl rfl (by (repeat rw [upd_ne _ _ (by first | assumption | exact Ne.symm (by assumption))]); first | assumption | exact upd_same _ _ _) (by assumption) rfl rfl) rfl ?_
      refine SeqK.q (q_extract _ rfl rfl rfl) rfl rfl rfl ?_
      refine SeqK.q (q_asC rfl rfl) rfl rfl rfl ?_
      refine SeqK.nil ?_
      refine AW.seq ?_
      refine AW.draw Fx.mo ?_
      refine LexK.q (q_mvC rfl rfl) rfl rfl rfl ?_
      refine LexK.q (q_nilH rfl rfl) rfl rfl rfl ?_
      refine LexK.q (q_fieldH _ rfl Fx.fl63_0 rfl rfl) rfl rfl rfl ?_
      refine LexK.r (g_load (r := .a _) rfl Fx.ty60 rfl (by (repeat rw [upd_ne _ _ (by first | assumption | exact Ne.symm (by assumption))]); first | assumption | exact upd_same _ _ _) rfl rfl rfl rfl) rfl ?_
      refine LexK.q (q_mvC rfl rfl) rfl rfl rfl ?_
      refine LexK.r (g_lookup (r := .c (.g [_, _])) (.int Fx.un2) rfl Fx.un60 Fx.ze40 rfl (by (repeat rw [upd_ne _ _ (by first | assumption | exact Ne.symm (by assumption))]); first | assumption | exact upd_same _ _ _) rfl rfl (by rw [I.get1, hfi]) rfl rfl rfl) rfl ?_
      refine LexK.r (b_load (r := .g [_, _]) rfl Fx.ty40 rfl rfl rfl rfl rfl rfl) rfl ?_
      refine LexK.q (q_call _ rfl Fx.fn25 rfl (meet_any b9 b _ _ hs9 hs) rfl) rfl rfl rfl ?_
      refine LexK.nil (by kernel_rfl) ?_
      refine AW.cond _ rfl (fun h26 => ?_) (fun h26 => ?_)
      ·
        refine AW.reg ?_
        refine SeqK.q (q_mvC rfl rfl) rfl rfl rfl ?_
        refine SeqK.q (q_mvC rfl rfl) rfl rfl rfl ?_
        refine SeqK.q (q_buildSlice _ rfl Fx.el36 rfl (by decide) rfl) rfl rfl rfl ?_
        refine SeqK.appR1 rfl (by assumption) rfl Fx.el36 rfl (by simp [hnl]) rfl (by simp; omega) rfl rfl (fun k30 hk30 => ?_)
        refine SeqK.q (q_asC rfl rfl) rfl rfl rfl ?_
        refine SeqK.nil ?_
        exact ⟨i + 1, _, Wk.keep 34 [(0, .c (.a (.bp k 0))), (3, .lp 3 0), (5, .c (.a (.os (k30) 0 (n + 1) 1))), (14, .lp 14 0)] [(3, .box [.t (.v (.int .i64 b.tb)), .t (.sl z 6 (b.ss.map sdT))]), (14, .iter k3 c3 (seen ++ [mb]) c3)] (upd H (k30) (some (.row 2 1 ((out ++ [i9]).map i64A)))) rfl ⟨rfl, rfl, rfl, rfl, trivial⟩ ⟨rfl, rfl, trivial⟩ (fun j o h => by rw [List.map_append] at h; exact h) rfl, by omega, k30, seen ++ [mb], out ++ [i9], n + 1, ⟨by simp [hnl], hk30, by rw [List.nodup_append]; exact ⟨hsn, by simp, fun a ha c hc e => by simp at hc; subst hc e; exact hn15 ha⟩, fun s hs' => (List.mem_append.1 hs').elim (hss s) (fun h => by simp at h; exact ⟨_, hm15, h.symm⟩), by simp; omega, by simp; omega, out_snoc ok3 hon hom hm15 hn15, out_yes ok3 hom hm15 hfi h26⟩, rfl⟩
      ·
        refine AW.skip ?_
        exact ⟨i + 1, _, Wk.keep 34 [(0, .c (.a (.bp k 0))), (3, .lp 3 0), (5, .c (.a (.os (kr) 0 (n) 1))), (14, .lp 14 0)] [(3, .box [.t (.v (.int .i64 b.tb)), .t (.sl z 6 (b.ss.map sdT))]), (14, .iter k3 c3 (seen ++ [mb]) c3)] (upd H (kr) (some (.row 2 1 ((out).map i64A)))) rfl ⟨rfl, rfl, rfl, rfl, trivial⟩ ⟨rfl, rfl, trivial⟩ (fun _ _ h => h) rfl, by omega, kr, seen ++ [mb], out, n, ⟨hnl, hkr, by rw [List.nodup_append]; exact ⟨hsn, by simp, fun a ha c hc e => by simp at hc; subst hc e; exact hn15 ha⟩, fun s hs' => (List.mem_append.1 hs').elim (hss s) (fun h => by simp at h; exact ⟨_, hm15, h.symm⟩), by simp; omega, by omega, hon, out_no ok3 hom hm15 hfi h26⟩, rfl⟩

end Go.Proofs.Ytojkjiakkcgfcaa.W
