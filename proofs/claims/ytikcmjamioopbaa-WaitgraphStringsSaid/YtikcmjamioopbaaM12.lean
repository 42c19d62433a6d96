/- Parts of the proof, one after the other: W11, W12, B3, W13, W14, W15, W16, W17, R1, W18, W19. No condition. -/
import Derived.Test.YtikcmjamioopbaaM11
namespace Go.Proofs.Ytikcmjamioopbaa.W
open Go.RowKit E M
set_option linter.unusedVariables false
set_option linter.unusedSimpArgs false
set_option linter.unusedSectionVars false
section
variable {α : Type} [DecidableEq α]
/-- a map that is used as a set -/
structure SetAt (nd : Nd α) (es : List ME) (ck : Nat) (X : List α) : Prop where
  ok : MOk nd.kk es ck
  get : ∀ x, mget (nd.nv x) es = if x ∈ X then some yes else none
theorem SetAt.set {nd : Nd α} {es : List ME} {ck : Nat} {X : List α} (h : SetAt nd es ck X) (x : α) : SetAt nd (mset (nd.nv x) yes ck es) (mclock (nd.nv x) es ck) (x :: X) :=
  ⟨h.ok.set (nd.kok x), fun y => by
    rw [mget_mset (nd.kok y) (nd.kok x) h.ok.key, nd.keq, h.get]
    by_cases e : y = x <;> simp [e]⟩
theorem SetAt.keys {nd : Nd α} {es : List ME} {ck : Nat} {X : List α} (h : SetAt nd es ck X) (x : α) : (∃ m ∈ es, m.k = nd.nv x) ↔ x ∈ X := by
  constructor
  · rintro ⟨m, hm, e⟩
    have := mget_mem h.ok hm
    rw [e, h.get] at this
    split at this
    · assumption
    · cases this
  · intro hb
    have := h.get x
    rw [if_pos hb] at this
    obtain ⟨m, h1, h2, _⟩ := mget_some (nd.kok x) h.ok.key this
    exact ⟨m, h1, h2⟩
structure NdO (nd : Nd α) (L : List (α × α)) (es : List ME) (seen : List Nat) (X : List α) : Prop where
  sub : ∀ x ∈ X, ∃ e ∈ L, e.1 = x ∨ e.2 = x
  all : ∀ m ∈ es, m.b ∈ seen → ∀ a, m.k = nd.nv a → a ∈ X ∧ ∀ b, (a, b) ∈ L → b ∈ X
end

set_option maxRecDepth 20000 in
theorem nodesRI (H : Heap) (k : Nat) (L : List (Int × Int)) (km : Nat) (es : List ME) (ck : Nat) (g : Int → Option Nat) (G : GrAt ndI H k km es ck g L) (hL : L.length ≤ 400000) : E.Spec Try.prog 17 [.a (.bp k 0)] H fun x H' => ∃ k', H k' = none ∧ x = .c (.a (.os k' 0 (nodes ltI L).length 1)) ∧ H' = upd H k' (some (.row 3 1 ((nodes ltI L).map (fun n : Int => (.t (.v (.int .i64 n)) : A))))) := by
  have hbox := G.box
  have hmap := G.map
  have hkm := G.kne
  refine Spec.enter Try.func17 rfl ?_
  refine AW.wk (Wk.keep 31 [(0, .c (.a (.bp k 0)))] [] (H) rfl ⟨rfl, trivial⟩ trivial (fun _ _ h => h) rfl) ?_
  refine AW.seq ?_
  refine AW.reg ?_
  refine SeqK.q (q_asC rfl rfl) rfl rfl rfl ?_
  refine SeqK.nil ?_
  refine AW.seq ?_
  refine AW.reg ?_
  refine SeqK.newMap (.int .i64) rfl rfl rfl rfl (fun k7 hk7 => ?_)
  refine SeqK.q (q_asC rfl rfl) rfl rfl rfl ?_
  refine SeqK.nil ?_
  refine AW.seq ?_
  refine AW.seq ?_
  have n7 : km ≠ k7 := fun e => by rw [← e, hmap] at hk7; cases hk7
  have n7b : k ≠ k7 := fun e => by rw [← e, hbox] at hk7; cases hk7
  refine AW.reg ?_
  refine SeqK.q (q_mvC rfl rfl) rfl rfl rfl ?_
  refine SeqK.q (q_nilH rfl rfl) rfl rfl rfl ?_
  refine SeqK.q (q_fieldH _ rfl Fx.fl74_0 rfl rfl) rfl rfl rfl ?_
  refine SeqK.r (g_load (r := .a _) rfl Fx.ty72 rfl (by (repeat rw [upd_ne _ _ (by first | assumption | exact Ne.symm (by assumption))]); first | assumption | exact upd_same _ _ _) rfl rfl rfl rfl) rfl ?_
  refine SeqK.r (b_range rfl rfl Fx.un72 rfl (by (repeat rw [upd_ne _ _ (by first | assumption | exact Ne.symm (by assumption))]); first | assumption | exact upd_same _ _ _) rfl rfl) rfl ?_
  refine SeqK.nil ?_
  refine AW.block ?_
  refine AW.loop (fun (c : Nat) s => ∃ (em : List ME) (cm : Nat) (X : List Int) (seen : List Nat), (SetAt ndI em cm X ∧ NdO ndI L es seen X ∧ c = (es.filter fun m => !seen.contains m.b).length) ∧ s = ⟨31, sp [(0, .c (.a (.bp k 0))), (3, .c (.a (.mp k7))), (12, .lp 12 0)], lv [(12, .iter km ck seen ck)], upd H k7 (some (.map ndI.kk em cm))⟩) (fun c => c) _ ⟨_, Wk.keep 31 [(0, .c (.a (.bp k 0))), (3, .c (.a (.mp k7))), (12, .lp 12 0)] [(12, .iter km ck ([]) ck)] (upd H k7 (some (.map ndI.kk ([]) (0)))) rfl ⟨rfl, rfl, rfl, trivial⟩ ⟨rfl, trivial⟩ (fun _ _ h => h) rfl, [], 0, [], [], ⟨⟨.nil, fun x => by simp; rfl⟩, ⟨fun x h => by simp at h, fun _ _ h => by simp at h⟩, rfl⟩, rfl⟩ (fun c s hs => ?_)
  obtain ⟨em, cm, X, seen, ⟨hM, hO, hc⟩, rfl⟩ := hs
  refine AW.seq ?_
  refine AW.reg ?_
  refine SeqK.next rfl rfl rfl rfl rfl rfl (by (repeat rw [upd_ne _ _ (by first | assumption | exact Ne.symm (by assumption))]); first | assumption | exact upd_same _ _ _) (fun m hm => G.ok.born m hm) (Nat.le_refl _) (fun hd13 => ?_) (fun m13 hm13 hn13 => ?_)
  ·
    have hX : ∀ x, x ∈ X ↔ x ∈ nodes ltI L := fun x => by
      rw [mem_nodes]
      refine ⟨hO.sub x, ?_⟩
      rintro ⟨⟨u, v⟩, he, h⟩
      obtain ⟨m, h1, h2⟩ := (G.outer u).2 ⟨v, he⟩
      obtain ⟨h4, h5⟩ := hO.all m h1 (hd13 m h1) u h2
      rcases h with h | h
      · have h : u = x := h
        subst h; exact h4
      · have h : v = x := h
        subst h; exact h5 v he
    refine SeqK.q (q_extract _ rfl rfl rfl) rfl rfl rfl ?_
    refine SeqK.nil ?_
    refine AW.seq ?_
    refine AW.condF rfl ?_
    refine AW.exit ?_
    refine eth_e ?_
    refine eth_e ?_
    refine exit_here ?_
    refine AW.seq ?_
    refine AW.reg ?_
    refine SeqK.q (q_mvC rfl rfl) rfl rfl rfl ?_
    refine SeqK.callE rfl rfl rfl rfl Fx.fn39 rfl (keysFI _ k7) (fun _ _ ⟨_, _, h, _⟩ => by rw [h]; rfl) (fun x29 H29 q29 => ?_)
    obtain ⟨kb, hkb, rfl, hH⟩ := q29
    subst hH
    obtain ⟨nb7, hkb0⟩ := upd_lt hkb
    refine SeqK.callE rfl rfl rfl rfl Fx.fn38 rfl (sortedI _ 49 [.bp kb 0] (KeysX ndI em) (fun H => H kb = some (.box [.mp k7]) ∧ H k7 = some (.map ndI.kk em cm)) Fx.fn49 (keys1I kb k7 em cm hM.ok) (fun H H' hs h => ⟨hs _ _ h.1, hs _ _ h.2⟩) ⟨upd_same _ _ _, by rw [upd_ne _ _ nb7.symm]; exact upd_same _ _ _⟩ (fun xs hx => by
        have h1 := len_sub xs (nodes ltI L) hx.1 fun x h => (hX x).1 ((hM.keys x).1 ((hx.2 x).1 h))
        have h2 := nodes_len (lt := ltI) (L := L)
        omega)) (fun _ _ ⟨_, _, _, _, _, _, h, _⟩ => by rw [h]; rfl) (fun x30 H30 q30 => ?_)
    obtain ⟨xs, ys, k2, hXs, hs, hk2, rfl, hH⟩ := q30
    subst hH
    refine SeqK.q (q_asC rfl rfl) rfl rfl rfl ?_
    refine SeqK.nil ?_
    refine AW.ret ?_
    have hys : ys = nodes ltI L := asc_ext ordI (hs.asc ordI hXs.1) (nodes_asc ordI) fun i => by rw [hs.1.mem_iff, hXs.2, hM.keys, hX]
    subst hys
    exact fin_x (x := .c _) (upd H k2 (some (.row 3 1 ((nodes ltI L).map (fun n : Int => (.t (.v (.int .i64 n)) : A)))))) (.tmp rfl .nil) rfl (fun j o h => upd_mid hkb j o (upd_mid hk7 j o h)) (⟨k2, (upd_lt (upd_lt hk2).2).2, rfl, rfl⟩)
  ·
    obtain ⟨mk, mx, mb⟩ := m13
    obtain ⟨a9, rfl⟩ := ndI.sur mk (G.ok.key _ hm13)
    obtain ⟨ki, hg, rfl⟩ : ∃ ki, g a9 = some ki ∧ mx = .a (.mp ki) := by
      have h9 := mget_mem G.ok hm13
      rw [G.get] at h9
      cases h8 : g a9 with
      | none => rw [h8] at h9; cases h9
      | some ki => rw [h8] at h9; injection h9 with h9; exact ⟨ki, rfl, h9.symm⟩
    obtain ⟨es3, c3, h3, ok3, hget⟩ := G.inn a9 ki hg
    have n73 : ki ≠ k7 := fun e => by rw [← e, h3] at hk7; cases hk7
    have ha9 : ∃ e ∈ L, e.1 = a9 ∨ e.2 = a9 := by
      obtain ⟨b, hb⟩ := G.ne a9 ki hg
      exact ⟨_, hb, .inl rfl⟩
    refine SeqK.q (q_extract _ rfl rfl rfl) rfl rfl rfl ?_
    refine SeqK.nil ?_
    refine AW.seq ?_
    refine AW.condT rfl ?_
    refine AW.skip ?_
    refine AW.block ?_
    refine AW.seq ?_
    refine AW.reg ?_
    refine SeqK.r (b_entry rfl rfl rfl (by (repeat rw [upd_ne _ _ (by first | assumption | exact Ne.symm (by assumption))]); first | assumption | exact upd_same _ _ _) (by assumption) rfl rfl) rfl ?_
    refine SeqK.q (q_extract _ rfl rfl rfl) rfl rfl rfl ?_
    refine SeqK.q (q_extract _ rfl rfl rfl) rfl rfl rfl ?_
    refine SeqK.q (q_asC rfl rfl) rfl rfl rfl ?_
    refine SeqK.q (q_asC rfl rfl) rfl rfl rfl ?_
    refine SeqK.nil ?_
    refine AW.seq ?_
    refine AW.reg ?_
    refine SeqK.q (q_mvC rfl rfl) rfl rfl rfl ?_
    refine SeqK.q (q_mvC rfl rfl) rfl rfl rfl ?_
    refine SeqK.r (g_mapUpdate (.int Fx.un3) rfl rfl Fx.un48 rfl (by (repeat rw [upd_ne _ _ (by first | assumption | exact Ne.symm (by assumption))]); first | assumption | exact upd_same _ _ _) rfl rfl rfl) rfl ?_
    refine SeqK.nil ?_
    refine AW.seq ?_
    refine AW.reg ?_
    refine SeqK.q (q_mvC rfl rfl) rfl rfl rfl ?_
    refine SeqK.r (b_range rfl rfl Fx.un48 rfl (by (repeat rw [upd_ne _ _ (by first | assumption | exact Ne.symm (by assumption))]); first | assumption | exact upd_same _ _ _) rfl rfl) rfl ?_
    refine SeqK.nil ?_
    refine AW.block ?_
    refine AW.loop (fun (c2 : Nat) s => ∃ (em2 : List ME) (cm2 : Nat) (X2 : List Int) (seen2 : List Nat), (SetAt ndI em2 cm2 X2 ∧ NdO ndI L es seen X2 ∧ a9 ∈ X2 ∧ (∀ m ∈ es3, m.b ∈ seen2 → ∀ b, m.k = ndI.nv b → b ∈ X2) ∧ c2 = (es3.filter fun m => !seen2.contains m.b).length) ∧ s = ⟨31, sp [(0, .c (.a (.bp k 0))), (3, .c (.a (.mp k7))), (12, .lp 12 0), (21, .lp 21 0)], lv [(12, .iter km ck (seen ++ [mb]) ck), (21, .iter ki c3 seen2 c3)], upd H k7 (some (.map ndI.kk em2 cm2))⟩) (fun c2 => c2) _ ⟨_, Wk.keep 31 [(0, .c (.a (.bp k 0))), (3, .c (.a (.mp k7))), (12, .lp 12 0), (21, .lp 21 0)] [(12, .iter km ck (seen ++ [mb]) ck), (21, .iter ki c3 ([]) c3)] (upd H k7 (some (.map ndI.kk ((mset (ndI.nv a9) yes cm em)) ((mclock (ndI.nv a9) em cm))))) rfl ⟨rfl, rfl, rfl, rfl, trivial⟩ ⟨rfl, rfl, trivial⟩ (fun j o h => by show upd (upd H k7 _) k7 _ j = _; rw [upd_upd]; exact h) rfl, (mset (ndI.nv a9) yes cm em), (mclock (ndI.nv a9) em cm), (a9 :: X), [], ⟨hM.set a9, ⟨fun x h => (List.mem_cons.1 h).elim (fun e => by rw [e]; exact ha9) (hO.sub x), fun m hm hb a ha => ⟨List.mem_cons_of_mem _ (hO.all m hm hb a ha).1, fun b h => List.mem_cons_of_mem _ ((hO.all m hm hb a ha).2 b h)⟩⟩, by simp, fun _ _ h => by simp at h, rfl⟩, rfl⟩ (fun c2 s hs => ?_)
    obtain ⟨em2, cm2, X2, seen2, ⟨hM2, hO2, ha2, hI2, hc2⟩, rfl⟩ := hs
    refine AW.seq ?_
    refine AW.reg ?_
    refine SeqK.next rfl rfl rfl rfl rfl rfl (by (repeat rw [upd_ne _ _ (by first | assumption | exact Ne.symm (by assumption))]); first | assumption | exact upd_same _ _ _) (fun m hm => ok3.born m hm) (Nat.le_refl _) (fun hd22 => ?_) (fun m22 hm22 hn22 => ?_)
    ·
      refine SeqK.q (q_extract _ rfl rfl rfl) rfl rfl rfl ?_
      refine SeqK.nil ?_
      refine AW.seq ?_
      refine AW.condF rfl ?_
      refine AW.exit ?_
      refine eth_e ?_
      refine eth_e ?_
      refine exit_here ?_
      exact ⟨((es.filter fun x => !(seen ++ [mb]).contains x.b).length), _, Wk.keep 31 [(0, .c (.a (.bp k 0))), (3, .c (.a (.mp k7))), (12, .lp 12 0)] [(12, .iter km ck ((seen ++ [mb])) ck)] (upd H k7 (some (.map ndI.kk (em2) (cm2)))) rfl ⟨rfl, rfl, rfl, trivial⟩ ⟨rfl, trivial⟩ (fun _ _ h => h) rfl, by rw [hc]; exact cnt_less (m := ⟨_, _, mb⟩) (List.Sublist.refl _) hm13 hn13, em2, cm2, X2, (seen ++ [mb]), ⟨hM2, ⟨hO2.sub, fun m hm hb a ha => by
        rcases List.mem_append.1 hb with hb | hb
        · exact hO2.all m hm hb a ha
        · have hb : m.b = mb := by simpa using hb
          have h10 := same_born G.ok hm hm13 hb
          subst h10
          have h11 := ndI.inj ha
          subst h11
          refine ⟨ha2, fun b hb9 => ?_⟩
          obtain ⟨m3, h12, h13⟩ := (G.keys ok3 hget b).2 hb9
          exact hI2 m3 h12 (hd22 m3 h12) b h13⟩, rfl⟩, rfl⟩
    ·
      obtain ⟨mk2, mx2, mb2⟩ := m22
      obtain ⟨b9, rfl⟩ := ndI.sur mk2 (ok3.key _ hm22)
      have hb9 : (a9, b9) ∈ L := (G.keys ok3 hget b9).1 ⟨_, hm22, rfl⟩
      refine SeqK.q (q_extract _ rfl rfl rfl) rfl rfl rfl ?_
      refine SeqK.nil ?_
      refine AW.seq ?_
      refine AW.condT rfl ?_
      refine AW.skip ?_
      refine AW.block ?_
      refine AW.seq ?_
      refine AW.reg ?_
      refine SeqK.r (b_entry rfl rfl rfl (by (repeat rw [upd_ne _ _ (by first | assumption | exact Ne.symm (by assumption))]); first | assumption | exact upd_same _ _ _) (by assumption) rfl rfl) rfl ?_
      refine SeqK.q (q_extract _ rfl rfl rfl) rfl rfl rfl ?_
      refine SeqK.q (q_asC rfl rfl) rfl rfl rfl ?_
      refine SeqK.nil ?_
      refine AW.reg ?_
      refine SeqK.q (q_mvC rfl rfl) rfl rfl rfl ?_
      refine SeqK.q (q_mvC rfl rfl) rfl rfl rfl ?_
      refine SeqK.r (g_mapUpdate (.int Fx.un3) rfl rfl Fx.un48 rfl (by (repeat rw [upd_ne _ _ (by first | assumption | exact Ne.symm (by assumption))]); first | assumption | exact upd_same _ _ _) rfl rfl rfl) rfl ?_
      refine SeqK.nil ?_
      exact ⟨((es3.filter fun x => !(seen2 ++ [mb2]).contains x.b).length), _, Wk.keep 31 [(0, .c (.a (.bp k 0))), (3, .c (.a (.mp k7))), (12, .lp 12 0), (21, .lp 21 0)] [(12, .iter km ck (seen ++ [mb]) ck), (21, .iter ki c3 ((seen2 ++ [mb2])) c3)] (upd H k7 (some (.map ndI.kk ((mset (ndI.nv b9) yes cm2 em2)) ((mclock (ndI.nv b9) em2 cm2))))) rfl ⟨rfl, rfl, rfl, rfl, trivial⟩ ⟨rfl, rfl, trivial⟩ (fun j o h => by show upd (upd H k7 _) k7 _ j = _; rw [upd_upd]; exact h) rfl, by rw [hc2]; exact cnt_less (m := ⟨_, _, mb2⟩) (List.Sublist.refl _) hm22 hn22, (mset (ndI.nv b9) yes cm2 em2), (mclock (ndI.nv b9) em2 cm2), (b9 :: X2), (seen2 ++ [mb2]), ⟨hM2.set b9, ⟨fun x h => (List.mem_cons.1 h).elim (fun e => by rw [e]; exact ⟨_, hb9, .inr rfl⟩) (hO2.sub x), fun m hm hb a ha => ⟨List.mem_cons_of_mem _ (hO2.all m hm hb a ha).1, fun b h => List.mem_cons_of_mem _ ((hO2.all m hm hb a ha).2 b h)⟩⟩, List.mem_cons_of_mem _ ha2, fun m hm hb b hk => by
        rcases List.mem_append.1 hb with hb | hb
        · exact List.mem_cons_of_mem _ (hI2 m hm hb b hk)
        · have hb : m.b = mb2 := by simpa using hb
          have h10 := same_born ok3 hm hm22 hb
          subst h10
          have h11 := ndI.inj hk
          subst h11
          simp, rfl⟩, rfl⟩

theorem nodesI (H : Heap) (k : Nat) (L : List (Int × Int)) (G : Gr ndI H k L) (hL : L.length ≤ 400000) : E.Spec Try.prog 17 [.a (.bp k 0)] H fun x H' => x = .c (iL .un (nodes ltI L)) ∧ H' = H := by
  obtain ⟨km, es, ck, g, G⟩ := G
  refine E.Spec.freeze (nodesRI H k L km es ck g G hL) fun x H' ⟨k', h1, h2, h3⟩ => ?_
  subst h2 h3
  refine ⟨k', 1, 3, (nodes ltI L).map i64T, by rw [upd_same, flatI], fun e he => by obtain ⟨s, _, rfl⟩ := List.mem_map.1 he; rfl, by decide, ?_, upd_back h1⟩
  simp [fzX, fzC, fzA]

set_option maxRecDepth 20000 in
theorem nodesRS (H : Heap) (k : Nat) (L : List (ByteArray × ByteArray)) (km : Nat) (es : List ME) (ck : Nat) (g : ByteArray → Option Nat) (G : GrAt ndS H k km es ck g L) (hL : L.length ≤ 400000) : E.Spec Try.prog 34 [.a (.bp k 0)] H fun x H' => ∃ k', H k' = none ∧ x = .c (.a (.os k' 0 (nodes ltS L).length 1)) ∧ H' = upd H k' (some (.row 9 1 ((nodes ltS L).map (fun n : ByteArray => (.t (.v (.string n)) : A))))) := by
  have hbox := G.box
  have hmap := G.map
  have hkm := G.kne
  refine Spec.enter Try.func34 rfl ?_
  refine AW.wk (Wk.keep 31 [(0, .c (.a (.bp k 0)))] [] (H) rfl ⟨rfl, trivial⟩ trivial (fun _ _ h => h) rfl) ?_
  refine AW.seq ?_
  refine AW.reg ?_
  refine SeqK.q (q_asC rfl rfl) rfl rfl rfl ?_
  refine SeqK.nil ?_
  refine AW.seq ?_
  refine AW.reg ?_
  refine SeqK.newMap .str rfl rfl rfl rfl (fun k7 hk7 => ?_)
  refine SeqK.q (q_asC rfl rfl) rfl rfl rfl ?_
  refine SeqK.nil ?_
  refine AW.seq ?_
  refine AW.seq ?_
  have n7 : km ≠ k7 := fun e => by rw [← e, hmap] at hk7; cases hk7
  have n7b : k ≠ k7 := fun e => by rw [← e, hbox] at hk7; cases hk7
  refine AW.reg ?_
  refine SeqK.q (q_mvC rfl rfl) rfl rfl rfl ?_
  refine SeqK.q (q_nilH rfl rfl) rfl rfl rfl ?_
  refine SeqK.q (q_fieldH _ rfl Fx.fl82_0 rfl rfl) rfl rfl rfl ?_
  refine SeqK.r (g_load (r := .a _) rfl Fx.ty80 rfl (by (repeat rw [upd_ne _ _ (by first | assumption | exact Ne.symm (by assumption))]); first | assumption | exact upd_same _ _ _) rfl rfl rfl rfl) rfl ?_
  refine SeqK.r (b_range rfl rfl Fx.un80 rfl (by (repeat rw [upd_ne _ _ (by first | assumption | exact Ne.symm (by assumption))]); first | assumption | exact upd_same _ _ _) rfl rfl) rfl ?_
  refine SeqK.nil ?_
  refine AW.block ?_
  refine AW.loop (fun (c : Nat) s => ∃ (em : List ME) (cm : Nat) (X : List ByteArray) (seen : List Nat), (SetAt ndS em cm X ∧ NdO ndS L es seen X ∧ c = (es.filter fun m => !seen.contains m.b).length) ∧ s = ⟨31, sp [(0, .c (.a (.bp k 0))), (3, .c (.a (.mp k7))), (12, .lp 12 0)], lv [(12, .iter km ck seen ck)], upd H k7 (some (.map ndS.kk em cm))⟩) (fun c => c) _ ⟨_, Wk.keep 31 [(0, .c (.a (.bp k 0))), (3, .c (.a (.mp k7))), (12, .lp 12 0)] [(12, .iter km ck ([]) ck)] (upd H k7 (some (.map ndS.kk ([]) (0)))) rfl ⟨rfl, rfl, rfl, trivial⟩ ⟨rfl, trivial⟩ (fun _ _ h => h) rfl, [], 0, [], [], ⟨⟨.nil, fun x => by simp; rfl⟩, ⟨fun x h => by simp at h, fun _ _ h => by simp at h⟩, rfl⟩, rfl⟩ (fun c s hs => ?_)
  obtain ⟨em, cm, X, seen, ⟨hM, hO, hc⟩, rfl⟩ := hs
  refine AW.seq ?_
  refine AW.reg ?_
  refine SeqK.next rfl rfl rfl rfl rfl rfl (by (repeat rw [upd_ne _ _ (by first | assumption | exact Ne.symm (by assumption))]); first | assumption | exact upd_same _ _ _) (fun m hm => G.ok.born m hm) (Nat.le_refl _) (fun hd13 => ?_) (fun m13 hm13 hn13 => ?_)
  ·
    have hX : ∀ x, x ∈ X ↔ x ∈ nodes ltS L := fun x => by
      rw [mem_nodes]
      refine ⟨hO.sub x, ?_⟩
      rintro ⟨⟨u, v⟩, he, h⟩
      obtain ⟨m, h1, h2⟩ := (G.outer u).2 ⟨v, he⟩
      obtain ⟨h4, h5⟩ := hO.all m h1 (hd13 m h1) u h2
      rcases h with h | h
      · have h : u = x := h
        subst h; exact h4
      · have h : v = x := h
        subst h; exact h5 v he
    refine SeqK.q (q_extract _ rfl rfl rfl) rfl rfl rfl ?_
    refine SeqK.nil ?_
    refine AW.seq ?_
    refine AW.condF rfl ?_
    refine AW.exit ?_
    refine eth_e ?_
    refine eth_e ?_
    refine exit_here ?_
    refine AW.seq ?_
    refine AW.reg ?_
    refine SeqK.q (q_mvC rfl rfl) rfl rfl rfl ?_
    refine SeqK.callE rfl rfl rfl rfl Fx.fn46 rfl (keysFS _ k7) (fun _ _ ⟨_, _, h, _⟩ => by rw [h]; rfl) (fun x29 H29 q29 => ?_)
    obtain ⟨kb, hkb, rfl, hH⟩ := q29
    subst hH
    obtain ⟨nb7, hkb0⟩ := upd_lt hkb
    refine SeqK.callE rfl rfl rfl rfl Fx.fn45 rfl (sortedS _ 58 [.bp kb 0] (KeysX ndS em) (fun H => H kb = some (.box [.mp k7]) ∧ H k7 = some (.map ndS.kk em cm)) Fx.fn58 (keys1S kb k7 em cm hM.ok) (fun H H' hs h => ⟨hs _ _ h.1, hs _ _ h.2⟩) ⟨upd_same _ _ _, by rw [upd_ne _ _ nb7.symm]; exact upd_same _ _ _⟩ (fun xs hx => by
        have h1 := len_sub xs (nodes ltS L) hx.1 fun x h => (hX x).1 ((hM.keys x).1 ((hx.2 x).1 h))
        have h2 := nodes_len (lt := ltS) (L := L)
        omega)) (fun _ _ ⟨_, _, _, _, _, _, h, _⟩ => by rw [h]; rfl) (fun x30 H30 q30 => ?_)
    obtain ⟨xs, ys, k2, hXs, hs, hk2, rfl, hH⟩ := q30
    subst hH
    refine SeqK.q (q_asC rfl rfl) rfl rfl rfl ?_
    refine SeqK.nil ?_
    refine AW.ret ?_
    have hys : ys = nodes ltS L := asc_ext ordS (hs.asc ordS hXs.1) (nodes_asc ordS) fun i => by rw [hs.1.mem_iff, hXs.2, hM.keys, hX]
    subst hys
    exact fin_x (x := .c _) (upd H k2 (some (.row 9 1 ((nodes ltS L).map (fun n : ByteArray => (.t (.v (.string n)) : A)))))) (.tmp rfl .nil) rfl (fun j o h => upd_mid hkb j o (upd_mid hk7 j o h)) (⟨k2, (upd_lt (upd_lt hk2).2).2, rfl, rfl⟩)
  ·
    obtain ⟨mk, mx, mb⟩ := m13
    obtain ⟨a9, rfl⟩ := ndS.sur mk (G.ok.key _ hm13)
    obtain ⟨ki, hg, rfl⟩ : ∃ ki, g a9 = some ki ∧ mx = .a (.mp ki) := by
      have h9 := mget_mem G.ok hm13
      rw [G.get] at h9
      cases h8 : g a9 with
      | none => rw [h8] at h9; cases h9
      | some ki => rw [h8] at h9; injection h9 with h9; exact ⟨ki, rfl, h9.symm⟩
    obtain ⟨es3, c3, h3, ok3, hget⟩ := G.inn a9 ki hg
    have n73 : ki ≠ k7 := fun e => by rw [← e, h3] at hk7; cases hk7
    have ha9 : ∃ e ∈ L, e.1 = a9 ∨ e.2 = a9 := by
      obtain ⟨b, hb⟩ := G.ne a9 ki hg
      exact ⟨_, hb, .inl rfl⟩
    refine SeqK.q (q_extract _ rfl rfl rfl) rfl rfl rfl ?_
    refine SeqK.nil ?_
    refine AW.seq ?_
    refine AW.condT rfl ?_
    refine AW.skip ?_
    refine AW.block ?_
    refine AW.seq ?_
    refine AW.reg ?_
    refine SeqK.r (b_entry rfl rfl rfl (by (repeat rw [upd_ne _ _ (by first | assumption | exact Ne.symm (by assumption))]); first | assumption | exact upd_same _ _ _) (by assumption) rfl rfl) rfl ?_
    refine SeqK.q (q_extract _ rfl rfl rfl) rfl rfl rfl ?_
    refine SeqK.q (q_extract _ rfl rfl rfl) rfl rfl rfl ?_
    refine SeqK.q (q_asC rfl rfl) rfl rfl rfl ?_
    refine SeqK.q (q_asC rfl rfl) rfl rfl rfl ?_
    refine SeqK.nil ?_
    refine AW.seq ?_
    refine AW.reg ?_
    refine SeqK.q (q_mvC rfl rfl) rfl rfl rfl ?_
    refine SeqK.q (q_mvC rfl rfl) rfl rfl rfl ?_
    refine SeqK.r (g_mapUpdate (.str Fx.un9) rfl rfl Fx.un83 rfl (by (repeat rw [upd_ne _ _ (by first | assumption | exact Ne.symm (by assumption))]); first | assumption | exact upd_same _ _ _) rfl rfl rfl) rfl ?_
    refine SeqK.nil ?_
    refine AW.seq ?_
    refine AW.reg ?_
    refine SeqK.q (q_mvC rfl rfl) rfl rfl rfl ?_
    refine SeqK.r (b_range rfl rfl Fx.un83 rfl (by (repeat rw [upd_ne _ _ (by first | assumption | exact Ne.symm (by assumption))]); first | assumption | exact upd_same _ _ _) rfl rfl) rfl ?_
    refine SeqK.nil ?_
    refine AW.block ?_
    refine AW.loop (fun (c2 : Nat) s => ∃ (em2 : List ME) (cm2 : Nat) (X2 : List ByteArray) (seen2 : List Nat), (SetAt ndS em2 cm2 X2 ∧ NdO ndS L es seen X2 ∧ a9 ∈ X2 ∧ (∀ m ∈ es3, m.b ∈ seen2 → ∀ b, m.k = ndS.nv b → b ∈ X2) ∧ c2 = (es3.filter fun m => !seen2.contains m.b).length) ∧ s = ⟨31, sp [(0, .c (.a (.bp k 0))), (3, .c (.a (.mp k7))), (12, .lp 12 0), (21, .lp 21 0)], lv [(12, .iter km ck (seen ++ [mb]) ck), (21, .iter ki c3 seen2 c3)], upd H k7 (some (.map ndS.kk em2 cm2))⟩) (fun c2 => c2) _ ⟨_, Wk.keep 31 [(0, .c (.a (.bp k 0))), (3, .c (.a (.mp k7))), (12, .lp 12 0), (21, .lp 21 0)] [(12, .iter km ck (seen ++ [mb]) ck), (21, .iter ki c3 ([]) c3)] (upd H k7 (some (.map ndS.kk ((mset (ndS.nv a9) yes cm em)) ((mclock (ndS.nv a9) em cm))))) rfl ⟨rfl, rfl, rfl, rfl, trivial⟩ ⟨rfl, rfl, trivial⟩ (fun j o h => by show upd (upd H k7 _) k7 _ j = _; rw [upd_upd]; exact h) rfl, (mset (ndS.nv a9) yes cm em), (mclock (ndS.nv a9) em cm), (a9 :: X), [], ⟨hM.set a9, ⟨fun x h => (List.mem_cons.1 h).elim (fun e => by rw [e]; exact ha9) (hO.sub x), fun m hm hb a ha => ⟨List.mem_cons_of_mem _ (hO.all m hm hb a ha).1, fun b h => List.mem_cons_of_mem _ ((hO.all m hm hb a ha).2 b h)⟩⟩, by simp, fun _ _ h => by simp at h, rfl⟩, rfl⟩ (fun c2 s hs => ?_)
    obtain ⟨em2, cm2, X2, seen2, ⟨hM2, hO2, ha2, hI2, hc2⟩, rfl⟩ := hs
    refine AW.seq ?_
    refine AW.reg ?_
    refine SeqK.next rfl rfl rfl rfl rfl rfl (by (repeat rw [upd_ne _ _ (by first | assumption | exact Ne.symm (by assumption))]); first | assumption | exact upd_same _ _ _) (fun m hm => ok3.born m hm) (Nat.le_refl _) (fun hd22 => ?_) (fun m22 hm22 hn22 => ?_)
    ·
      refine SeqK.q (q_extract _ rfl rfl rfl) rfl rfl rfl ?_
      refine SeqK.nil ?_
      refine AW.seq ?_
      refine AW.condF rfl ?_
      refine AW.exit ?_
      refine eth_e ?_
      refine eth_e ?_
      refine exit_here ?_
      exact ⟨((es.filter fun x => !(seen ++ [mb]).contains x.b).length), _, Wk.keep 31 [(0, .c (.a (.bp k 0))), (3, .c (.a (.mp k7))), (12, .lp 12 0)] [(12, .iter km ck ((seen ++ [mb])) ck)] (upd H k7 (some (.map ndS.kk (em2) (cm2)))) rfl ⟨rfl, rfl, rfl, trivial⟩ ⟨rfl, trivial⟩ (fun _ _ h => h) rfl, by rw [hc]; exact cnt_less (m := ⟨_, _, mb⟩) (List.Sublist.refl _) hm13 hn13, em2, cm2, X2, (seen ++ [mb]), ⟨hM2, ⟨hO2.sub, fun m hm hb a ha => by
        rcases List.mem_append.1 hb with hb | hb
        · exact hO2.all m hm hb a ha
        · have hb : m.b = mb := by simpa using hb
          have h10 := same_born G.ok hm hm13 hb
          subst h10
          have h11 := ndS.inj ha
          subst h11
          refine ⟨ha2, fun b hb9 => ?_⟩
          obtain ⟨m3, h12, h13⟩ := (G.keys ok3 hget b).2 hb9
          exact hI2 m3 h12 (hd22 m3 h12) b h13⟩, rfl⟩, rfl⟩
    ·
      obtain ⟨mk2, mx2, mb2⟩ := m22
      obtain ⟨b9, rfl⟩ := ndS.sur mk2 (ok3.key _ hm22)
      have hb9 : (a9, b9) ∈ L := (G.keys ok3 hget b9).1 ⟨_, hm22, rfl⟩
      refine SeqK.q (q_extract _ rfl rfl rfl) rfl rfl rfl ?_
      refine SeqK.nil ?_
      refine AW.seq ?_
      refine AW.condT rfl ?_
      refine AW.skip ?_
      refine AW.block ?_
      refine AW.seq ?_
      refine AW.reg ?_
      refine SeqK.r (b_entry rfl rfl rfl (by (repeat rw [upd_ne _ _ (by first | assumption | exact Ne.symm (by assumption))]); first | assumption | exact upd_same _ _ _) (by assumption) rfl rfl) rfl ?_
      refine SeqK.q (q_extract _ rfl rfl rfl) rfl rfl rfl ?_
      refine SeqK.q (q_asC rfl rfl) rfl rfl rfl ?_
      refine SeqK.nil ?_
      refine AW.reg ?_
      refine SeqK.q (q_mvC rfl rfl) rfl rfl rfl ?_
      refine SeqK.q (q_mvC rfl rfl) rfl rfl rfl ?_
      refine SeqK.r (g_mapUpdate (.str Fx.un9) rfl rfl Fx.un83 rfl (by (repeat rw [upd_ne _ _ (by first | assumption | exact Ne.symm (by assumption))]); first | assumption | exact upd_same _ _ _) rfl rfl rfl) rfl ?_
      refine SeqK.nil ?_
      exact ⟨((es3.filter fun x => !(seen2 ++ [mb2]).contains x.b).length), _, Wk.keep 31 [(0, .c (.a (.bp k 0))), (3, .c (.a (.mp k7))), (12, .lp 12 0), (21, .lp 21 0)] [(12, .iter km ck (seen ++ [mb]) ck), (21, .iter ki c3 ((seen2 ++ [mb2])) c3)] (upd H k7 (some (.map ndS.kk ((mset (ndS.nv b9) yes cm2 em2)) ((mclock (ndS.nv b9) em2 cm2))))) rfl ⟨rfl, rfl, rfl, rfl, trivial⟩ ⟨rfl, rfl, trivial⟩ (fun j o h => by show upd (upd H k7 _) k7 _ j = _; rw [upd_upd]; exact h) rfl, by rw [hc2]; exact cnt_less (m := ⟨_, _, mb2⟩) (List.Sublist.refl _) hm22 hn22, (mset (ndS.nv b9) yes cm2 em2), (mclock (ndS.nv b9) em2 cm2), (b9 :: X2), (seen2 ++ [mb2]), ⟨hM2.set b9, ⟨fun x h => (List.mem_cons.1 h).elim (fun e => by rw [e]; exact ⟨_, hb9, .inr rfl⟩) (hO2.sub x), fun m hm hb a ha => ⟨List.mem_cons_of_mem _ (hO2.all m hm hb a ha).1, fun b h => List.mem_cons_of_mem _ ((hO2.all m hm hb a ha).2 b h)⟩⟩, List.mem_cons_of_mem _ ha2, fun m hm hb b hk => by
        rcases List.mem_append.1 hb with hb | hb
        · exact List.mem_cons_of_mem _ (hI2 m hm hb b hk)
        · have hb : m.b = mb2 := by simpa using hb
          have h10 := same_born ok3 hm hm22 hb
          subst h10
          have h11 := ndS.inj hk
          subst h11
          simp, rfl⟩, rfl⟩

theorem nodesS (H : Heap) (k : Nat) (L : List (ByteArray × ByteArray)) (G : Gr ndS H k L) (hL : L.length ≤ 400000) : E.Spec Try.prog 34 [.a (.bp k 0)] H fun x H' => x = .c (sL .un (nodes ltS L)) ∧ H' = H := by
  obtain ⟨km, es, ck, g, G⟩ := G
  refine E.Spec.freeze (nodesRS H k L km es ck g G hL) fun x H' ⟨k', h1, h2, h3⟩ => ?_
  subst h2 h3
  refine ⟨k', 1, 9, (nodes ltS L).map strT, by rw [upd_same, flatS], fun e he => by obtain ⟨s, _, rfl⟩ := List.mem_map.1 he; rfl, by decide, ?_, upd_back h1⟩
  simp [fzX, fzC, fzA]

end Go.Proofs.Ytikcmjamioopbaa.W
namespace Go.Proofs.Ytikcmjamioopbaa.W
open Go.RowKit E M
set_option linter.unusedVariables false
set_option linter.unusedSimpArgs false
set_option linter.unusedSectionVars false
theorem anyTake {α : Type} {p : α → Bool} : ∀ {l : List α} {i : Nat}, (∀ j (h : j < l.length), j < i → p l[j] = false) → l.length ≤ i → l.any p = false := fun {l i} h hl => by
  rw [List.any_eq_false]
  intro x hx
  obtain ⟨j, hj, rfl⟩ := List.getElem_of_mem hx
  simp [h j hj (by omega)]

set_option maxRecDepth 20000 in
theorem far1nI (H : Heap) (b1 b2 k : Nat) (L : List (Int × Int)) (n x : Int) (h1 : H b1 = some (.box [.bp k 0])) (h2 : H b2 = some (.box [.t (.v (.int .i64 n))])) (km : Nat) (es : List ME) (ck : Nat) (g : Int → Option Nat) (G : GrAt ndI H k km es ck g L) (hg : g n = none) : E.Spec Try.prog 51 [iC x, .a (.bp b1 0), .a (.bp b2 0)] H fun y H' => y = bX (hasE L n x) ∧ H' = H := by
  have hbox := G.box
  have hmap := G.map
  have hkm := G.kne
  have hgn := G.get n
  rw [hg] at hgn
  simp only [Option.map_some, Option.map_none] at hgn
  have hm : (n, x) ∉ L := G.no n hg x
  refine Spec.enter Try.func51 rfl ?_
  refine AW.wk (Wk.keep 13 [(0, .c (iC x)), (1, .c (.a (.bp b1 0))), (2, .c (.a (.bp b2 0)))] [] (H) rfl ⟨rfl, rfl, rfl, trivial⟩ trivial (fun _ _ h => h) rfl) ?_
  refine AW.seq ?_
  refine AW.reg ?_
  refine SeqK.q (q_asC rfl rfl) rfl rfl rfl ?_
  refine SeqK.nil ?_
  refine AW.seq ?_
  refine AW.draw Fx.mo ?_
  refine LexK.r (g_load (r := .a _) rfl Fx.ty23 rfl (by (repeat rw [upd_ne _ _ (by first | assumption | exact Ne.symm (by assumption))]); first | assumption | exact upd_same _ _ _) rfl rfl rfl rfl) rfl ?_
  refine LexK.q (q_nilH rfl rfl) rfl rfl rfl ?_
  refine LexK.q (q_fieldH _ rfl Fx.fl74_0 rfl rfl) rfl rfl rfl ?_
  refine LexK.r (g_load (r := .a _) rfl Fx.ty72 rfl (by (repeat rw [upd_ne _ _ (by first | assumption | exact Ne.symm (by assumption))]); first | assumption | exact upd_same _ _ _) rfl rfl rfl rfl) rfl ?_
  refine LexK.r (g_load (r := .a _) rfl Fx.ty3 rfl (by (repeat rw [upd_ne _ _ (by first | assumption | exact Ne.symm (by assumption))]); first | assumption | exact upd_same _ _ _) rfl rfl rfl rfl) rfl ?_
  refine LexK.r (g_lookup (r := .c (.a _)) (.int Fx.un3) rfl Fx.un72 Fx.ze48 rfl (by (repeat rw [upd_ne _ _ (by first | assumption | exact Ne.symm (by assumption))]); first | assumption | exact upd_same _ _ _) rfl rfl (by assumption) rfl rfl rfl) rfl ?_
  refine LexK.q (q_mvC rfl rfl) rfl rfl rfl ?_
  refine LexK.q (q_lookupN (.int Fx.un3) _ rfl Fx.un48 Fx.ze4 rfl rfl rfl rfl) rfl rfl rfl ?_
  refine LexK.q (q_asC rfl rfl) rfl rfl rfl ?_
  refine LexK.nil (by kernel_rfl) ?_
  refine AW.ret ?_
  exact fin_x (x := .c _) (H) (.tmp rfl .nil) rfl (fun _ _ h => h) (⟨by simp [hasE, hm], rfl⟩)

set_option maxRecDepth 20000 in
theorem far1stI (H : Heap) (b1 b2 k : Nat) (L : List (Int × Int)) (n x : Int) (h1 : H b1 = some (.box [.bp k 0])) (h2 : H b2 = some (.box [.t (.v (.int .i64 n))])) (km : Nat) (es : List ME) (ck : Nat) (g : Int → Option Nat) (G : GrAt ndI H k km es ck g L) (ki : Nat) (hg : g n = some ki) (hm : (n, x) ∈ L) : E.Spec Try.prog 51 [iC x, .a (.bp b1 0), .a (.bp b2 0)] H fun y H' => y = bX (hasE L n x) ∧ H' = H := by
  have hbox := G.box
  have hmap := G.map
  have hkm := G.kne
  have hgn := G.get n
  rw [hg] at hgn
  simp only [Option.map_some, Option.map_none] at hgn
  obtain ⟨es3, c3, h3, ok3, hget⟩ := G.inn n ki hg
  refine Spec.enter Try.func51 rfl ?_
  refine AW.wk (Wk.keep 13 [(0, .c (iC x)), (1, .c (.a (.bp b1 0))), (2, .c (.a (.bp b2 0)))] [] (H) rfl ⟨rfl, rfl, rfl, trivial⟩ trivial (fun _ _ h => h) rfl) ?_
  refine AW.seq ?_
  refine AW.reg ?_
  refine SeqK.q (q_asC rfl rfl) rfl rfl rfl ?_
  refine SeqK.nil ?_
  refine AW.seq ?_
  refine AW.draw Fx.mo ?_
  refine LexK.r (g_load (r := .a _) rfl Fx.ty23 rfl (by (repeat rw [upd_ne _ _ (by first | assumption | exact Ne.symm (by assumption))]); first | assumption | exact upd_same _ _ _) rfl rfl rfl rfl) rfl ?_
  refine LexK.q (q_nilH rfl rfl) rfl rfl rfl ?_
  refine LexK.q (q_fieldH _ rfl Fx.fl74_0 rfl rfl) rfl rfl rfl ?_
  refine LexK.r (g_load (r := .a _) rfl Fx.ty72 rfl (by (repeat rw [upd_ne _ _ (by first | assumption | exact Ne.symm (by assumption))]); first | assumption | exact upd_same _ _ _) rfl rfl rfl rfl) rfl ?_
  refine LexK.r (g_load (r := .a _) rfl Fx.ty3 rfl (by (repeat rw [upd_ne _ _ (by first | assumption | exact Ne.symm (by assumption))]); first | assumption | exact upd_same _ _ _) rfl rfl rfl rfl) rfl ?_
  refine LexK.r (g_lookup (r := .c (.a _)) (.int Fx.un3) rfl Fx.un72 Fx.ze48 rfl (by (repeat rw [upd_ne _ _ (by first | assumption | exact Ne.symm (by assumption))]); first | assumption | exact upd_same _ _ _) rfl rfl (by assumption) rfl rfl rfl) rfl ?_
  refine LexK.q (q_mvC rfl rfl) rfl rfl rfl ?_
  refine LexK.r (g_lookup (r := .c (.a _)) (.int Fx.un3) rfl Fx.un48 Fx.ze4 rfl (by (repeat rw [upd_ne _ _ (by first | assumption | exact Ne.symm (by assumption))]); first | assumption | exact upd_same _ _ _) rfl rfl ((hget x).trans (if_pos hm)) rfl rfl rfl) rfl ?_
  refine LexK.q (q_asC rfl rfl) rfl rfl rfl ?_
  refine LexK.nil (by kernel_rfl) ?_
  refine AW.ret ?_
  exact fin_x (x := .c _) (H) (.tmp rfl .nil) rfl (fun _ _ h => h) (⟨by simp [hasE, hm], rfl⟩)

set_option maxRecDepth 20000 in
theorem far1sfI (H : Heap) (b1 b2 k : Nat) (L : List (Int × Int)) (n x : Int) (h1 : H b1 = some (.box [.bp k 0])) (h2 : H b2 = some (.box [.t (.v (.int .i64 n))])) (km : Nat) (es : List ME) (ck : Nat) (g : Int → Option Nat) (G : GrAt ndI H k km es ck g L) (ki : Nat) (hg : g n = some ki) (hm : (n, x) ∉ L) : E.Spec Try.prog 51 [iC x, .a (.bp b1 0), .a (.bp b2 0)] H fun y H' => y = bX (hasE L n x) ∧ H' = H := by
  have hbox := G.box
  have hmap := G.map
  have hkm := G.kne
  have hgn := G.get n
  rw [hg] at hgn
  simp only [Option.map_some, Option.map_none] at hgn
  obtain ⟨es3, c3, h3, ok3, hget⟩ := G.inn n ki hg
  refine Spec.enter Try.func51 rfl ?_
  refine AW.wk (Wk.keep 13 [(0, .c (iC x)), (1, .c (.a (.bp b1 0))), (2, .c (.a (.bp b2 0)))] [] (H) rfl ⟨rfl, rfl, rfl, trivial⟩ trivial (fun _ _ h => h) rfl) ?_
  refine AW.seq ?_
  refine AW.reg ?_
  refine SeqK.q (q_asC rfl rfl) rfl rfl rfl ?_
  refine SeqK.nil ?_
  refine AW.seq ?_
  refine AW.draw Fx.mo ?_
  refine LexK.r (g_load (r := .a _) rfl Fx.ty23 rfl (by (repeat rw [upd_ne _ _ (by first | assumption | exact Ne.symm (by assumption))]); first | assumption | exact upd_same _ _ _) rfl rfl rfl rfl) rfl ?_
  refine LexK.q (q_nilH rfl rfl) rfl rfl rfl ?_
  refine LexK.q (q_fieldH _ rfl Fx.fl74_0 rfl rfl) rfl rfl rfl ?_
  refine LexK.r (g_load (r := .a _) rfl Fx.ty72 rfl (by (repeat rw [upd_ne _ _ (by first | assumption | exact Ne.symm (by assumption))]); first | assumption | exact upd_same _ _ _) rfl rfl rfl rfl) rfl ?_
  refine LexK.r (g_load (r := .a _) rfl Fx.ty3 rfl (by (repeat rw [upd_ne _ _ (by first | assumption | exact Ne.symm (by assumption))]); first | assumption | exact upd_same _ _ _) rfl rfl rfl rfl) rfl ?_
  refine LexK.r (g_lookup (r := .c (.a _)) (.int Fx.un3) rfl Fx.un72 Fx.ze48 rfl (by (repeat rw [upd_ne _ _ (by first | assumption | exact Ne.symm (by assumption))]); first | assumption | exact upd_same _ _ _) rfl rfl (by assumption) rfl rfl rfl) rfl ?_
  refine LexK.q (q_mvC rfl rfl) rfl rfl rfl ?_
  refine LexK.r (g_lookup (r := .c (.a _)) (.int Fx.un3) rfl Fx.un48 Fx.ze4 rfl (by (repeat rw [upd_ne _ _ (by first | assumption | exact Ne.symm (by assumption))]); first | assumption | exact upd_same _ _ _) rfl rfl ((hget x).trans (if_neg hm)) rfl rfl rfl) rfl ?_
  refine LexK.q (q_asC rfl rfl) rfl rfl rfl ?_
  refine LexK.nil (by kernel_rfl) ?_
  refine AW.ret ?_
  exact fin_x (x := .c _) (H) (.tmp rfl .nil) rfl (fun _ _ h => h) (⟨by simp [hasE, hm], rfl⟩)

theorem far1I (H : Heap) (b1 b2 k : Nat) (L : List (Int × Int)) (n x : Int) (h1 : H b1 = some (.box [.bp k 0])) (h2 : H b2 = some (.box [.t (.v (.int .i64 n))])) (G : Gr ndI H k L) : E.Spec Try.prog 51 [iC x, .a (.bp b1 0), .a (.bp b2 0)] H fun y H' => y = bX (hasE L n x) ∧ H' = H := by
  obtain ⟨km, es, ck, g, G⟩ := G
  cases hg : g n with
  | none => exact far1nI H b1 b2 k L n x h1 h2 km es ck g G hg
  | some ki =>
    by_cases hm : (n, x) ∈ L
    · exact far1stI H b1 b2 k L n x h1 h2 km es ck g G ki hg hm
    · exact far1sfI H b1 b2 k L n x h1 h2 km es ck g G ki hg hm

set_option maxRecDepth 20000 in
theorem indexI (H : Heap) (l : List Int) (f : FuncId) (cs : List A) (p : Int → Bool) (hfn : fnB Try.prog f = true) (hp : ∀ x, E.Spec Try.prog f (iC x :: cs.map C.a) H fun y H' => y = bX (p x) ∧ H' = H) (hl : l.length ≤ 1000000) : E.Spec Try.prog 62 [iL .un l, .a (.fn f cs)] H fun y H' => (∃ j : Int, y = .c (iC j) ∧ -1 ≤ j ∧ decide (0 ≤ j) = l.any p) ∧ H' = H := by
  refine Spec.enter Try.func62 rfl ?_
  refine AW.wk (Wk.keep 19 [(0, .c (iL .un l)), (1, .c (.a (.fn f cs)))] [] (H) rfl ⟨rfl, rfl, trivial⟩ trivial (fun _ _ h => h) rfl) ?_
  refine AW.seq ?_
  refine AW.reg ?_
  refine SeqK.q (q_asC rfl rfl) rfl rfl rfl ?_
  refine SeqK.nil ?_
  refine AW.seq ?_
  refine AW.seq ?_
  refine AW.reg ?_
  refine SeqK.q (q_mvC rfl rfl) rfl rfl rfl ?_
  refine SeqK.q (q_len rfl Fx.un30 rfl) rfl rfl rfl ?_
  refine SeqK.q (q_mvC rfl rfl) rfl rfl rfl ?_
  refine SeqK.nil ?_
  refine AW.block ?_
  refine AW.loop (fun (i : Nat) s => (i ≤ l.length ∧ ∀ j (h : j < l.length), j < i → p l[j] = false) ∧ s = ⟨19, sp [(0, .c (iL .un l)), (1, .c (.a (.fn f cs))), (7, iX .i64 (((l.map i64T).length : Nat) : Int)), (8, iX .i64 ((i : Nat) : Int))], lv [], H⟩) (fun i => l.length - i) 0 ⟨_, Wk.keep 19 [(0, .c (iL .un l)), (1, .c (.a (.fn f cs))), (7, iX .i64 (((l.map i64T).length : Nat) : Int)), (8, iX .i64 ((((0 : Nat)) : Nat) : Int))] [] (H) rfl ⟨rfl, rfl, rfl, rfl, trivial⟩ trivial (fun _ _ h => h) rfl, ⟨Nat.zero_le _, fun _ _ h => absurd h (Nat.not_lt_zero _)⟩, rfl⟩ (fun i s hs => ?_)
  obtain ⟨⟨hi0, hpre⟩, rfl⟩ := hs
  refine AW.seq ?_
  refine AW.reg ?_
  refine SeqK.q (q_lss rfl rfl rfl) rfl rfl rfl ?_
  refine SeqK.nil ?_
  refine AW.seq ?_
  refine AW.condD rfl (fun h9 => ?_) (fun h9 => ?_)
  ·
    have hi : i < l.length := by simpa using h9
    refine AW.skip ?_
    refine AW.seq ?_
    refine AW.block ?_
    refine AW.seq ?_
    refine AW.reg ?_
    refine SeqK.q (q_mvC rfl rfl) rfl rfl rfl ?_
    refine SeqK.q (q_asC rfl rfl) rfl rfl rfl ?_
    refine SeqK.nil ?_
    refine AW.seq ?_
    refine AW.reg ?_
    refine SeqK.q (q_mvC rfl rfl) rfl rfl rfl ?_
    refine SeqK.q (q_mvC rfl rfl) rfl rfl rfl ?_
    refine SeqK.q (q_mvC rfl rfl) rfl rfl rfl ?_
    refine SeqK.q (q_index _ rfl Fx.sl30 rfl rfl (by omega) (idx_map (f := i64T) hi)) rfl rfl rfl ?_
    refine SeqK.q (q_load (.a _) rfl Fx.ty3 rfl rfl rfl) rfl rfl rfl ?_
    refine SeqK.callV rfl rfl rfl rfl rfl hfn rfl (hp l[i]) (fun _ _ h => by rw [h.1]; rfl) (fun x16 H16 q16 => ?_)
    obtain ⟨rfl, hH16⟩ := q16
    replace hH16 := hH16.symm
    subst hH16
    refine SeqK.nil ?_
    refine AW.cond _ rfl (fun h16 => ?_) (fun h16 => ?_)
    ·
      refine AW.seq ?_
      refine AW.reg ?_
      refine SeqK.q (q_mvC rfl rfl) rfl rfl rfl ?_
      refine SeqK.q (q_asC rfl rfl) rfl rfl rfl ?_
      refine SeqK.nil ?_
      refine AW.ret ?_
      exact fin_x (x := .c _) (H) (.tmp rfl .nil) rfl (fun _ _ h => h) (⟨⟨_, rfl, by omega, by
        rw [decide_eq_true (by omega), List.any_eq_true.2 ⟨_, List.getElem_mem hi, h16⟩]⟩, rfl⟩)
    ·
      refine AW.skip ?_
      refine AW.reg ?_
      refine SeqK.q (q_add _ rfl rfl rfl (w64 (by omega) (by omega))) rfl rfl rfl ?_
      refine SeqK.q (q_mvC rfl rfl) rfl rfl rfl ?_
      refine SeqK.nil ?_
      exact ⟨i + 1, _, Wk.keep 19 [(0, .c (iL .un l)), (1, .c (.a (.fn f cs))), (7, iX .i64 (((l.map i64T).length : Nat) : Int)), (8, iX .i64 (((i + 1) : Nat) : Int))] [] (H) rfl ⟨rfl, rfl, rfl, rfl, trivial⟩ trivial (fun _ _ h => h) rfl, by omega, ⟨hi, fun j h h9 => by
        rcases Nat.lt_or_ge j i with h10 | h10
        · exact hpre j h h10
        · obtain rfl : j = i := by omega
          exact h16⟩, rfl⟩
  ·
    refine AW.exit ?_
    refine eth_e ?_
    refine eth_e ?_
    refine exit_here ?_
    refine AW.seq ?_
    refine AW.reg ?_
    refine SeqK.q (q_asC rfl rfl) rfl rfl rfl ?_
    refine SeqK.nil ?_
    refine AW.ret ?_
    exact fin_x (x := .c _) (H) (.tmp rfl .nil) rfl (fun _ _ h => h) (⟨⟨_, rfl, by omega, by
      rw [anyTake hpre (by simp at h9; omega)]; rfl⟩, rfl⟩)

set_option maxRecDepth 20000 in
theorem containsI (H : Heap) (l : List Int) (f : FuncId) (cs : List A) (p : Int → Bool) (hfn : fnB Try.prog f = true) (hp : ∀ x, E.Spec Try.prog f (iC x :: cs.map C.a) H fun y H' => y = bX (p x) ∧ H' = H) (hl : l.length ≤ 1000000) : E.Spec Try.prog 50 [iL .un l, .a (.fn f cs)] H fun y H' => y = bX (l.any p) ∧ H' = H := by
  refine Spec.enter Try.func50 rfl ?_
  refine AW.wk (Wk.keep 9 [(0, .c (iL .un l)), (1, .c (.a (.fn f cs)))] [] (H) rfl ⟨rfl, rfl, trivial⟩ trivial (fun _ _ h => h) rfl) ?_
  refine AW.seq ?_
  refine AW.reg ?_
  refine SeqK.q (q_asC rfl rfl) rfl rfl rfl ?_
  refine SeqK.nil ?_
  refine AW.seq ?_
  refine AW.reg ?_
  refine SeqK.q (q_mvC rfl rfl) rfl rfl rfl ?_
  refine SeqK.q (q_mvC rfl rfl) rfl rfl rfl ?_
  refine SeqK.callE rfl rfl rfl rfl Fx.fn62 rfl (indexI _ l f cs p hfn hp hl) (fun _ _ ⟨⟨_, h, _⟩, _⟩ => by rw [h]; rfl) (fun x7 H7 q7 => ?_)
  obtain ⟨⟨j, rfl, hj, hja⟩, hH⟩ := q7
  subst hH
  refine SeqK.q (q_geq rfl rfl rfl) rfl rfl rfl ?_
  refine SeqK.q (q_asC rfl rfl) rfl rfl rfl ?_
  refine SeqK.nil ?_
  refine AW.ret ?_
  exact fin_x (x := .c _) (_) (.tmp rfl .nil) rfl (fun _ _ h => h) (⟨by rw [← hja], rfl⟩)

set_option maxRecDepth 20000 in
theorem far1nS (H : Heap) (b1 b2 k : Nat) (L : List (ByteArray × ByteArray)) (n x : ByteArray) (h1 : H b1 = some (.box [.bp k 0])) (h2 : H b2 = some (.box [.t (.v (.string n))])) (km : Nat) (es : List ME) (ck : Nat) (g : ByteArray → Option Nat) (G : GrAt ndS H k km es ck g L) (hg : g n = none) : E.Spec Try.prog 53 [sC x, .a (.bp b1 0), .a (.bp b2 0)] H fun y H' => y = bX (hasE L n x) ∧ H' = H := by
  have hbox := G.box
  have hmap := G.map
  have hkm := G.kne
  have hgn := G.get n
  rw [hg] at hgn
  simp only [Option.map_some, Option.map_none] at hgn
  have hm : (n, x) ∉ L := G.no n hg x
  refine Spec.enter Try.func53 rfl ?_
  refine AW.wk (Wk.keep 13 [(0, .c (sC x)), (1, .c (.a (.bp b1 0))), (2, .c (.a (.bp b2 0)))] [] (H) rfl ⟨rfl, rfl, rfl, trivial⟩ trivial (fun _ _ h => h) rfl) ?_
  refine AW.seq ?_
  refine AW.reg ?_
  refine SeqK.q (q_asC rfl rfl) rfl rfl rfl ?_
  refine SeqK.nil ?_
  refine AW.seq ?_
  refine AW.draw Fx.mo ?_
  refine LexK.r (g_load (r := .a _) rfl Fx.ty54 rfl (by (repeat rw [upd_ne _ _ (by first | assumption | exact Ne.symm (by assumption))]); first | assumption | exact upd_same _ _ _) rfl rfl rfl rfl) rfl ?_
  refine LexK.q (q_nilH rfl rfl) rfl rfl rfl ?_
  refine LexK.q (q_fieldH _ rfl Fx.fl82_0 rfl rfl) rfl rfl rfl ?_
  refine LexK.r (g_load (r := .a _) rfl Fx.ty80 rfl (by (repeat rw [upd_ne _ _ (by first | assumption | exact Ne.symm (by assumption))]); first | assumption | exact upd_same _ _ _) rfl rfl rfl rfl) rfl ?_
  refine LexK.r (g_load (r := .a _) rfl Fx.ty9 rfl (by (repeat rw [upd_ne _ _ (by first | assumption | exact Ne.symm (by assumption))]); first | assumption | exact upd_same _ _ _) rfl rfl rfl rfl) rfl ?_
  refine LexK.r (g_lookup (r := .c (.a _)) (.str Fx.un9) rfl Fx.un80 Fx.ze83 rfl (by (repeat rw [upd_ne _ _ (by first | assumption | exact Ne.symm (by assumption))]); first | assumption | exact upd_same _ _ _) rfl rfl (by assumption) rfl rfl rfl) rfl ?_
  refine LexK.q (q_mvC rfl rfl) rfl rfl rfl ?_
  refine LexK.q (q_lookupN (.str Fx.un9) _ rfl Fx.un83 Fx.ze4 rfl rfl rfl rfl) rfl rfl rfl ?_
  refine LexK.q (q_asC rfl rfl) rfl rfl rfl ?_
  refine LexK.nil (by kernel_rfl) ?_
  refine AW.ret ?_
  exact fin_x (x := .c _) (H) (.tmp rfl .nil) rfl (fun _ _ h => h) (⟨by simp [hasE, hm], rfl⟩)

set_option maxRecDepth 20000 in
theorem far1stS (H : Heap) (b1 b2 k : Nat) (L : List (ByteArray × ByteArray)) (n x : ByteArray) (h1 : H b1 = some (.box [.bp k 0])) (h2 : H b2 = some (.box [.t (.v (.string n))])) (km : Nat) (es : List ME) (ck : Nat) (g : ByteArray → Option Nat) (G : GrAt ndS H k km es ck g L) (ki : Nat) (hg : g n = some ki) (hm : (n, x) ∈ L) : E.Spec Try.prog 53 [sC x, .a (.bp b1 0), .a (.bp b2 0)] H fun y H' => y = bX (hasE L n x) ∧ H' = H := by
  have hbox := G.box
  have hmap := G.map
  have hkm := G.kne
  have hgn := G.get n
  rw [hg] at hgn
  simp only [Option.map_some, Option.map_none] at hgn
  obtain ⟨es3, c3, h3, ok3, hget⟩ := G.inn n ki hg
  refine Spec.enter Try.func53 rfl ?_
  refine AW.wk (Wk.keep 13 [(0, .c (sC x)), (1, .c (.a (.bp b1 0))), (2, .c (.a (.bp b2 0)))] [] (H) rfl ⟨rfl, rfl, rfl, trivial⟩ trivial (fun _ _ h => h) rfl) ?_
  refine AW.seq ?_
  refine AW.reg ?_
  refine SeqK.q (q_asC rfl rfl) rfl rfl rfl ?_
  refine SeqK.nil ?_
  refine AW.seq ?_
  refine AW.draw Fx.mo ?_
  refine LexK.r (g_load (r := .a _) rfl Fx.ty54 rfl (by (repeat rw [upd_ne _ _ (by first | assumption | exact Ne.symm (by assumption))]); first | assumption | exact upd_same _ _ _) rfl rfl rfl rfl) rfl ?_
  refine LexK.q (q_nilH rfl rfl) rfl rfl rfl ?_
  refine LexK.q (q_fieldH _ rfl Fx.fl82_0 rfl rfl) rfl rfl rfl ?_
  refine LexK.r (g_load (r := .a _) rfl Fx.ty80 rfl (by (repeat rw [upd_ne _ _ (by first | assumption | exact Ne.symm (by assumption))]); first | assumption | exact upd_same _ _ _) rfl rfl rfl rfl) rfl ?_
  refine LexK.r (g_load (r := .a _) rfl Fx.ty9 rfl (by (repeat rw [upd_ne _ _ (by first | assumption | exact Ne.symm (by assumption))]); first | assumption | exact upd_same _ _ _) rfl rfl rfl rfl) rfl ?_
  refine LexK.r (g_lookup (r := .c (.a _)) (.str Fx.un9) rfl Fx.un80 Fx.ze83 rfl (by (repeat rw [upd_ne _ _ (by first | assumption | exact Ne.symm (by assumption))]); first | assumption | exact upd_same _ _ _) rfl rfl (by assumption) rfl rfl rfl) rfl ?_
  refine LexK.q (q_mvC rfl rfl) rfl rfl rfl ?_
  refine LexK.r (g_lookup (r := .c (.a _)) (.str Fx.un9) rfl Fx.un83 Fx.ze4 rfl (by (repeat rw [upd_ne _ _ (by first | assumption | exact Ne.symm (by assumption))]); first | assumption | exact upd_same _ _ _) rfl rfl ((hget x).trans (if_pos hm)) rfl rfl rfl) rfl ?_
  refine LexK.q (q_asC rfl rfl) rfl rfl rfl ?_
  refine LexK.nil (by kernel_rfl) ?_
  refine AW.ret ?_
  exact fin_x (x := .c _) (H) (.tmp rfl .nil) rfl (fun _ _ h => h) (⟨by simp [hasE, hm], rfl⟩)

set_option maxRecDepth 20000 in
theorem far1sfS (H : Heap) (b1 b2 k : Nat) (L : List (ByteArray × ByteArray)) (n x : ByteArray) (h1 : H b1 = some (.box [.bp k 0])) (h2 : H b2 = some (.box [.t (.v (.string n))])) (km : Nat) (es : List ME) (ck : Nat) (g : ByteArray → Option Nat) (G : GrAt ndS H k km es ck g L) (ki : Nat) (hg : g n = some ki) (hm : (n, x) ∉ L) : E.Spec Try.prog 53 [sC x, .a (.bp b1 0), .a (.bp b2 0)] H fun y H' => y = bX (hasE L n x) ∧ H' = H := by
  have hbox := G.box
  have hmap := G.map
  have hkm := G.kne
  have hgn := G.get n
  rw [hg] at hgn
  simp only [Option.map_some, Option.map_none] at hgn
  obtain ⟨es3, c3, h3, ok3, hget⟩ := G.inn n ki hg
  refine Spec.enter Try.func53 rfl ?_
  refine AW.wk (Wk.keep 13 [(0, .c (sC x)), (1, .c (.a (.bp b1 0))), (2, .c (.a (.bp b2 0)))] [] (H) rfl ⟨rfl, rfl, rfl, trivial⟩ trivial (fun _ _ h => h) rfl) ?_
  refine AW.seq ?_
  refine AW.reg ?_
  refine SeqK.q (q_asC rfl rfl) rfl rfl rfl ?_
  refine SeqK.nil ?_
  refine AW.seq ?_
  refine AW.draw Fx.mo ?_
  refine LexK.r (g_load (r := .a _) rfl Fx.ty54 rfl (by (repeat rw [upd_ne _ _ (by first | assumption | exact Ne.symm (by assumption))]); first | assumption | exact upd_same _ _ _) rfl rfl rfl rfl) rfl ?_
  refine LexK.q (q_nilH rfl rfl) rfl rfl rfl ?_
  refine LexK.q (q_fieldH _ rfl Fx.fl82_0 rfl rfl) rfl rfl rfl ?_
  refine LexK.r (g_load (r := .a _) rfl Fx.ty80 rfl (by (repeat rw [upd_ne _ _ (by first | assumption | exact Ne.symm (by assumption))]); first | assumption | exact upd_same _ _ _) rfl rfl rfl rfl) rfl ?_
  refine LexK.r (g_load (r := .a _) rfl Fx.ty9 rfl (by (repeat rw [upd_ne _ _ (by first | assumption | exact Ne.symm (by assumption))]); first | assumption | exact upd_same _ _ _) rfl rfl rfl rfl) rfl ?_
  refine LexK.r (g_lookup (r := .c (.a _)) (.str Fx.un9) rfl Fx.un80 Fx.ze83 rfl (by (repeat rw [upd_ne _ _ (by first | assumption | exact Ne.symm (by assumption))]); first | assumption | exact upd_same _ _ _) rfl rfl (by assumption) rfl rfl rfl) rfl ?_
  refine LexK.q (q_mvC rfl rfl) rfl rfl rfl ?_
  refine LexK.r (g_lookup (r := .c (.a _)) (.str Fx.un9) rfl Fx.un83 Fx.ze4 rfl (by (repeat rw [upd_ne _ _ (by first | assumption | exact Ne.symm (by assumption))]); first | assumption | exact upd_same _ _ _) rfl rfl ((hget x).trans (if_neg hm)) rfl rfl rfl) rfl ?_
  refine LexK.q (q_asC rfl rfl) rfl rfl rfl ?_
  refine LexK.nil (by kernel_rfl) ?_
  refine AW.ret ?_
  exact fin_x (x := .c _) (H) (.tmp rfl .nil) rfl (fun _ _ h => h) (⟨by simp [hasE, hm], rfl⟩)

theorem far1S (H : Heap) (b1 b2 k : Nat) (L : List (ByteArray × ByteArray)) (n x : ByteArray) (h1 : H b1 = some (.box [.bp k 0])) (h2 : H b2 = some (.box [.t (.v (.string n))])) (G : Gr ndS H k L) : E.Spec Try.prog 53 [sC x, .a (.bp b1 0), .a (.bp b2 0)] H fun y H' => y = bX (hasE L n x) ∧ H' = H := by
  obtain ⟨km, es, ck, g, G⟩ := G
  cases hg : g n with
  | none => exact far1nS H b1 b2 k L n x h1 h2 km es ck g G hg
  | some ki =>
    by_cases hm : (n, x) ∈ L
    · exact far1stS H b1 b2 k L n x h1 h2 km es ck g G ki hg hm
    · exact far1sfS H b1 b2 k L n x h1 h2 km es ck g G ki hg hm

set_option maxRecDepth 20000 in
theorem indexS (H : Heap) (l : List ByteArray) (f : FuncId) (cs : List A) (p : ByteArray → Bool) (hfn : fnB Try.prog f = true) (hp : ∀ x, E.Spec Try.prog f (sC x :: cs.map C.a) H fun y H' => y = bX (p x) ∧ H' = H) (hl : l.length ≤ 1000000) : E.Spec Try.prog 63 [sL .un l, .a (.fn f cs)] H fun y H' => (∃ j : Int, y = .c (iC j) ∧ -1 ≤ j ∧ decide (0 ≤ j) = l.any p) ∧ H' = H := by
  refine Spec.enter Try.func63 rfl ?_
  refine AW.wk (Wk.keep 19 [(0, .c (sL .un l)), (1, .c (.a (.fn f cs)))] [] (H) rfl ⟨rfl, rfl, trivial⟩ trivial (fun _ _ h => h) rfl) ?_
  refine AW.seq ?_
  refine AW.reg ?_
  refine SeqK.q (q_asC rfl rfl) rfl rfl rfl ?_
  refine SeqK.nil ?_
  refine AW.seq ?_
  refine AW.seq ?_
  refine AW.reg ?_
  refine SeqK.q (q_mvC rfl rfl) rfl rfl rfl ?_
  refine SeqK.q (q_len rfl Fx.un61 rfl) rfl rfl rfl ?_
  refine SeqK.q (q_mvC rfl rfl) rfl rfl rfl ?_
  refine SeqK.nil ?_
  refine AW.block ?_
  refine AW.loop (fun (i : Nat) s => (i ≤ l.length ∧ ∀ j (h : j < l.length), j < i → p l[j] = false) ∧ s = ⟨19, sp [(0, .c (sL .un l)), (1, .c (.a (.fn f cs))), (7, iX .i64 (((l.map strT).length : Nat) : Int)), (8, iX .i64 ((i : Nat) : Int))], lv [], H⟩) (fun i => l.length - i) 0 ⟨_, Wk.keep 19 [(0, .c (sL .un l)), (1, .c (.a (.fn f cs))), (7, iX .i64 (((l.map strT).length : Nat) : Int)), (8, iX .i64 ((((0 : Nat)) : Nat) : Int))] [] (H) rfl ⟨rfl, rfl, rfl, rfl, trivial⟩ trivial (fun _ _ h => h) rfl, ⟨Nat.zero_le _, fun _ _ h => absurd h (Nat.not_lt_zero _)⟩, rfl⟩ (fun i s hs => ?_)
  obtain ⟨⟨hi0, hpre⟩, rfl⟩ := hs
  refine AW.seq ?_
  refine AW.reg ?_
  refine SeqK.q (q_lss rfl rfl rfl) rfl rfl rfl ?_
  refine SeqK.nil ?_
  refine AW.seq ?_
  refine AW.condD rfl (fun h9 => ?_) (fun h9 => ?_)
  ·
    have hi : i < l.length := by simpa using h9
    refine AW.skip ?_
    refine AW.seq ?_
    refine AW.block ?_
    refine AW.seq ?_
    refine AW.reg ?_
    refine SeqK.q (q_mvC rfl rfl) rfl rfl rfl ?_
    refine SeqK.q (q_asC rfl rfl) rfl rfl rfl ?_
    refine SeqK.nil ?_
    refine AW.seq ?_
    refine AW.reg ?_
    refine SeqK.q (q_mvC rfl rfl) rfl rfl rfl ?_
    refine SeqK.q (q_mvC rfl rfl) rfl rfl rfl ?_
    refine SeqK.q (q_mvC rfl rfl) rfl rfl rfl ?_
    refine SeqK.q (q_index _ rfl Fx.sl61 rfl rfl (by omega) (idx_map (f := strT) hi)) rfl rfl rfl ?_
    refine SeqK.q (q_load (.a _) rfl Fx.ty9 rfl rfl rfl) rfl rfl rfl ?_
    refine SeqK.callV rfl rfl rfl rfl rfl hfn rfl (hp l[i]) (fun _ _ h => by rw [h.1]; rfl) (fun x16 H16 q16 => ?_)
    obtain ⟨rfl, hH16⟩ := q16
    replace hH16 := hH16.symm
    subst hH16
    refine SeqK.nil ?_
    refine AW.cond _ rfl (fun h16 => ?_) (fun h16 => ?_)
    ·
      refine AW.seq ?_
      refine AW.reg ?_
      refine SeqK.q (q_mvC rfl rfl) rfl rfl rfl ?_
      refine SeqK.q (q_asC rfl rfl) rfl rfl rfl ?_
      refine SeqK.nil ?_
      refine AW.ret ?_
      exact fin_x (x := .c _) (H) (.tmp rfl .nil) rfl (fun _ _ h => h) (⟨⟨_, rfl, by omega, by
        rw [decide_eq_true (by omega), List.any_eq_true.2 ⟨_, List.getElem_mem hi, h16⟩]⟩, rfl⟩)
    ·
      refine AW.skip ?_
      refine AW.reg ?_
      refine SeqK.q (q_add _ rfl rfl rfl (w64 (by omega) (by omega))) rfl rfl rfl ?_
      refine SeqK.q (q_mvC rfl rfl) rfl rfl rfl ?_
      refine SeqK.nil ?_
      exact ⟨i + 1, _, Wk.keep 19 [(0, .c (sL .un l)), (1, .c (.a (.fn f cs))), (7, iX .i64 (((l.map strT).length : Nat) : Int)), (8, iX .i64 (((i + 1) : Nat) : Int))] [] (H) rfl ⟨rfl, rfl, rfl, rfl, trivial⟩ trivial (fun _ _ h => h) rfl, by omega, ⟨hi, fun j h h9 => by
        rcases Nat.lt_or_ge j i with h10 | h10
        · exact hpre j h h10
        · obtain rfl : j = i := by omega
          exact h16⟩, rfl⟩
  ·
    refine AW.exit ?_
    refine eth_e ?_
    refine eth_e ?_
    refine exit_here ?_
    refine AW.seq ?_
    refine AW.reg ?_
    refine SeqK.q (q_asC rfl rfl) rfl rfl rfl ?_
    refine SeqK.nil ?_
    refine AW.ret ?_
    exact fin_x (x := .c _) (H) (.tmp rfl .nil) rfl (fun _ _ h => h) (⟨⟨_, rfl, by omega, by
      rw [anyTake hpre (by simp at h9; omega)]; rfl⟩, rfl⟩)

set_option maxRecDepth 20000 in
theorem containsS (H : Heap) (l : List ByteArray) (f : FuncId) (cs : List A) (p : ByteArray → Bool) (hfn : fnB Try.prog f = true) (hp : ∀ x, E.Spec Try.prog f (sC x :: cs.map C.a) H fun y H' => y = bX (p x) ∧ H' = H) (hl : l.length ≤ 1000000) : E.Spec Try.prog 52 [sL .un l, .a (.fn f cs)] H fun y H' => y = bX (l.any p) ∧ H' = H := by
  refine Spec.enter Try.func52 rfl ?_
  refine AW.wk (Wk.keep 9 [(0, .c (sL .un l)), (1, .c (.a (.fn f cs)))] [] (H) rfl ⟨rfl, rfl, trivial⟩ trivial (fun _ _ h => h) rfl) ?_
  refine AW.seq ?_
  refine AW.reg ?_
  refine SeqK.q (q_asC rfl rfl) rfl rfl rfl ?_
  refine SeqK.nil ?_
  refine AW.seq ?_
  refine AW.reg ?_
  refine SeqK.q (q_mvC rfl rfl) rfl rfl rfl ?_
  refine SeqK.q (q_mvC rfl rfl) rfl rfl rfl ?_
  refine SeqK.callE rfl rfl rfl rfl Fx.fn63 rfl (indexS _ l f cs p hfn hp hl) (fun _ _ ⟨⟨_, h, _⟩, _⟩ => by rw [h]; rfl) (fun x7 H7 q7 => ?_)
  obtain ⟨⟨j, rfl, hj, hja⟩, hH⟩ := q7
  subst hH
  refine SeqK.q (q_geq rfl rfl rfl) rfl rfl rfl ?_
  refine SeqK.q (q_asC rfl rfl) rfl rfl rfl ?_
  refine SeqK.nil ?_
  refine AW.ret ?_
  exact fin_x (x := .c _) (_) (.tmp rfl .nil) rfl (fun _ _ h => h) (⟨by rw [← hja], rfl⟩)

end Go.Proofs.Ytikcmjamioopbaa.W
/- Distances, level by level. Plain. -/
namespace Go.Proofs.Ytikcmjamioopbaa.W
open Go.RowKit E M
set_option linter.unusedVariables false
set_option linter.unusedSectionVars false
section
variable {α : Type} [DecidableEq α] {lt : α → α → Bool} {L : List (α × α)} {n : α}
/-- what the table holds for a node while the levels below d are done -/
def farV (L : List (α × α)) (n : α) (d : Nat) (a : α) : Option C := match dist L a n with
  | some j => if j < d then some (iC (j : Nat)) else none
  | none => none
def Lev (L : List (α × α)) (n : α) (d : Nat) (l : List α) : Prop := ∀ a, a ∈ l ↔ if d = 1 then a = n else dist L a n = some (d - 1)
theorem farV_cases (L : List (α × α)) (n : α) (d : Nat) (a : α) : (farV L n d a = none ∧ ∀ j, dist L a n = some j → d ≤ j) ∨ ∃ j : Nat, farV L n d a = some (iC j) ∧ 1 ≤ j ∧ j < d ∧ dist L a n = some j := by
  unfold farV
  cases h : dist L a n with
  | none => exact .inl ⟨rfl, fun _ h => by cases h⟩
  | some j =>
    by_cases hj : j < d
    · exact .inr ⟨j, by simp [hj], (dist_some.1 h).pos, hj, rfl⟩
    · exact .inl ⟨by simp [hj], fun i e => by injection e with e; omega⟩
theorem farV_one {a : α} : farV L n 1 a = none := by
  rcases farV_cases L n 1 a with ⟨h, _⟩ | ⟨j, _, h1, h2, _⟩
  · exact h
  · omega
theorem farV_succ {d : Nat} {S : List α} (h : ∀ a, a ∈ S ↔ dist L a n = some d) (a : α) : (if a ∈ S then some (iC (d : Nat)) else farV L n d a) = farV L n (d + 1) a := by
  by_cases ha : a ∈ S
  · rw [if_pos ha]; unfold farV; rw [(h a).1 ha]; simp
  · rw [if_neg ha]
    unfold farV
    cases e : dist L a n with
    | none => rfl
    | some j =>
      have : j ≠ d := fun e1 => ha ((h a).2 (by rw [e, e1]))
      by_cases h1 : j < d
      · simp [h1, show j < d + 1 by omega]
      · simp [h1, show ¬ j < d + 1 by omega]
theorem lev_start : Lev L n 1 [n] := fun a => by simp
theorem lev_edge {d : Nat} {l : List α} (hd : 1 ≤ d) (hl : Lev L n d l) {a : α} (hf : ∀ j, dist L a n = some j → d ≤ j) : (l.any fun x => hasE L a x) = true ↔ dist L a n = some d := by
  rw [List.any_eq_true]
  constructor
  · rintro ⟨x, hx, he⟩
    have he : (a, x) ∈ L := of_decide_eq_true he
    have hw : walkB L d a n = true := by
      have h1 := (hl x).1 hx
      obtain ⟨k, rfl⟩ : ∃ k, d = k + 1 := ⟨d - 1, by omega⟩
      refine walk_succ.2 ⟨x, he, ?_⟩
      by_cases e : k + 1 = 1
      · rw [if_pos e] at h1
        obtain rfl : k = 0 := by omega
        subst h1; simp [walkB]
      · rw [if_neg e] at h1; exact (dist_some.1 h1).walk
    cases h2 : dist L a n with
    | none => have := dist_none.1 h2 d hd; rw [hw] at this; cases this
    | some j =>
      have h3 := hf j h2
      rcases Nat.lt_or_ge d j with h4 | h4
      · have := (dist_some.1 h2).least d hd h4; rw [hw] at this; cases this
      · rw [show j = d by omega]
  · intro h
    rcases Nat.lt_or_ge 1 d with h1 | h1
    · obtain ⟨k, rfl⟩ : ∃ k, d = k + 2 := ⟨d - 2, by omega⟩
      obtain ⟨x, hx, h2⟩ := dist_next (lt := fun _ _ => false) h
      exact ⟨x, (hl x).2 (by rw [if_neg (by omega)]; exact h2), decide_eq_true (mem_succs.1 hx)⟩
    · obtain rfl : d = 1 := by omega
      exact ⟨n, (hl n).2 (by simp), decide_eq_true (dist_one.1 h)⟩
theorem lev_next {d : Nat} {l : List α} (hd : 1 ≤ d) (h : ∀ a, a ∈ l ↔ dist L a n = some d) : Lev L n (d + 1) l := fun a => by
  rw [h, if_neg (by omega)]; rfl
theorem lev_nil {d : Nat} (hd : 1 ≤ d) (hl : Lev L n d []) : ∀ a j, dist L a n = some j → j < d := by
  have h1 : d ≠ 1 := fun e => by have := (hl n).2 (by simp [e]); simp at this
  have key : ∀ j a, dist L a n = some j → ¬ d - 1 ≤ j := fun j => by
    induction j with
    | zero => intro a h; have := (dist_some.1 h).pos; omega
    | succ j ih =>
      intro a h h2
      by_cases e : j + 1 = d - 1
      · have := (hl a).2 (by rw [if_neg h1, ← e]; exact h)
        simp at this
      · rcases j with _ | j
        · have := (dist_some.1 h).pos
          omega
        · obtain ⟨x, _, h3⟩ := dist_next (lt := fun _ _ => false) h
          exact ih x h3 (by omega)
  intro a j h
  have := key j a h
  omega
theorem lev_bound {d : Nat} {l : List α} (hd : 1 ≤ d) (hl : Lev L n d l) (hn : l.length ≠ 0) : d ≤ L.length + 2 := by
  cases l with
  | nil => exact absurd rfl hn
  | cons a r =>
    have := (hl a).1 (by simp)
    by_cases e : d = 1
    · omega
    · rw [if_neg e] at this
      have := dist_le this
      omega
/-- the nodes that a level's walk over the map has found -/
structure FSeen (nd : Nd α) (es : List ME) (seen : List Nat) (P : α → Prop) (l : List α) : Prop where
  nodup : l.Nodup
  mem : ∀ a, a ∈ l ↔ (∃ m ∈ es, m.b ∈ seen ∧ m.k = nd.nv a) ∧ P a
theorem FSeen.no {nd : Nd α} {es : List ME} {ck : Nat} (ok : MOk nd.kk es ck) {seen : List Nat} {P : α → Prop} {l : List α} (h : FSeen nd es seen P l) {x : α} {mx : C} {mb : Nat} (hm : (⟨nd.nv x, mx, mb⟩ : ME) ∈ es) (hP : ¬ P x) : FSeen nd es (seen ++ [mb]) P l := by
  refine ⟨h.nodup, fun a => ?_⟩
  rw [h.mem]
  constructor
  · rintro ⟨⟨m, h1, h2, h3⟩, h4⟩; exact ⟨⟨m, h1, by simp [h2], h3⟩, h4⟩
  · rintro ⟨⟨m, h1, h2, h3⟩, h4⟩
    rcases List.mem_append.1 h2 with h2 | h2
    · exact ⟨⟨m, h1, h2, h3⟩, h4⟩
    · have h2 : m.b = mb := by simpa using h2
      have := same_born ok h1 hm h2
      subst this
      have := nd.inj h3
      subst this
      exact absurd h4 hP
theorem FSeen.yes {nd : Nd α} {es : List ME} {ck : Nat} (ok : MOk nd.kk es ck) {seen : List Nat} {P : α → Prop} {l : List α} (h : FSeen nd es seen P l) {x : α} {mx : C} {mb : Nat} (hm : (⟨nd.nv x, mx, mb⟩ : ME) ∈ es) (hn : mb ∉ seen) (hP : P x) : FSeen nd es (seen ++ [mb]) P (l ++ [x]) := by
  refine ⟨?_, fun a => ?_⟩
  · rw [List.nodup_append]
    refine ⟨h.nodup, by simp, fun a ha b hb e => ?_⟩
    simp at hb; subst hb; subst e
    obtain ⟨⟨m, h1, h2, h3⟩, _⟩ := (h.mem _).1 ha
    have := same_key ok h1 hm h3
    subst this; exact hn h2
  · rw [List.mem_append, h.mem]
    constructor
    · rintro (⟨⟨m, h1, h2, h3⟩, h4⟩ | hy)
      · exact ⟨⟨m, h1, by simp [h2], h3⟩, h4⟩
      · simp at hy; subst hy; exact ⟨⟨_, hm, by simp, rfl⟩, hP⟩
    · rintro ⟨⟨m, h1, h2, h3⟩, h4⟩
      rcases List.mem_append.1 h2 with h2 | h2
      · exact .inl ⟨⟨m, h1, h2, h3⟩, h4⟩
      · have h2 : m.b = mb := by simpa using h2
        have := same_born ok h1 hm h2
        subst this
        exact .inr (by simp [nd.inj h3])
/-- the table -/
structure FarAt (nd : Nd α) (V : α → Option C) (ef : List ME) (cf : Nat) : Prop where
  ok : MOk nd.kk ef cf
  get : ∀ a, mget (nd.nv a) ef = V a
theorem FarAt.set {nd : Nd α} {V : α → Option C} {ef : List ME} {cf : Nat} (h : FarAt nd V ef cf) (x : α) (v : C) : FarAt nd (fun a => if a = x then some v else V a) (mset (nd.nv x) v cf ef) (mclock (nd.nv x) ef cf) :=
  ⟨h.ok.set (nd.kok x), fun y => by
    rw [mget_mset (nd.kok y) (nd.kok x) h.ok.key, nd.keq, h.get]
    by_cases e : y = x <;> simp [e]⟩
theorem FarAt.of {nd : Nd α} {V V' : α → Option C} {ef : List ME} {cf : Nat} (h : FarAt nd V ef cf) (e : ∀ a, V a = V' a) : FarAt nd V' ef cf := ⟨h.ok, fun a => by rw [h.get, e]⟩
/-- .. while a level is written down -/
def farW (L : List (α × α)) (n : α) (d : Nat) (S : List α) (a : α) : Option C := if a ∈ S then some (iC (d : Nat)) else farV L n d a
theorem farW_nil {d : Nat} (a : α) : farV L n d a = farW L n d [] a := by simp [farW]
theorem farW_done {d : Nat} {S : List α} (h : ∀ a, a ∈ S ↔ dist L a n = some d) (a : α) : farW L n d S a = farV L n (d + 1) a := farV_succ h a
theorem FarAt.step {nd : Nd α} {d i : Nat} {S : List α} {ef : List ME} {cf : Nat} (hi : i < S.length) (h : FarAt nd (farW L n d (S.take i)) ef cf) : FarAt nd (farW L n d (S.take (i + 1))) (mset (nd.nv S[i]) (iC (d : Nat)) cf ef) (mclock (nd.nv S[i]) ef cf) := by
  refine (h.set S[i] (iC (d : Nat))).of fun a => ?_
  have hm : a ∈ S.take (i + 1) ↔ a ∈ S.take i ∨ a = S[i] := by
    rw [List.take_add_one, List.getElem?_eq_getElem hi]; simp only [List.mem_append, Option.toList, List.mem_singleton]
  unfold farW
  simp only [hm]
  by_cases e1 : a = S[i]
  · rw [if_pos e1, if_pos (.inr e1)]
  · rw [if_neg e1]; simp only [e1, or_false]
end
end Go.Proofs.Ytikcmjamioopbaa.W
namespace Go.Proofs.Ytikcmjamioopbaa.W
open Go.RowKit E M
set_option linter.unusedVariables false
set_option linter.unusedSimpArgs false
set_option linter.unusedSectionVars false

set_option maxRecDepth 20000 in
theorem farI (H : Heap) (k : Nat) (L : List (Int × Int)) (n : Int) (G : Gr ndI H k L) (hL : L.length ≤ 400000) : E.Spec Try.prog 42 [.a (.bp k 0), iC n] H fun x H' => ∃ kf ef cf, H kf = none ∧ x = .c (.a (.mp kf)) ∧ H' = upd H kf (some (.map ndI.kk ef cf)) ∧ FarAt ndI (fun a => (dist L a n).map fun d => iC (d : Nat)) ef cf := by
  have Gr0 := G
  obtain ⟨km, es, ck, g, G⟩ := G
  have hbox := G.box
  have hmap := G.map
  have hkm := G.kne
  refine Spec.enter Try.func42 rfl ?_
  refine AW.wk (Wk.keep 54 [(0, .c (.a (.bp k 0))), (1, .c (iC n))] [] (H) rfl ⟨rfl, rfl, trivial⟩ trivial (fun _ _ h => h) rfl) ?_
  refine AW.seq ?_
  refine AW.reg ?_
  refine SeqK.newBox (r := [_]) rfl rfl rfl rfl rfl rfl (fun k2 hk2 => ?_)
  refine SeqK.q (q_asC rfl rfl) rfl rfl rfl ?_
  refine SeqK.nil ?_
  refine AW.seq ?_
  have n2 : km ≠ k2 := fun e => by rw [← e, hmap] at hk2; cases hk2
  have n2b : k ≠ k2 := fun e => by rw [← e, hbox] at hk2; cases hk2
  refine AW.reg ?_
  refine SeqK.newMap (.int .i64) rfl rfl rfl rfl (fun k12 hk12 => ?_)
  refine SeqK.q (q_asC rfl rfl) rfl rfl rfl ?_
  refine SeqK.nil ?_
  refine AW.seq ?_
  have n212 : k2 ≠ k12 := fun e => by rw [← e, upd_same] at hk12; cases hk12
  have n12 : km ≠ k12 := fun e => by rw [← e, upd_ne _ _ n2, hmap] at hk12; cases hk12
  have n12b : k ≠ k12 := fun e => by rw [← e, upd_ne _ _ n2b, hbox] at hk12; cases hk12
  refine AW.reg ?_
  refine SeqK.q (q_mvC rfl rfl) rfl rfl rfl ?_
  refine SeqK.q (q_buildSlice _ rfl Fx.el30 rfl (by decide) rfl) rfl rfl rfl ?_
  refine SeqK.q (q_asC rfl rfl) rfl rfl rfl ?_
  refine SeqK.nil ?_
  refine AW.seq ?_
  refine AW.seq ?_
  refine AW.reg ?_
  refine SeqK.q (q_asC rfl rfl) rfl rfl rfl ?_
  refine SeqK.nil ?_
  refine AW.block ?_
  refine AW.xw 6 rfl XW.un ?_
  refine AW.loop (fun (d : Nat) s => ∃ (lw : List Int) (ef : List ME) (cf : Nat), (1 ≤ d ∧ d ≤ L.length + 3 ∧ lw.length ≤ L.length + 1 ∧ Lev L n d lw ∧ FarAt ndI (farV L n d) ef cf) ∧ s = ⟨54, sp [(2, .c (.a (.bp k2 0))), (5, .c (.a (.mp k12))), (7, iX .i64 ((d : Nat) : Int)), (6, .c (iL .un lw))], lv [], upd (upd H k2 (some (.box [.bp k 0]))) k12 (some (.map ndI.kk ef cf))⟩) (fun d => L.length + 4 - d) 1 ⟨_, Wk.keep 54 [(2, .c (.a (.bp k2 0))), (5, .c (.a (.mp k12))), (7, iX .i64 ((((1 : Nat)) : Nat) : Int)), (6, .c (iL .un ([n])))] [] (upd (upd H k2 (some (.box [.bp k 0]))) k12 (some (.map ndI.kk ([]) (0)))) rfl ⟨rfl, rfl, rfl, rfl, trivial⟩ trivial (fun _ _ h => h) rfl, [n], [], 0, ⟨by omega, by omega, by simp, lev_start, ⟨.nil, fun a => by rw [farV_one]; rfl⟩⟩, rfl⟩ (fun d s hs => ?_)
  obtain ⟨lw, ef, cf, ⟨hd, hd2, hll, hlv, hF⟩, rfl⟩ := hs
  refine AW.seq ?_
  refine AW.seq ?_
  refine AW.reg ?_
  refine SeqK.q (q_mvC rfl rfl) rfl rfl rfl ?_
  refine SeqK.q (q_len rfl Fx.un30 rfl) rfl rfl rfl ?_
  refine SeqK.q (q_gtr rfl rfl rfl) rfl rfl rfl ?_
  refine SeqK.nil ?_
  refine AW.condD rfl (fun h17 => ?_) (fun h17 => ?_)
  ·
    have hlv0 : lw.length ≠ 0 := by simp at h17; omega
    have hdb := lev_bound hd hlv hlv0
    refine AW.skip ?_
    refine AW.seq ?_
    refine AW.block ?_
    refine AW.seq ?_
    refine AW.reg ?_
    refine SeqK.q (q_asC rfl rfl) rfl rfl rfl ?_
    refine SeqK.nil ?_
    refine AW.seq ?_
    refine AW.seq ?_
    refine AW.tip 8 3 1 rfl (fun kt0 hkt0 => ?_)
    have ns1 : km ≠ kt0 := fun e => by subst e; rw [upd_ne _ _ n12, upd_ne _ _ n2, hmap] at hkt0; cases hkt0
    have ns2 : k2 ≠ kt0 := fun e => by subst e; rw [upd_ne _ _ n212, upd_same] at hkt0; cases hkt0
    have ns3 : k12 ≠ kt0 := fun e => by subst e; rw [upd_same] at hkt0; cases hkt0
    have ns4 : k ≠ kt0 := fun e => by subst e; rw [upd_ne _ _ n12b, upd_ne _ _ n2b, hbox] at hkt0; cases hkt0
    refine AW.reg ?_
    refine SeqK.r (g_load (r := .a _) rfl Fx.ty23 rfl (by (repeat rw [upd_ne _ _ (by first | assumption | exact Ne.symm (by assumption))]); first | assumption | exact upd_same _ _ _) rfl rfl rfl rfl) rfl ?_
    refine SeqK.q (q_nilH rfl rfl) rfl rfl rfl ?_
    refine SeqK.q (q_fieldH _ rfl Fx.fl74_0 rfl rfl) rfl rfl rfl ?_
    refine SeqK.r (g_load (r := .a _) rfl Fx.ty72 rfl (by (repeat rw [upd_ne _ _ (by first | assumption | exact Ne.symm (by assumption))]); first | assumption | exact upd_same _ _ _) rfl rfl rfl rfl) rfl ?_
    refine SeqK.r (b_range rfl rfl Fx.un72 rfl (by (repeat rw [upd_ne _ _ (by first | assumption | exact Ne.symm (by assumption))]); first | assumption | exact upd_same _ _ _) rfl rfl) rfl ?_
    refine SeqK.nil ?_
    refine AW.block ?_
    refine AW.loop (fun (c : Nat) s => ∃ (kt : Nat) (nx : List Int) (seen : List Nat) (zs : List (List E.T)), (zs = nx.map i64T ∧ (upd (upd H k2 (some (.box [.bp k 0]))) k12 (some (.map ndI.kk ef cf))) kt = none ∧ FSeen ndI es seen (fun a => dist L a n = some d) nx ∧ c = (es.filter fun m => !seen.contains m.b).length) ∧ s = ⟨54, sp [(2, .c (.a (.bp k2 0))), (5, .c (.a (.mp k12))), (7, iX .i64 ((d : Nat) : Int)), (6, .c (iL .un lw)), (8, .c (.a (.ts kt .ne 1 zs))), (24, .lp 24 0)], lv [(24, .iter km ck seen ck)], upd (upd (upd H k2 (some (.box [.bp k 0]))) k12 (some (.map ndI.kk ef cf))) kt (some (.tip 3 1 zs.length))⟩) (fun c => c) _ ⟨_, Wk.keep 54 [(2, .c (.a (.bp k2 0))), (5, .c (.a (.mp k12))), (7, iX .i64 ((d : Nat) : Int)), (6, .c (iL .un lw)), (8, .c (.a (.ts (kt0) .ne 1 ([])))), (24, .lp 24 0)] [(24, .iter km ck ([]) ck)] (upd (upd (upd H k2 (some (.box [.bp k 0]))) k12 (some (.map ndI.kk ef cf))) (kt0) (some (.tip 3 1 ([]).length))) rfl ⟨rfl, rfl, rfl, rfl, rfl, rfl, trivial⟩ ⟨rfl, trivial⟩ (fun _ _ h => h) rfl, kt0, [], [], [], ⟨rfl, hkt0, ⟨by simp, fun a => by simp⟩, rfl⟩, rfl⟩ (fun c s hs => ?_)
    obtain ⟨kt, nx, seen, zs, ⟨hzs, hkt, hS, hc⟩, rfl⟩ := hs
    have nt1 : km ≠ kt := fun e => by subst e; rw [upd_ne _ _ n12, upd_ne _ _ n2, hmap] at hkt; cases hkt
    have nt2 : k2 ≠ kt := fun e => by subst e; rw [upd_ne _ _ n212, upd_same] at hkt; cases hkt
    have nt3 : k12 ≠ kt := fun e => by subst e; rw [upd_same] at hkt; cases hkt
    have nt4 : k ≠ kt := fun e => by subst e; rw [upd_ne _ _ n12b, upd_ne _ _ n2b, hbox] at hkt; cases hkt
    refine AW.seq ?_
    refine AW.reg ?_
    refine SeqK.next rfl rfl rfl rfl rfl rfl (by (repeat rw [upd_ne _ _ (by first | assumption | exact Ne.symm (by assumption))]); first | assumption | exact upd_same _ _ _) (fun m hm => G.ok.born m hm) (Nat.le_refl _) (fun hd25 => ?_) (fun m25 hm25 hn25 => ?_)
    ·
      refine SeqK.q (q_extract _ rfl rfl rfl) rfl rfl rfl ?_
      refine SeqK.nil ?_
      refine AW.seq ?_
      refine AW.condF rfl ?_
      refine AW.exit ?_
      refine eth_e ?_
      refine eth_e ?_
      refine exit_here ?_
      refine AW.seq ?_
      refine AW.seq ?_
      subst hzs
      refine AW.xw 8 rfl XW.ts ?_
      refine AW.xw 8 rfl XW.un ?_
      have hnxl : nx.length ≤ L.length := by
        have h1 := len_sub nx (L.map fun e => e.1) hS.nodup fun a ha => by
          obtain ⟨⟨m, h1, h2, h3⟩, _⟩ := (hS.mem a).1 ha
          obtain ⟨b, hb⟩ := (G.outer a).1 ⟨m, h1, h3⟩
          exact List.mem_map.2 ⟨_, hb, rfl⟩
        simpa using h1
      have hnx : ∀ a, a ∈ nx ↔ dist L a n = some d := fun a => by
        rw [hS.mem]
        refine ⟨fun h => h.2, fun h => ⟨?_, h⟩⟩
        have h1 : ∃ b, (a, b) ∈ L := by
          obtain ⟨x, h2, _⟩ := walk_succ.1 (show walkB L (d - 1 + 1) a n = true by rw [show d - 1 + 1 = d by omega]; exact (dist_some.1 h).walk)
          exact ⟨x, h2⟩
        obtain ⟨m, h2, h3⟩ := (G.outer a).2 h1
        exact ⟨m, h2, hd25 m h2, h3⟩
      refine AW.reg ?_
      refine SeqK.q (q_mvC rfl rfl) rfl rfl rfl ?_
      refine SeqK.q (q_len rfl Fx.un30 rfl) rfl rfl rfl ?_
      refine SeqK.q (q_mvC rfl rfl) rfl rfl rfl ?_
      refine SeqK.nil ?_
      refine AW.block ?_
      refine AW.loop (fun (i : Nat) s => ∃ (ef2 : List ME) (cf2 : Nat), (i ≤ nx.length ∧ FarAt ndI (farW L n d (nx.take i)) ef2 cf2) ∧ s = ⟨54, sp [(2, .c (.a (.bp k2 0))), (5, .c (.a (.mp k12))), (7, iX .i64 ((d : Nat) : Int)), (8, .c (iL .un nx)), (42, .c (iL .un nx)), (43, iX .i64 (((nx.map i64T).length : Nat) : Int)), (44, iX .i64 ((i : Nat) : Int))], lv [], upd (upd H k2 (some (.box [.bp k 0]))) k12 (some (.map ndI.kk ef2 cf2))⟩) (fun i => nx.length - i) 0 ⟨_, Wk.keep 54 [(2, .c (.a (.bp k2 0))), (5, .c (.a (.mp k12))), (7, iX .i64 ((d : Nat) : Int)), (8, .c (iL .un nx)), (42, .c (iL .un nx)), (43, iX .i64 (((nx.map i64T).length : Nat) : Int)), (44, iX .i64 ((((0 : Nat)) : Nat) : Int))] [] (upd (upd H k2 (some (.box [.bp k 0]))) k12 (some (.map ndI.kk (ef) (cf)))) rfl ⟨rfl, rfl, rfl, rfl, rfl, rfl, rfl, trivial⟩ trivial (fun j o h => upd_sub hkt j o h) rfl, ef, cf, ⟨Nat.zero_le _, hF.of fun a => farW_nil a⟩, rfl⟩ (fun i s hs => ?_)
      obtain ⟨ef2, cf2, ⟨hi0, hF2⟩, rfl⟩ := hs
      refine AW.seq ?_
      refine AW.reg ?_
      refine SeqK.q (q_lss rfl rfl rfl) rfl rfl rfl ?_
      refine SeqK.nil ?_
      refine AW.seq ?_
      refine AW.condD rfl (fun h45 => ?_) (fun h45 => ?_)
      ·
        have hi : i < nx.length := by simpa using h45
        refine AW.skip ?_
        refine AW.seq ?_
        refine AW.block ?_
        refine AW.seq ?_
        refine AW.reg ?_
        refine SeqK.q (q_index _ rfl Fx.sl30 rfl rfl (by omega) (idx_map (f := i64T) hi)) rfl rfl rfl ?_
        refine SeqK.q (q_load (.a _) rfl Fx.ty3 rfl rfl rfl) rfl rfl rfl ?_
        refine SeqK.q (q_asC rfl rfl) rfl rfl rfl ?_
        refine SeqK.nil ?_
        refine AW.reg ?_
        refine SeqK.q (q_mvC rfl rfl) rfl rfl rfl ?_
        refine SeqK.q (q_mvC rfl rfl) rfl rfl rfl ?_
        refine SeqK.q (q_mvC rfl rfl) rfl rfl rfl ?_
        refine SeqK.r (g_mapUpdate (.int Fx.un3) rfl rfl Fx.un78 rfl (by (repeat rw [upd_ne _ _ (by first | assumption | exact Ne.symm (by assumption))]); first | assumption | exact upd_same _ _ _) rfl rfl rfl) rfl ?_
        refine SeqK.nil ?_
        refine AW.reg ?_
        refine SeqK.q (q_add _ rfl rfl rfl (w64 (by omega) (by omega))) rfl rfl rfl ?_
        refine SeqK.q (q_mvC rfl rfl) rfl rfl rfl ?_
        refine SeqK.nil ?_
        exact ⟨i + 1, _, Wk.keep 54 [(2, .c (.a (.bp k2 0))), (5, .c (.a (.mp k12))), (7, iX .i64 ((d : Nat) : Int)), (8, .c (iL .un nx)), (42, .c (iL .un nx)), (43, iX .i64 (((nx.map i64T).length : Nat) : Int)), (44, iX .i64 (((i + 1) : Nat) : Int))] [] (upd (upd H k2 (some (.box [.bp k 0]))) k12 (some (.map ndI.kk ((mset (ndI.nv nx[i]) (iC (d : Nat)) cf2 ef2)) ((mclock (ndI.nv nx[i]) ef2 cf2))))) rfl ⟨rfl, rfl, rfl, rfl, rfl, rfl, rfl, trivial⟩ trivial (fun j o h => by show upd (upd _ k12 _) k12 _ j = _; rw [upd_upd]; exact h) rfl, by omega, (mset (ndI.nv nx[i]) (iC (d : Nat)) cf2 ef2), (mclock (ndI.nv nx[i]) ef2 cf2), ⟨hi, hF2.step hi⟩, rfl⟩
      ·
        refine AW.exit ?_
        refine eth_e ?_
        refine eth_e ?_
        refine exit_here ?_
        obtain rfl : i = nx.length := by simp at h45; omega
        rw [List.take_length] at hF2
        refine AW.reg ?_
        refine SeqK.q (q_mvC rfl rfl) rfl rfl rfl ?_
        refine SeqK.q (q_asC rfl rfl) rfl rfl rfl ?_
        refine SeqK.nil ?_
        refine AW.reg ?_
        refine SeqK.q (q_mvC rfl rfl) rfl rfl rfl ?_
        refine SeqK.q (q_add _ rfl rfl rfl (w64 (by omega) (by omega))) rfl rfl rfl ?_
        refine SeqK.q (q_asC rfl rfl) rfl rfl rfl ?_
        refine SeqK.nil ?_
        exact ⟨d + 1, _, Wk.keep 54 [(2, .c (.a (.bp k2 0))), (5, .c (.a (.mp k12))), (7, iX .i64 (((d + 1) : Nat) : Int)), (6, .c (iL .un (nx)))] [] (upd (upd H k2 (some (.box [.bp k 0]))) k12 (some (.map ndI.kk (ef2) (cf2)))) rfl ⟨rfl, rfl, rfl, rfl, trivial⟩ trivial (fun _ _ h => h) rfl, by omega, nx, ef2, cf2, ⟨by omega, by omega, by omega, lev_next hd hnx, hF2.of fun a => farW_done hnx a⟩, rfl⟩
    ·
      obtain ⟨mk, mx, mb⟩ := m25
      obtain ⟨a9, rfl⟩ := ndI.sur mk (G.ok.key _ hm25)
      have ha9 : ∃ b, (a9, b) ∈ L := (G.outer a9).1 ⟨_, hm25, rfl⟩
      refine SeqK.q (q_extract _ rfl rfl rfl) rfl rfl rfl ?_
      refine SeqK.nil ?_
      refine AW.seq ?_
      refine AW.condT rfl ?_
      refine AW.skip ?_
      refine AW.block ?_
      refine AW.seq ?_
      refine AW.reg ?_
      refine SeqK.r (b_entry rfl rfl rfl (by (repeat rw [upd_ne _ _ (by first | assumption | exact Ne.symm (by assumption))]); first | assumption | exact upd_same _ _ _) (by assumption) rfl rfl) rfl ?_
      refine SeqK.q (q_extract _ rfl rfl rfl) rfl rfl rfl ?_
      refine SeqK.newAlloc (r := [_]) rfl rfl rfl Fx.ze3 rfl rfl rfl (fun k9 hk9 => ?_)
      refine SeqK.r (g_store rfl rfl Fx.ty3 rfl rfl (by (repeat rw [upd_ne _ _ (by first | assumption | exact Ne.symm (by assumption))]); first | assumption | exact upd_same _ _ _) rfl rfl rfl) rfl ?_
      refine SeqK.nil ?_
      refine AW.seq ?_
      rcases farV_cases L n d a9 with ⟨hv9, hj9⟩ | ⟨j9, hv9, hj91, hj92, hj93⟩
      ·
        refine AW.wk (Wk.keep 54 [(2, .c (.a (.bp k2 0))), (5, .c (.a (.mp k12))), (6, .c (iL .un lw)), (7, iX .i64 ((d : Nat) : Int)), (8, .c (.a (.ts kt .ne 1 zs))), (9, .c (.a (.bp k9 0))), (24, .lp 24 0)] [(24, .iter km ck (seen ++ [mb]) ck)] (upd (upd (upd (upd H k2 (some (.box [.bp k 0]))) k12 (some (.map ndI.kk ef cf))) kt (some (.tip 3 1 zs.length))) k9 (some (.box [.t (.v (.int .i64 a9))]))) rfl ⟨rfl, rfl, rfl, rfl, rfl, rfl, rfl, trivial⟩ ⟨rfl, trivial⟩ (fun j o h => by show upd (upd _ k9 _) k9 _ j = _; rw [upd_upd]; exact h) rfl) ?_
        obtain ⟨n9t, hk9b⟩ := upd_lt hk9
        obtain ⟨n912, hk9c⟩ := upd_lt hk9b
        obtain ⟨n92, hk9d⟩ := upd_lt hk9c
        have hb9 : upd (upd (upd (upd H k2 (some (.box [.bp k 0]))) k12 (some (.map ndI.kk ef cf))) kt (some (.tip 3 1 zs.length))) k9 (some (.box [.t (.v (.int .i64 a9))])) k9 = some (.box [.t (.v (.int .i64 a9))]) := upd_same _ _ _
        have hb2 : upd (upd (upd (upd H k2 (some (.box [.bp k 0]))) k12 (some (.map ndI.kk ef cf))) kt (some (.tip 3 1 zs.length))) k9 (some (.box [.t (.v (.int .i64 a9))])) k2 = some (.box [.bp k 0]) := by rw [upd_ne _ _ n92.symm, upd_ne _ _ nt2, upd_ne _ _ n212, upd_same]
        have G9 : Gr ndI (upd (upd (upd (upd H k2 (some (.box [.bp k 0]))) k12 (some (.map ndI.kk ef cf))) kt (some (.tip 3 1 zs.length))) k9 (some (.box [.t (.v (.int .i64 a9))]))) k L := Gr0.sub (fun j o h => upd_sub hk9 j o (upd_sub hkt j o (upd_sub hk12 j o (upd_sub hk2 j o h))))
        have hnxl : nx.length ≤ L.length := by
          have h1 := len_sub nx (L.map fun e => e.1) hS.nodup fun a ha => by
            obtain ⟨⟨m, h1, h2, h3⟩, _⟩ := (hS.mem a).1 ha
            obtain ⟨b, hb⟩ := (G.outer a).1 ⟨m, h1, h3⟩
            exact List.mem_map.2 ⟨_, hb, rfl⟩
          simpa using h1
        refine AW.reg ?_
        refine SeqK.q (q_mvC rfl rfl) rfl rfl rfl ?_
        refine SeqK.r (g_load (r := .a _) rfl Fx.ty3 rfl (by (repeat rw [upd_ne _ _ (by first | assumption | exact Ne.symm (by assumption))]); first | assumption | exact upd_same _ _ _) rfl rfl rfl rfl) rfl ?_
        refine SeqK.r (g_lookup (r := .c (.a _)) (.int Fx.un3) rfl Fx.un78 Fx.ze3 rfl (by (repeat rw [upd_ne _ _ (by first | assumption | exact Ne.symm (by assumption))]); first | assumption | exact upd_same _ _ _) rfl rfl ((hF.get a9).trans hv9) rfl rfl rfl) rfl ?_
        refine SeqK.q (q_eql rfl rfl rfl) rfl rfl rfl ?_
        refine SeqK.qD (q_mvC rfl rfl) rfl rfl rfl (fun g33 => ?_) (fun g33 => ?_)
        ·
          refine SeqK.on (q_mvC rfl rfl) rfl rfl rfl rfl rfl ?_
          refine SeqK.on (q_mkFn rfl rfl rfl) rfl rfl rfl rfl rfl ?_
          refine SeqK.callOn rfl rfl rfl rfl rfl rfl Fx.fn50 rfl (containsI _ lw 51 [.bp k2 0, .bp k9 0] (fun x => hasE L a9 x) Fx.fn51 (fun x => far1I _ k2 k9 k L a9 x hb2 hb9 G9) (by omega)) (fun _ _ h => by rw [h.1]; rfl) (fun x36 H36 q36 => ?_)
          obtain ⟨rfl, hH⟩ := q36
          subst hH
          refine SeqK.q (q_pkT rfl rfl rfl) rfl rfl rfl ?_
          refine SeqK.nil ?_
          refine AW.cond _ rfl (fun h37 => ?_) (fun h37 => ?_)
          ·
            have hP : dist L a9 n = some d := (lev_edge hd hlv hj9).1 h37
            rw [upd_swap _ _ _ n9t.symm]
            have hkt0 : upd (upd (upd H k2 (some (.box [.bp k 0]))) k12 (some (.map ndI.kk ef cf))) k9 (some (.box [.t (.v (.int .i64 a9))])) kt = none := by rw [upd_ne _ _ n9t.symm]; exact hkt
            refine AW.reg ?_
            refine SeqK.q (q_mvC rfl rfl) rfl rfl rfl ?_
            refine SeqK.r (g_load (r := .a _) rfl Fx.ty3 rfl (by (repeat rw [upd_ne _ _ (by first | assumption | exact Ne.symm (by assumption))]); first | assumption | exact upd_same _ _ _) rfl rfl rfl rfl) rfl ?_
            refine SeqK.q (q_buildSlice _ rfl Fx.el30 rfl (by decide) rfl) rfl rfl rfl ?_
            refine SeqK.app1 rfl (hkt0) rfl Fx.el30 rfl rfl (by rw [hzs]; simp; omega) rfl rfl (fun k41 hk41 => ?_)
            refine SeqK.q (q_asC rfl rfl) rfl rfl rfl ?_
            refine SeqK.nil ?_
            exact ⟨((es.filter fun x => !(seen ++ [mb]).contains x.b).length), _, Wk.keep 54 [(2, .c (.a (.bp k2 0))), (5, .c (.a (.mp k12))), (7, iX .i64 ((d : Nat) : Int)), (6, .c (iL .un lw)), (8, .c (.a (.ts (k41) .ne 1 (zs ++ [i64T a9])))), (24, .lp 24 0)] [(24, .iter km ck (seen ++ [mb]) ck)] (upd (upd (upd H k2 (some (.box [.bp k 0]))) k12 (some (.map ndI.kk ef cf))) (k41) (some (.tip 3 1 (zs ++ [i64T a9]).length))) rfl ⟨rfl, rfl, rfl, rfl, rfl, rfl, trivial⟩ ⟨rfl, trivial⟩ (fun j o h => upd_mid hk9b j o h) rfl, by rw [hc]; exact cnt_less (m := ⟨_, _, mb⟩) (List.Sublist.refl _) hm25 hn25, k41, nx ++ [a9], seen ++ [mb], zs ++ [i64T a9], ⟨by rw [hzs]; simp, (upd_lt hk41).2, hS.yes G.ok hm25 hn25 hP, rfl⟩, rfl⟩
          ·
            have hP : ¬ dist L a9 n = some d := fun e => by rw [(lev_edge hd hlv hj9).2 e] at h37; cases h37
            refine AW.skip ?_
            exact ⟨((es.filter fun x => !(seen ++ [mb]).contains x.b).length), _, Wk.keep 54 [(2, .c (.a (.bp k2 0))), (5, .c (.a (.mp k12))), (7, iX .i64 ((d : Nat) : Int)), (6, .c (iL .un lw)), (8, .c (.a (.ts (kt) .ne 1 (zs)))), (24, .lp 24 0)] [(24, .iter km ck (seen ++ [mb]) ck)] (upd (upd (upd H k2 (some (.box [.bp k 0]))) k12 (some (.map ndI.kk ef cf))) (kt) (some (.tip 3 1 (zs).length))) rfl ⟨rfl, rfl, rfl, rfl, rfl, rfl, trivial⟩ ⟨rfl, trivial⟩ (fun j o h => upd_sub hk9 j o h) rfl, by rw [hc]; exact cnt_less (m := ⟨_, _, mb⟩) (List.Sublist.refl _) hm25 hn25, kt, nx, seen ++ [mb], zs, ⟨hzs, hkt, hS.no G.ok hm25 hP, rfl⟩, rfl⟩
        ·
          exact absurd rfl g33
      ·
        refine AW.wk (Wk.keep 54 [(2, .c (.a (.bp k2 0))), (5, .c (.a (.mp k12))), (6, .c (iL .un lw)), (7, iX .i64 ((d : Nat) : Int)), (8, .c (.a (.ts kt .ne 1 zs))), (9, .c (.a (.bp k9 0))), (24, .lp 24 0)] [(24, .iter km ck (seen ++ [mb]) ck)] (upd (upd (upd (upd H k2 (some (.box [.bp k 0]))) k12 (some (.map ndI.kk ef cf))) kt (some (.tip 3 1 zs.length))) k9 (some (.box [.t (.v (.int .i64 a9))]))) rfl ⟨rfl, rfl, rfl, rfl, rfl, rfl, rfl, trivial⟩ ⟨rfl, trivial⟩ (fun j o h => by show upd (upd _ k9 _) k9 _ j = _; rw [upd_upd]; exact h) rfl) ?_
        obtain ⟨n9t, hk9b⟩ := upd_lt hk9
        obtain ⟨n912, hk9c⟩ := upd_lt hk9b
        obtain ⟨n92, hk9d⟩ := upd_lt hk9c
        have hb9 : upd (upd (upd (upd H k2 (some (.box [.bp k 0]))) k12 (some (.map ndI.kk ef cf))) kt (some (.tip 3 1 zs.length))) k9 (some (.box [.t (.v (.int .i64 a9))])) k9 = some (.box [.t (.v (.int .i64 a9))]) := upd_same _ _ _
        have hb2 : upd (upd (upd (upd H k2 (some (.box [.bp k 0]))) k12 (some (.map ndI.kk ef cf))) kt (some (.tip 3 1 zs.length))) k9 (some (.box [.t (.v (.int .i64 a9))])) k2 = some (.box [.bp k 0]) := by rw [upd_ne _ _ n92.symm, upd_ne _ _ nt2, upd_ne _ _ n212, upd_same]
        have G9 : Gr ndI (upd (upd (upd (upd H k2 (some (.box [.bp k 0]))) k12 (some (.map ndI.kk ef cf))) kt (some (.tip 3 1 zs.length))) k9 (some (.box [.t (.v (.int .i64 a9))]))) k L := Gr0.sub (fun j o h => upd_sub hk9 j o (upd_sub hkt j o (upd_sub hk12 j o (upd_sub hk2 j o h))))
        have hnxl : nx.length ≤ L.length := by
          have h1 := len_sub nx (L.map fun e => e.1) hS.nodup fun a ha => by
            obtain ⟨⟨m, h1, h2, h3⟩, _⟩ := (hS.mem a).1 ha
            obtain ⟨b, hb⟩ := (G.outer a).1 ⟨m, h1, h3⟩
            exact List.mem_map.2 ⟨_, hb, rfl⟩
          simpa using h1
        refine AW.reg ?_
        refine SeqK.q (q_mvC rfl rfl) rfl rfl rfl ?_
        refine SeqK.r (g_load (r := .a _) rfl Fx.ty3 rfl (by (repeat rw [upd_ne _ _ (by first | assumption | exact Ne.symm (by assumption))]); first | assumption | exact upd_same _ _ _) rfl rfl rfl rfl) rfl ?_
        refine SeqK.r (g_lookup (r := .c (.a _)) (.int Fx.un3) rfl Fx.un78 Fx.ze3 rfl (by (repeat rw [upd_ne _ _ (by first | assumption | exact Ne.symm (by assumption))]); first | assumption | exact upd_same _ _ _) rfl rfl ((hF.get a9).trans hv9) rfl rfl rfl) rfl ?_
        refine SeqK.q (q_eql rfl rfl rfl) rfl rfl rfl ?_
        refine SeqK.qD (q_mvC rfl rfl) rfl rfl rfl (fun g33 => ?_) (fun g33 => ?_)
        ·
          exact absurd g33 (by omega)
        ·
          have hP : ¬ dist L a9 n = some d := fun e => by rw [hj93] at e; injection e; omega
          refine SeqK.off rfl rfl rfl rfl rfl rfl ?_
          refine SeqK.off rfl rfl rfl rfl rfl rfl ?_
          refine SeqK.off rfl rfl rfl rfl rfl rfl ?_
          refine SeqK.q (q_pkF rfl rfl rfl) rfl rfl rfl ?_
          refine SeqK.nil ?_
          refine AW.condF rfl ?_
          refine AW.skip ?_
          exact ⟨((es.filter fun x => !(seen ++ [mb]).contains x.b).length), _, Wk.keep 54 [(2, .c (.a (.bp k2 0))), (5, .c (.a (.mp k12))), (7, iX .i64 ((d : Nat) : Int)), (6, .c (iL .un lw)), (8, .c (.a (.ts (kt) .ne 1 (zs)))), (24, .lp 24 0)] [(24, .iter km ck (seen ++ [mb]) ck)] (upd (upd (upd H k2 (some (.box [.bp k 0]))) k12 (some (.map ndI.kk ef cf))) (kt) (some (.tip 3 1 (zs).length))) rfl ⟨rfl, rfl, rfl, rfl, rfl, rfl, trivial⟩ ⟨rfl, trivial⟩ (fun j o h => upd_sub hk9 j o h) rfl, by rw [hc]; exact cnt_less (m := ⟨_, _, mb⟩) (List.Sublist.refl _) hm25 hn25, kt, nx, seen ++ [mb], zs, ⟨hzs, hkt, hS.no G.ok hm25 hP, rfl⟩, rfl⟩
  ·
    refine AW.exit ?_
    refine eth_e ?_
    refine eth_e ?_
    refine exit_here ?_
    refine AW.seq ?_
    refine AW.reg ?_
    refine SeqK.q (q_mvC rfl rfl) rfl rfl rfl ?_
    refine SeqK.q (q_asC rfl rfl) rfl rfl rfl ?_
    refine SeqK.nil ?_
    refine AW.ret ?_
    obtain rfl : lw = [] := by simp at h17; exact h17
    exact fin_x (x := .c _) (upd H k12 (some (.map ndI.kk ef cf))) (.tmp rfl .nil) rfl (fun j o h => upd_mid hk2 j o h) (⟨k12, ef, cf, (upd_lt hk12).2, rfl, rfl, hF.of fun a => by
      have h9 := lev_nil hd hlv a
      unfold farV
      cases e : dist L a n with
      | none => rfl
      | some j => simp [h9 j e]⟩)

set_option maxRecDepth 20000 in
theorem farS (H : Heap) (k : Nat) (L : List (ByteArray × ByteArray)) (n : ByteArray) (G : Gr ndS H k L) (hL : L.length ≤ 400000) : E.Spec Try.prog 43 [.a (.bp k 0), sC n] H fun x H' => ∃ kf ef cf, H kf = none ∧ x = .c (.a (.mp kf)) ∧ H' = upd H kf (some (.map ndS.kk ef cf)) ∧ FarAt ndS (fun a => (dist L a n).map fun d => iC (d : Nat)) ef cf := by
  have Gr0 := G
  obtain ⟨km, es, ck, g, G⟩ := G
  have hbox := G.box
  have hmap := G.map
  have hkm := G.kne
  refine Spec.enter Try.func43 rfl ?_
  refine AW.wk (Wk.keep 54 [(0, .c (.a (.bp k 0))), (1, .c (sC n))] [] (H) rfl ⟨rfl, rfl, trivial⟩ trivial (fun _ _ h => h) rfl) ?_
  refine AW.seq ?_
  refine AW.reg ?_
  refine SeqK.newBox (r := [_]) rfl rfl rfl rfl rfl rfl (fun k2 hk2 => ?_)
  refine SeqK.q (q_asC rfl rfl) rfl rfl rfl ?_
  refine SeqK.nil ?_
  refine AW.seq ?_
  have n2 : km ≠ k2 := fun e => by rw [← e, hmap] at hk2; cases hk2
  have n2b : k ≠ k2 := fun e => by rw [← e, hbox] at hk2; cases hk2
  refine AW.reg ?_
  refine SeqK.newMap .str rfl rfl rfl rfl (fun k12 hk12 => ?_)
  refine SeqK.q (q_asC rfl rfl) rfl rfl rfl ?_
  refine SeqK.nil ?_
  refine AW.seq ?_
  have n212 : k2 ≠ k12 := fun e => by rw [← e, upd_same] at hk12; cases hk12
  have n12 : km ≠ k12 := fun e => by rw [← e, upd_ne _ _ n2, hmap] at hk12; cases hk12
  have n12b : k ≠ k12 := fun e => by rw [← e, upd_ne _ _ n2b, hbox] at hk12; cases hk12
  refine AW.reg ?_
  refine SeqK.q (q_mvC rfl rfl) rfl rfl rfl ?_
  refine SeqK.q (q_buildSlice _ rfl Fx.el61 rfl (by decide) rfl) rfl rfl rfl ?_
  refine SeqK.q (q_asC rfl rfl) rfl rfl rfl ?_
  refine SeqK.nil ?_
  refine AW.seq ?_
  refine AW.seq ?_
  refine AW.reg ?_
  refine SeqK.q (q_asC rfl rfl) rfl rfl rfl ?_
  refine SeqK.nil ?_
  refine AW.block ?_
  refine AW.xw 6 rfl XW.un ?_
  refine AW.loop (fun (d : Nat) s => ∃ (lw : List ByteArray) (ef : List ME) (cf : Nat), (1 ≤ d ∧ d ≤ L.length + 3 ∧ lw.length ≤ L.length + 1 ∧ Lev L n d lw ∧ FarAt ndS (farV L n d) ef cf) ∧ s = ⟨54, sp [(2, .c (.a (.bp k2 0))), (5, .c (.a (.mp k12))), (7, iX .i64 ((d : Nat) : Int)), (6, .c (sL .un lw))], lv [], upd (upd H k2 (some (.box [.bp k 0]))) k12 (some (.map ndS.kk ef cf))⟩) (fun d => L.length + 4 - d) 1 ⟨_, Wk.keep 54 [(2, .c (.a (.bp k2 0))), (5, .c (.a (.mp k12))), (7, iX .i64 ((((1 : Nat)) : Nat) : Int)), (6, .c (sL .un ([n])))] [] (upd (upd H k2 (some (.box [.bp k 0]))) k12 (some (.map ndS.kk ([]) (0)))) rfl ⟨rfl, rfl, rfl, rfl, trivial⟩ trivial (fun _ _ h => h) rfl, [n], [], 0, ⟨by omega, by omega, by simp, lev_start, ⟨.nil, fun a => by rw [farV_one]; rfl⟩⟩, rfl⟩ (fun d s hs => ?_)
  obtain ⟨lw, ef, cf, ⟨hd, hd2, hll, hlv, hF⟩, rfl⟩ := hs
  refine AW.seq ?_
  refine AW.seq ?_
  refine AW.reg ?_
  refine SeqK.q (q_mvC rfl rfl) rfl rfl rfl ?_
  refine SeqK.q (q_len rfl Fx.un61 rfl) rfl rfl rfl ?_
  refine SeqK.q (q_gtr rfl rfl rfl) rfl rfl rfl ?_
  refine SeqK.nil ?_
  refine AW.condD rfl (fun h17 => ?_) (fun h17 => ?_)
  ·
    have hlv0 : lw.length ≠ 0 := by simp at h17; omega
    have hdb := lev_bound hd hlv hlv0
    refine AW.skip ?_
    refine AW.seq ?_
    refine AW.block ?_
    refine AW.seq ?_
    refine AW.reg ?_
    refine SeqK.q (q_asC rfl rfl) rfl rfl rfl ?_
    refine SeqK.nil ?_
    refine AW.seq ?_
    refine AW.seq ?_
    refine AW.tip 8 9 1 rfl (fun kt0 hkt0 => ?_)
    have ns1 : km ≠ kt0 := fun e => by subst e; rw [upd_ne _ _ n12, upd_ne _ _ n2, hmap] at hkt0; cases hkt0
    have ns2 : k2 ≠ kt0 := fun e => by subst e; rw [upd_ne _ _ n212, upd_same] at hkt0; cases hkt0
    have ns3 : k12 ≠ kt0 := fun e => by subst e; rw [upd_same] at hkt0; cases hkt0
    have ns4 : k ≠ kt0 := fun e => by subst e; rw [upd_ne _ _ n12b, upd_ne _ _ n2b, hbox] at hkt0; cases hkt0
    refine AW.reg ?_
    refine SeqK.r (g_load (r := .a _) rfl Fx.ty54 rfl (by (repeat rw [upd_ne _ _ (by first | assumption | exact Ne.symm (by assumption))]); first | assumption | exact upd_same _ _ _) rfl rfl rfl rfl) rfl ?_
    refine SeqK.q (q_nilH rfl rfl) rfl rfl rfl ?_
    refine SeqK.q (q_fieldH _ rfl Fx.fl82_0 rfl rfl) rfl rfl rfl ?_
    refine SeqK.r (g_load (r := .a _) rfl Fx.ty80 rfl (by (repeat rw [upd_ne _ _ (by first | assumption | exact Ne.symm (by assumption))]); first | assumption | exact upd_same _ _ _) rfl rfl rfl rfl) rfl ?_
    refine SeqK.r (b_range rfl rfl Fx.un80 rfl (by (repeat rw [upd_ne _ _ (by first | assumption | exact Ne.symm (by assumption))]); first | assumption | exact upd_same _ _ _) rfl rfl) rfl ?_
    refine SeqK.nil ?_
    refine AW.block ?_
    refine AW.loop (fun (c : Nat) s => ∃ (kt : Nat) (nx : List ByteArray) (seen : List Nat) (zs : List (List E.T)), (zs = nx.map strT ∧ (upd (upd H k2 (some (.box [.bp k 0]))) k12 (some (.map ndS.kk ef cf))) kt = none ∧ FSeen ndS es seen (fun a => dist L a n = some d) nx ∧ c = (es.filter fun m => !seen.contains m.b).length) ∧ s = ⟨54, sp [(2, .c (.a (.bp k2 0))), (5, .c (.a (.mp k12))), (7, iX .i64 ((d : Nat) : Int)), (6, .c (sL .un lw)), (8, .c (.a (.ts kt .ne 1 zs))), (24, .lp 24 0)], lv [(24, .iter km ck seen ck)], upd (upd (upd H k2 (some (.box [.bp k 0]))) k12 (some (.map ndS.kk ef cf))) kt (some (.tip 9 1 zs.length))⟩) (fun c => c) _ ⟨_, Wk.keep 54 [(2, .c (.a (.bp k2 0))), (5, .c (.a (.mp k12))), (7, iX .i64 ((d : Nat) : Int)), (6, .c (sL .un lw)), (8, .c (.a (.ts (kt0) .ne 1 ([])))), (24, .lp 24 0)] [(24, .iter km ck ([]) ck)] (upd (upd (upd H k2 (some (.box [.bp k 0]))) k12 (some (.map ndS.kk ef cf))) (kt0) (some (.tip 9 1 ([]).length))) rfl ⟨rfl, rfl, rfl, rfl, rfl, rfl, trivial⟩ ⟨rfl, trivial⟩ (fun _ _ h => h) rfl, kt0, [], [], [], ⟨rfl, hkt0, ⟨by simp, fun a => by simp⟩, rfl⟩, rfl⟩ (fun c s hs => ?_)
    obtain ⟨kt, nx, seen, zs, ⟨hzs, hkt, hS, hc⟩, rfl⟩ := hs
    have nt1 : km ≠ kt := fun e => by subst e; rw [upd_ne _ _ n12, upd_ne _ _ n2, hmap] at hkt; cases hkt
    have nt2 : k2 ≠ kt := fun e => by subst e; rw [upd_ne _ _ n212, upd_same] at hkt; cases hkt
    have nt3 : k12 ≠ kt := fun e => by subst e; rw [upd_same] at hkt; cases hkt
    have nt4 : k ≠ kt := fun e => by subst e; rw [upd_ne _ _ n12b, upd_ne _ _ n2b, hbox] at hkt; cases hkt
    refine AW.seq ?_
    refine AW.reg ?_
    refine SeqK.next rfl rfl rfl rfl rfl rfl (by (repeat rw [upd_ne _ _ (by first | assumption | exact Ne.symm (by assumption))]); first | assumption | exact upd_same _ _ _) (fun m hm => G.ok.born m hm) (Nat.le_refl _) (fun hd25 => ?_) (fun m25 hm25 hn25 => ?_)
    ·
      refine SeqK.q (q_extract _ rfl rfl rfl) rfl rfl rfl ?_
      refine SeqK.nil ?_
      refine AW.seq ?_
      refine AW.condF rfl ?_
      refine AW.exit ?_
      refine eth_e ?_
      refine eth_e ?_
      refine exit_here ?_
      refine AW.seq ?_
      refine AW.seq ?_
      subst hzs
      refine AW.xw 8 rfl XW.ts ?_
      refine AW.xw 8 rfl XW.un ?_
      have hnxl : nx.length ≤ L.length := by
        have h1 := len_sub nx (L.map fun e => e.1) hS.nodup fun a ha => by
          obtain ⟨⟨m, h1, h2, h3⟩, _⟩ := (hS.mem a).1 ha
          obtain ⟨b, hb⟩ := (G.outer a).1 ⟨m, h1, h3⟩
          exact List.mem_map.2 ⟨_, hb, rfl⟩
        simpa using h1
      have hnx : ∀ a, a ∈ nx ↔ dist L a n = some d := fun a => by
        rw [hS.mem]
        refine ⟨fun h => h.2, fun h => ⟨?_, h⟩⟩
        have h1 : ∃ b, (a, b) ∈ L := by
          obtain ⟨x, h2, _⟩ := walk_succ.1 (show walkB L (d - 1 + 1) a n = true by rw [show d - 1 + 1 = d by omega]; exact (dist_some.1 h).walk)
          exact ⟨x, h2⟩
        obtain ⟨m, h2, h3⟩ := (G.outer a).2 h1
        exact ⟨m, h2, hd25 m h2, h3⟩
      refine AW.reg ?_
      refine SeqK.q (q_mvC rfl rfl) rfl rfl rfl ?_
      refine SeqK.q (q_len rfl Fx.un61 rfl) rfl rfl rfl ?_
      refine SeqK.q (q_mvC rfl rfl) rfl rfl rfl ?_
      refine SeqK.nil ?_
      refine AW.block ?_
      refine AW.loop (fun (i : Nat) s => ∃ (ef2 : List ME) (cf2 : Nat), (i ≤ nx.length ∧ FarAt ndS (farW L n d (nx.take i)) ef2 cf2) ∧ s = ⟨54, sp [(2, .c (.a (.bp k2 0))), (5, .c (.a (.mp k12))), (7, iX .i64 ((d : Nat) : Int)), (8, .c (sL .un nx)), (42, .c (sL .un nx)), (43, iX .i64 (((nx.map strT).length : Nat) : Int)), (44, iX .i64 ((i : Nat) : Int))], lv [], upd (upd H k2 (some (.box [.bp k 0]))) k12 (some (.map ndS.kk ef2 cf2))⟩) (fun i => nx.length - i) 0 ⟨_, Wk.keep 54 [(2, .c (.a (.bp k2 0))), (5, .c (.a (.mp k12))), (7, iX .i64 ((d : Nat) : Int)), (8, .c (sL .un nx)), (42, .c (sL .un nx)), (43, iX .i64 (((nx.map strT).length : Nat) : Int)), (44, iX .i64 ((((0 : Nat)) : Nat) : Int))] [] (upd (upd H k2 (some (.box [.bp k 0]))) k12 (some (.map ndS.kk (ef) (cf)))) rfl ⟨rfl, rfl, rfl, rfl, rfl, rfl, rfl, trivial⟩ trivial (fun j o h => upd_sub hkt j o h) rfl, ef, cf, ⟨Nat.zero_le _, hF.of fun a => farW_nil a⟩, rfl⟩ (fun i s hs => ?_)
      obtain ⟨ef2, cf2, ⟨hi0, hF2⟩, rfl⟩ := hs
      refine AW.seq ?_
      refine AW.reg ?_
      refine SeqK.q (q_lss rfl rfl rfl) rfl rfl rfl ?_
      refine SeqK.nil ?_
      refine AW.seq ?_
      refine AW.condD rfl (fun h45 => ?_) (fun h45 => ?_)
      ·
        have hi : i < nx.length := by simpa using h45
        refine AW.skip ?_
        refine AW.seq ?_
        refine AW.block ?_
        refine AW.seq ?_
        refine AW.reg ?_
        refine SeqK.q (q_index _ rfl Fx.sl61 rfl rfl (by omega) (idx_map (f := strT) hi)) rfl rfl rfl ?_
        refine SeqK.q (q_load (.a _) rfl Fx.ty9 rfl rfl rfl) rfl rfl rfl ?_
        refine SeqK.q (q_asC rfl rfl) rfl rfl rfl ?_
        refine SeqK.nil ?_
        refine AW.reg ?_
        refine SeqK.q (q_mvC rfl rfl) rfl rfl rfl ?_
        refine SeqK.q (q_mvC rfl rfl) rfl rfl rfl ?_
        refine SeqK.q (q_mvC rfl rfl) rfl rfl rfl ?_
        refine SeqK.r (g_mapUpdate (.str Fx.un9) rfl rfl Fx.un84 rfl (by (repeat rw [upd_ne _ _ (by first | assumption | exact Ne.symm (by assumption))]); first | assumption | exact upd_same _ _ _) rfl rfl rfl) rfl ?_
        refine SeqK.nil ?_
        refine AW.reg ?_
        refine SeqK.q (q_add _ rfl rfl rfl (w64 (by omega) (by omega))) rfl rfl rfl ?_
        refine SeqK.q (q_mvC rfl rfl) rfl rfl rfl ?_
        refine SeqK.nil ?_
        exact ⟨i + 1, _, Wk.keep 54 [(2, .c (.a (.bp k2 0))), (5, .c (.a (.mp k12))), (7, iX .i64 ((d : Nat) : Int)), (8, .c (sL .un nx)), (42, .c (sL .un nx)), (43, iX .i64 (((nx.map strT).length : Nat) : Int)), (44, iX .i64 (((i + 1) : Nat) : Int))] [] (upd (upd H k2 (some (.box [.bp k 0]))) k12 (some (.map ndS.kk ((mset (ndS.nv nx[i]) (iC (d : Nat)) cf2 ef2)) ((mclock (ndS.nv nx[i]) ef2 cf2))))) rfl ⟨rfl, rfl, rfl, rfl, rfl, rfl, rfl, trivial⟩ trivial (fun j o h => by show upd (upd _ k12 _) k12 _ j = _; rw [upd_upd]; exact h) rfl, by omega, (mset (ndS.nv nx[i]) (iC (d : Nat)) cf2 ef2), (mclock (ndS.nv nx[i]) ef2 cf2), ⟨hi, hF2.step hi⟩, rfl⟩
      ·
        refine AW.exit ?_
        refine eth_e ?_
        refine eth_e ?_
        refine exit_here ?_
        obtain rfl : i = nx.length := by simp at h45; omega
        rw [List.take_length] at hF2
        refine AW.reg ?_
        refine SeqK.q (q_mvC rfl rfl) rfl rfl rfl ?_
        refine SeqK.q (q_asC rfl rfl) rfl rfl rfl ?_
        refine SeqK.nil ?_
        refine AW.reg ?_
        refine SeqK.q (q_mvC rfl rfl) rfl rfl rfl ?_
        refine SeqK.q (q_add _ rfl rfl rfl (w64 (by omega) (by omega))) rfl rfl rfl ?_
        refine SeqK.q (q_asC rfl rfl) rfl rfl rfl ?_
        refine SeqK.nil ?_
        exact ⟨d + 1, _, Wk.keep 54 [(2, .c (.a (.bp k2 0))), (5, .c (.a (.mp k12))), (7, iX .i64 (((d + 1) : Nat) : Int)), (6, .c (sL .un (nx)))] [] (upd (upd H k2 (some (.box [.bp k 0]))) k12 (some (.map ndS.kk (ef2) (cf2)))) rfl ⟨rfl, rfl, rfl, rfl, trivial⟩ trivial (fun _ _ h => h) rfl, by omega, nx, ef2, cf2, ⟨by omega, by omega, by omega, lev_next hd hnx, hF2.of fun a => farW_done hnx a⟩, rfl⟩
    ·
      obtain ⟨mk, mx, mb⟩ := m25
      obtain ⟨a9, rfl⟩ := ndS.sur mk (G.ok.key _ hm25)
      have ha9 : ∃ b, (a9, b) ∈ L := (G.outer a9).1 ⟨_, hm25, rfl⟩
      refine SeqK.q (q_extract _ rfl rfl rfl) rfl rfl rfl ?_
      refine SeqK.nil ?_
      refine AW.seq ?_
      refine AW.condT rfl ?_
      refine AW.skip ?_
      refine AW.block ?_
      refine AW.seq ?_
      refine AW.reg ?_
      refine SeqK.r (b_entry rfl rfl rfl (by (repeat rw [upd_ne _ _ (by first | assumption | exact Ne.symm (by assumption))]); first | assumption | exact upd_same _ _ _) (by assumption) rfl rfl) rfl ?_
      refine SeqK.q (q_extract _ rfl rfl rfl) rfl rfl rfl ?_
      refine SeqK.newAlloc (r := [_]) rfl rfl rfl Fx.ze9 rfl rfl rfl (fun k9 hk9 => ?_)
      refine SeqK.r (g_store rfl rfl Fx.ty9 rfl rfl (by (repeat rw [upd_ne _ _ (by first | assumption | exact Ne.symm (by assumption))]); first | assumption | exact upd_same _ _ _) rfl rfl rfl) rfl ?_
      refine SeqK.nil ?_
      refine AW.seq ?_
      rcases farV_cases L n d a9 with ⟨hv9, hj9⟩ | ⟨j9, hv9, hj91, hj92, hj93⟩
      ·
        refine AW.wk (Wk.keep 54 [(2, .c (.a (.bp k2 0))), (5, .c (.a (.mp k12))), (6, .c (sL .un lw)), (7, iX .i64 ((d : Nat) : Int)), (8, .c (.a (.ts kt .ne 1 zs))), (9, .c (.a (.bp k9 0))), (24, .lp 24 0)] [(24, .iter km ck (seen ++ [mb]) ck)] (upd (upd (upd (upd H k2 (some (.box [.bp k 0]))) k12 (some (.map ndS.kk ef cf))) kt (some (.tip 9 1 zs.length))) k9 (some (.box [.t (.v (.string a9))]))) rfl ⟨rfl, rfl, rfl, rfl, rfl, rfl, rfl, trivial⟩ ⟨rfl, trivial⟩ (fun j o h => by show upd (upd _ k9 _) k9 _ j = _; rw [upd_upd]; exact h) rfl) ?_
        obtain ⟨n9t, hk9b⟩ := upd_lt hk9
        obtain ⟨n912, hk9c⟩ := upd_lt hk9b
        obtain ⟨n92, hk9d⟩ := upd_lt hk9c
        have hb9 : upd (upd (upd (upd H k2 (some (.box [.bp k 0]))) k12 (some (.map ndS.kk ef cf))) kt (some (.tip 9 1 zs.length))) k9 (some (.box [.t (.v (.string a9))])) k9 = some (.box [.t (.v (.string a9))]) := upd_same _ _ _
        have hb2 : upd (upd (upd (upd H k2 (some (.box [.bp k 0]))) k12 (some (.map ndS.kk ef cf))) kt (some (.tip 9 1 zs.length))) k9 (some (.box [.t (.v (.string a9))])) k2 = some (.box [.bp k 0]) := by rw [upd_ne _ _ n92.symm, upd_ne _ _ nt2, upd_ne _ _ n212, upd_same]
        have G9 : Gr ndS (upd (upd (upd (upd H k2 (some (.box [.bp k 0]))) k12 (some (.map ndS.kk ef cf))) kt (some (.tip 9 1 zs.length))) k9 (some (.box [.t (.v (.string a9))]))) k L := Gr0.sub (fun j o h => upd_sub hk9 j o (upd_sub hkt j o (upd_sub hk12 j o (upd_sub hk2 j o h))))
        have hnxl : nx.length ≤ L.length := by
          have h1 := len_sub nx (L.map fun e => e.1) hS.nodup fun a ha => by
            obtain ⟨⟨m, h1, h2, h3⟩, _⟩ := (hS.mem a).1 ha
            obtain ⟨b, hb⟩ := (G.outer a).1 ⟨m, h1, h3⟩
            exact List.mem_map.2 ⟨_, hb, rfl⟩
          simpa using h1
        refine AW.reg ?_
        refine SeqK.q (q_mvC rfl rfl) rfl rfl rfl ?_
        refine SeqK.r (g_load (r := .a _) rfl Fx.ty9 rfl (by (repeat rw [upd_ne _ _ (by first | assumption | exact Ne.symm (by assumption))]); first | assumption | exact upd_same _ _ _) rfl rfl rfl rfl) rfl ?_
        refine SeqK.r (g_lookup (r := .c (.a _)) (.str Fx.un9) rfl Fx.un84 Fx.ze3 rfl (by (repeat rw [upd_ne _ _ (by first | assumption | exact Ne.symm (by assumption))]); first | assumption | exact upd_same _ _ _) rfl rfl ((hF.get a9).trans hv9) rfl rfl rfl) rfl ?_
        refine SeqK.q (q_eql rfl rfl rfl) rfl rfl rfl ?_
        refine SeqK.qD (q_mvC rfl rfl) rfl rfl rfl (fun g33 => ?_) (fun g33 => ?_)
        ·
          refine SeqK.on (q_mvC rfl rfl) rfl rfl rfl rfl rfl ?_
          refine SeqK.on (q_mkFn rfl rfl rfl) rfl rfl rfl rfl rfl ?_
          refine SeqK.callOn rfl rfl rfl rfl rfl rfl Fx.fn52 rfl (containsS _ lw 53 [.bp k2 0, .bp k9 0] (fun x => hasE L a9 x) Fx.fn53 (fun x => far1S _ k2 k9 k L a9 x hb2 hb9 G9) (by omega)) (fun _ _ h => by rw [h.1]; rfl) (fun x36 H36 q36 => ?_)
          obtain ⟨rfl, hH⟩ := q36
          subst hH
          refine SeqK.q (q_pkT rfl rfl rfl) rfl rfl rfl ?_
          refine SeqK.nil ?_
          refine AW.cond _ rfl (fun h37 => ?_) (fun h37 => ?_)
          ·
            have hP : dist L a9 n = some d := (lev_edge hd hlv hj9).1 h37
            rw [upd_swap _ _ _ n9t.symm]
            have hkt0 : upd (upd (upd H k2 (some (.box [.bp k 0]))) k12 (some (.map ndS.kk ef cf))) k9 (some (.box [.t (.v (.string a9))])) kt = none := by rw [upd_ne _ _ n9t.symm]; exact hkt
            refine AW.reg ?_
            refine SeqK.q (q_mvC rfl rfl) rfl rfl rfl ?_
            refine SeqK.r (g_load (r := .a _) rfl Fx.ty9 rfl (by (repeat rw [upd_ne _ _ (by first | assumption | exact Ne.symm (by assumption))]); first | assumption | exact upd_same _ _ _) rfl rfl rfl rfl) rfl ?_
            refine SeqK.q (q_buildSlice _ rfl Fx.el61 rfl (by decide) rfl) rfl rfl rfl ?_
            refine SeqK.app1 rfl (hkt0) rfl Fx.el61 rfl rfl (by rw [hzs]; simp; omega) rfl rfl (fun k41 hk41 => ?_)
            refine SeqK.q (q_asC rfl rfl) rfl rfl rfl ?_
            refine SeqK.nil ?_
            exact ⟨((es.filter fun x => !(seen ++ [mb]).contains x.b).length), _, Wk.keep 54 [(2, .c (.a (.bp k2 0))), (5, .c (.a (.mp k12))), (7, iX .i64 ((d : Nat) : Int)), (6, .c (sL .un lw)), (8, .c (.a (.ts (k41) .ne 1 (zs ++ [strT a9])))), (24, .lp 24 0)] [(24, .iter km ck (seen ++ [mb]) ck)] (upd (upd (upd H k2 (some (.box [.bp k 0]))) k12 (some (.map ndS.kk ef cf))) (k41) (some (.tip 9 1 (zs ++ [strT a9]).length))) rfl ⟨rfl, rfl, rfl, rfl, rfl, rfl, trivial⟩ ⟨rfl, trivial⟩ (fun j o h => upd_mid hk9b j o h) rfl, by rw [hc]; exact cnt_less (m := ⟨_, _, mb⟩) (List.Sublist.refl _) hm25 hn25, k41, nx ++ [a9], seen ++ [mb], zs ++ [strT a9], ⟨by rw [hzs]; simp, (upd_lt hk41).2, hS.yes G.ok hm25 hn25 hP, rfl⟩, rfl⟩
          ·
            have hP : ¬ dist L a9 n = some d := fun e => by rw [(lev_edge hd hlv hj9).2 e] at h37; cases h37
            refine AW.skip ?_
            exact ⟨((es.filter fun x => !(seen ++ [mb]).contains x.b).length), _, Wk.keep 54 [(2, .c (.a (.bp k2 0))), (5, .c (.a (.mp k12))), (7, iX .i64 ((d : Nat) : Int)), (6, .c (sL .un lw)), (8, .c (.a (.ts (kt) .ne 1 (zs)))), (24, .lp 24 0)] [(24, .iter km ck (seen ++ [mb]) ck)] (upd (upd (upd H k2 (some (.box [.bp k 0]))) k12 (some (.map ndS.kk ef cf))) (kt) (some (.tip 9 1 (zs).length))) rfl ⟨rfl, rfl, rfl, rfl, rfl, rfl, trivial⟩ ⟨rfl, trivial⟩ (fun j o h => upd_sub hk9 j o h) rfl, by rw [hc]; exact cnt_less (m := ⟨_, _, mb⟩) (List.Sublist.refl _) hm25 hn25, kt, nx, seen ++ [mb], zs, ⟨hzs, hkt, hS.no G.ok hm25 hP, rfl⟩, rfl⟩
        ·
          exact absurd rfl g33
      ·
        refine AW.wk (Wk.keep 54 [(2, .c (.a (.bp k2 0))), (5, .c (.a (.mp k12))), (6, .c (sL .un lw)), (7, iX .i64 ((d : Nat) : Int)), (8, .c (.a (.ts kt .ne 1 zs))), (9, .c (.a (.bp k9 0))), (24, .lp 24 0)] [(24, .iter km ck (seen ++ [mb]) ck)] (upd (upd (upd (upd H k2 (some (.box [.bp k 0]))) k12 (some (.map ndS.kk ef cf))) kt (some (.tip 9 1 zs.length))) k9 (some (.box [.t (.v (.string a9))]))) rfl ⟨rfl, rfl, rfl, rfl, rfl, rfl, rfl, trivial⟩ ⟨rfl, trivial⟩ (fun j o h => by show upd (upd _ k9 _) k9 _ j = _; rw [upd_upd]; exact h) rfl) ?_
        obtain ⟨n9t, hk9b⟩ := upd_lt hk9
        obtain ⟨n912, hk9c⟩ := upd_lt hk9b
        obtain ⟨n92, hk9d⟩ := upd_lt hk9c
        have hb9 : upd (upd (upd (upd H k2 (some (.box [.bp k 0]))) k12 (some (.map ndS.kk ef cf))) kt (some (.tip 9 1 zs.length))) k9 (some (.box [.t (.v (.string a9))])) k9 = some (.box [.t (.v (.string a9))]) := upd_same _ _ _
        have hb2 : upd (upd (upd (upd H k2 (some (.box [.bp k 0]))) k12 (some (.map ndS.kk ef cf))) kt (some (.tip 9 1 zs.length))) k9 (some (.box [.t (.v (.string a9))])) k2 = some (.box [.bp k 0]) := by rw [upd_ne _ _ n92.symm, upd_ne _ _ nt2, upd_ne _ _ n212, upd_same]
        have G9 : Gr ndS (upd (upd (upd (upd H k2 (some (.box [.bp k 0]))) k12 (some (.map ndS.kk ef cf))) kt (some (.tip 9 1 zs.length))) k9 (some (.box [.t (.v (.string a9))]))) k L := Gr0.sub (fun j o h => upd_sub hk9 j o (upd_sub hkt j o (upd_sub hk12 j o (upd_sub hk2 j o h))))
        have hnxl : nx.length ≤ L.length := by
          have h1 := len_sub nx (L.map fun e => e.1) hS.nodup fun a ha => by
            obtain ⟨⟨m, h1, h2, h3⟩, _⟩ := (hS.mem a).1 ha
            obtain ⟨b, hb⟩ := (G.outer a).1 ⟨m, h1, h3⟩
            exact List.mem_map.2 ⟨_, hb, rfl⟩
          simpa using h1
        refine AW.reg ?_
        refine SeqK.q (q_mvC rfl rfl) rfl rfl rfl ?_
        refine SeqK.r (g_load (r := .a _) rfl Fx.ty9 rfl (by (repeat rw [upd_ne _ _ (by first | assumption | exact Ne.symm (by assumption))]); first | assumption | exact upd_same _ _ _) rfl rfl rfl rfl) rfl ?_
        refine SeqK.r (g_lookup (r := .c (.a _)) (.str Fx.un9) rfl Fx.un84 Fx.ze3 rfl (by (repeat rw [upd_ne _ _ (by first | assumption | exact Ne.symm (by assumption))]); first | assumption | exact upd_same _ _ _) rfl rfl ((hF.get a9).trans hv9) rfl rfl rfl) rfl ?_
        refine SeqK.q (q_eql rfl rfl rfl) rfl rfl rfl ?_
        refine SeqK.qD (q_mvC rfl rfl) rfl rfl rfl (fun g33 => ?_) (fun g33 => ?_)
        ·
          exact absurd g33 (by omega)
        ·
          have hP : ¬ dist L a9 n = some d := fun e => by rw [hj93] at e; injection e; omega
          refine SeqK.off rfl rfl rfl rfl rfl rfl ?_
          refine SeqK.off rfl rfl rfl rfl rfl rfl ?_
          refine SeqK.off rfl rfl rfl rfl rfl rfl ?_
          refine SeqK.q (q_pkF rfl rfl rfl) rfl rfl rfl ?_
          refine SeqK.nil ?_
          refine AW.condF rfl ?_
          refine AW.skip ?_
          exact ⟨((es.filter fun x => !(seen ++ [mb]).contains x.b).length), _, Wk.keep 54 [(2, .c (.a (.bp k2 0))), (5, .c (.a (.mp k12))), (7, iX .i64 ((d : Nat) : Int)), (6, .c (sL .un lw)), (8, .c (.a (.ts (kt) .ne 1 (zs)))), (24, .lp 24 0)] [(24, .iter km ck (seen ++ [mb]) ck)] (upd (upd (upd H k2 (some (.box [.bp k 0]))) k12 (some (.map ndS.kk ef cf))) (kt) (some (.tip 9 1 (zs).length))) rfl ⟨rfl, rfl, rfl, rfl, rfl, rfl, trivial⟩ ⟨rfl, trivial⟩ (fun j o h => upd_sub hk9 j o h) rfl, by rw [hc]; exact cnt_less (m := ⟨_, _, mb⟩) (List.Sublist.refl _) hm25 hn25, kt, nx, seen ++ [mb], zs, ⟨hzs, hkt, hS.no G.ok hm25 hP, rfl⟩, rfl⟩
  ·
    refine AW.exit ?_
    refine eth_e ?_
    refine eth_e ?_
    refine exit_here ?_
    refine AW.seq ?_
    refine AW.reg ?_
    refine SeqK.q (q_mvC rfl rfl) rfl rfl rfl ?_
    refine SeqK.q (q_asC rfl rfl) rfl rfl rfl ?_
    refine SeqK.nil ?_
    refine AW.ret ?_
    obtain rfl : lw = [] := by simp at h17; exact h17
    exact fin_x (x := .c _) (upd H k12 (some (.map ndS.kk ef cf))) (.tmp rfl .nil) rfl (fun j o h => upd_mid hk2 j o h) (⟨k12, ef, cf, (upd_lt hk12).2, rfl, rfl, hF.of fun a => by
      have h9 := lev_nil hd hlv a
      unfold farV
      cases e : dist L a n with
      | none => rfl
      | some j => simp [h9 j e]⟩)

end Go.Proofs.Ytikcmjamioopbaa.W
namespace Go.Proofs.Ytikcmjamioopbaa.W
open Go.RowKit E M
set_option linter.unusedVariables false
set_option linter.unusedSimpArgs false
set_option linter.unusedSectionVars false
theorem updI {α : Type} (f : Nat → α) (i : Nat) (x : α) (j : Nat) : upd f i x j = if j = i then x else f j := by
  by_cases h : j = i
  · subst h; rw [upd_same, if_pos rfl]
  · rw [upd_ne _ _ h, if_neg h]
theorem upd_in {H0 H' : Heap} {k : Nat} {x : Option AO} (hs : ∀ j o, H0 j = some o → H' j = some o) (hk : H0 k = none) : ∀ j o, H0 j = some o → upd H' k x j = some o := fun j o h => by
  rw [upd_ne _ _ (fun e => by subst e; rw [hk] at h; cases h)]; exact hs j o h
theorem find_pre {α : Type} {p : α → Bool} {x : α} : ∀ {pre l : List α}, (pre ++ [x]) <+: l → (∀ y ∈ pre, p y = false) → p x = true → l.find? p = some x
  | [], l, ⟨r, h⟩, _, hx => by subst h; simp [hx]
  | y :: pre, l, ⟨r, h⟩, hp, hx => by
    subst h
    rw [List.cons_append, List.cons_append, List.find?_cons, hp y (by simp)]
    exact find_pre ⟨r, rfl⟩ (fun z hz => hp z (List.mem_cons_of_mem _ hz)) hx

set_option maxRecDepth 20000 in
theorem reachesn (H : Heap) (k : Nat) (L : GE) (a b : Int) (G : Gr ndI H k L) (hL : L.length ≤ 400000) (hd : dist L a b = none) : E.Spec Try.prog 20 [.a (.bp k 0), iC a, iC b] H fun x H' => x = bX false ∧ H' = H := by
  refine Spec.enter Try.func20 rfl ?_
  refine AW.wk (Wk.keep 13 [(0, .c (.a (.bp k 0))), (1, .c (iC a)), (2, .c (iC b))] [] (H) rfl ⟨rfl, rfl, rfl, trivial⟩ trivial (fun _ _ h => h) rfl) ?_
  refine AW.seq ?_
  refine AW.reg ?_
  refine SeqK.q (q_asC rfl rfl) rfl rfl rfl ?_
  refine SeqK.nil ?_
  refine AW.seq ?_
  refine AW.reg ?_
  refine SeqK.q (q_mvC rfl rfl) rfl rfl rfl ?_
  refine SeqK.q (q_mvC rfl rfl) rfl rfl rfl ?_
  refine SeqK.callE rfl rfl rfl rfl Fx.fn42 rfl (farI _ k L b G hL) (fun _ _ ⟨_, _, _, _, h, _⟩ => by rw [h]; rfl) (fun x9 H9 q9 => ?_)
  obtain ⟨kf, ef, cf, hkf, rfl, hH, hF⟩ := q9
  subst hH
  have hv : mget (ndI.nv a) ef = (dist L a b).map fun d => iC (d : Nat) := hF.get a
  rw [hd] at hv
  simp only [Option.map_some, Option.map_none] at hv
  refine SeqK.q (q_mvC rfl rfl) rfl rfl rfl ?_
  refine SeqK.r (g_lookup (r := .c (.a _)) (.int Fx.un3) rfl Fx.un78 Fx.ze3 rfl (by (repeat rw [upd_ne _ _ (by first | assumption | exact Ne.symm (by assumption))]); first | assumption | exact upd_same _ _ _) rfl rfl (by assumption) rfl rfl rfl) rfl ?_
  refine SeqK.q (q_gtr rfl rfl rfl) rfl rfl rfl ?_
  refine SeqK.q (q_asC rfl rfl) rfl rfl rfl ?_
  refine SeqK.nil ?_
  refine AW.ret ?_
  exact fin_x (x := .c _) (H) (.tmp rfl .nil) rfl (upd_sub hkf) (⟨rfl, rfl⟩)

set_option maxRecDepth 20000 in
theorem reachess (H : Heap) (k : Nat) (L : GE) (a b : Int) (G : Gr ndI H k L) (hL : L.length ≤ 400000) (d : Nat) (hd : dist L a b = some d) : E.Spec Try.prog 20 [.a (.bp k 0), iC a, iC b] H fun x H' => x = bX true ∧ H' = H := by
  refine Spec.enter Try.func20 rfl ?_
  refine AW.wk (Wk.keep 13 [(0, .c (.a (.bp k 0))), (1, .c (iC a)), (2, .c (iC b))] [] (H) rfl ⟨rfl, rfl, rfl, trivial⟩ trivial (fun _ _ h => h) rfl) ?_
  refine AW.seq ?_
  refine AW.reg ?_
  refine SeqK.q (q_asC rfl rfl) rfl rfl rfl ?_
  refine SeqK.nil ?_
  refine AW.seq ?_
  refine AW.reg ?_
  refine SeqK.q (q_mvC rfl rfl) rfl rfl rfl ?_
  refine SeqK.q (q_mvC rfl rfl) rfl rfl rfl ?_
  refine SeqK.callE rfl rfl rfl rfl Fx.fn42 rfl (farI _ k L b G hL) (fun _ _ ⟨_, _, _, _, h, _⟩ => by rw [h]; rfl) (fun x9 H9 q9 => ?_)
  obtain ⟨kf, ef, cf, hkf, rfl, hH, hF⟩ := q9
  subst hH
  have hv : mget (ndI.nv a) ef = (dist L a b).map fun d => iC (d : Nat) := hF.get a
  rw [hd] at hv
  simp only [Option.map_some, Option.map_none] at hv
  refine SeqK.q (q_mvC rfl rfl) rfl rfl rfl ?_
  refine SeqK.r (g_lookup (r := .c (.a _)) (.int Fx.un3) rfl Fx.un78 Fx.ze3 rfl (by (repeat rw [upd_ne _ _ (by first | assumption | exact Ne.symm (by assumption))]); first | assumption | exact upd_same _ _ _) rfl rfl (by assumption) rfl rfl rfl) rfl ?_
  refine SeqK.q (q_gtr rfl rfl rfl) rfl rfl rfl ?_
  refine SeqK.q (q_asC rfl rfl) rfl rfl rfl ?_
  refine SeqK.nil ?_
  refine AW.ret ?_
  exact fin_x (x := .c _) (H) (.tmp rfl .nil) rfl (upd_sub hkf) (⟨by have h9 := dist_some.1 hd; have := h9.pos; simp; omega, rfl⟩)

theorem reachesI (H : Heap) (k : Nat) (L : GE) (a b : Int) (G : Gr ndI H k L) (hL : L.length ≤ 400000) : E.Spec Try.prog 20 [.a (.bp k 0), iC a, iC b] H fun x H' => x = bX (dist L a b).isSome ∧ H' = H := by
  cases hd : dist L a b with
  | none => exact reachesn H k L a b G hL hd
  | some d => exact reachess H k L a b G hL d hd

set_option maxRecDepth 20000 in
theorem cycleI (H : Heap) (k : Nat) (L : List (Int × Int)) (n : Int) (Gr0 : Gr ndI H k L) (hL : L.length ≤ 400000) : E.Spec Try.prog 22 [.a (.bp k 0), iC n] H fun x H' => (dist L n n = none ∧ x = .c (.a (.t (.v (.slice none 0 0)))) ∨ dist L n n ≠ none ∧ x = .c (iL .nn (cyc ltI L n))) ∧ H' = H := by
  refine Spec.enter Try.func22 rfl ?_
  refine AW.wk (Wk.keep 51 [(0, .c (.a (.bp k 0))), (1, .c (iC n))] [] (H) rfl ⟨rfl, rfl, trivial⟩ trivial (fun _ _ h => h) rfl) ?_
  refine AW.seq ?_
  refine AW.reg ?_
  refine SeqK.newBox (r := [_]) rfl rfl rfl rfl rfl rfl (fun k3 hk3 => ?_)
  refine SeqK.q (q_asC rfl rfl) rfl rfl rfl ?_
  refine SeqK.nil ?_
  refine AW.seq ?_
  refine AW.reg ?_
  refine SeqK.q (q_mvC rfl rfl) rfl rfl rfl ?_
  refine SeqK.r (g_load (r := .a _) rfl Fx.ty3 rfl (by (repeat rw [upd_ne _ _ (by first | assumption | exact Ne.symm (by assumption))]); first | assumption | exact upd_same _ _ _) rfl rfl rfl rfl) rfl ?_
  refine SeqK.callE rfl rfl rfl rfl Fx.fn42 rfl (farI _ k L n (Gr0.fresh hk3) hL) (fun _ _ ⟨_, _, _, _, h, _⟩ => by rw [h]; rfl) (fun x11 H11 q11 => ?_)
  obtain ⟨k11, ef, cf, hk11, rfl, hH, hF⟩ := q11
  subst hH
  have hv : mget (ndI.nv n) ef = (dist L n n).map fun d => iC (d : Nat) := hF.get n
  obtain ⟨n113, hk11b⟩ := upd_lt hk11
  refine SeqK.newAlloc (r := [_]) rfl rfl rfl Fx.ze78 rfl rfl rfl (fun k5 hk5 => ?_)
  refine SeqK.r (g_store rfl rfl Fx.ty78 rfl rfl (by (repeat rw [upd_ne _ _ (by first | assumption | exact Ne.symm (by assumption))]); first | assumption | exact upd_same _ _ _) rfl rfl rfl) rfl ?_
  refine SeqK.nil ?_
  refine AW.seq ?_
  refine AW.seq ?_
  rcases hdn : dist L n n with _ | d
  ·
    rw [hdn] at hv
    simp only [Option.map_none] at hv
    rw [upd_upd]
    obtain ⟨n511, hk5b⟩ := upd_lt hk5
    obtain ⟨n53, hk5c⟩ := upd_lt hk5b
    refine AW.reg ?_
    refine SeqK.r (g_load (r := .a _) rfl Fx.ty78 rfl (by (repeat rw [upd_ne _ _ (by first | assumption | exact Ne.symm (by assumption))]); first | assumption | exact upd_same _ _ _) rfl rfl rfl rfl) rfl ?_
    refine SeqK.r (g_load (r := .a _) rfl Fx.ty3 rfl (by (repeat rw [upd_ne _ _ (by first | assumption | exact Ne.symm (by assumption))]); first | assumption | exact upd_same _ _ _) rfl rfl rfl rfl) rfl ?_
    refine SeqK.r (g_lookup (r := .c (.a _)) (.int Fx.un3) rfl Fx.un78 Fx.ze3 rfl (by (repeat rw [upd_ne _ _ (by first | assumption | exact Ne.symm (by assumption))]); first | assumption | exact upd_same _ _ _) rfl rfl (by assumption) rfl rfl rfl) rfl ?_
    refine SeqK.q (q_eql rfl rfl rfl) rfl rfl rfl ?_
    refine SeqK.nil ?_
    refine AW.condD rfl (fun h15 => ?_) (fun h15 => ?_)
    ·
      refine AW.seq ?_
      refine AW.reg ?_
      refine SeqK.q (q_asC rfl rfl) rfl rfl rfl ?_
      refine SeqK.nil ?_
      refine AW.ret ?_
      exact fin_x (x := .c _) (H) (.tmp rfl .nil) rfl (fun j o h => upd_in (upd_in (upd_in (fun _ _ h => h) hk3) hk11b) hk5c j o h) (⟨.inl ⟨rfl, rfl⟩, rfl⟩)
    ·
      exact absurd rfl h15
  ·
    rw [hdn] at hv
    simp only [Option.map_some] at hv
    obtain ⟨d9, rfl⟩ : ∃ d9, d = d9 + 1 := ⟨d - 1, by have := (dist_some.1 hdn).pos; omega⟩
    have hdl9 := dist_le hdn
    rw [upd_upd]
    obtain ⟨n511, hk5b⟩ := upd_lt hk5
    obtain ⟨n53, hk5c⟩ := upd_lt hk5b
    refine AW.reg ?_
    refine SeqK.r (g_load (r := .a _) rfl Fx.ty78 rfl (by (repeat rw [upd_ne _ _ (by first | assumption | exact Ne.symm (by assumption))]); first | assumption | exact upd_same _ _ _) rfl rfl rfl rfl) rfl ?_
    refine SeqK.r (g_load (r := .a _) rfl Fx.ty3 rfl (by (repeat rw [upd_ne _ _ (by first | assumption | exact Ne.symm (by assumption))]); first | assumption | exact upd_same _ _ _) rfl rfl rfl rfl) rfl ?_
    refine SeqK.r (g_lookup (r := .c (.a _)) (.int Fx.un3) rfl Fx.un78 Fx.ze3 rfl (by (repeat rw [upd_ne _ _ (by first | assumption | exact Ne.symm (by assumption))]); first | assumption | exact upd_same _ _ _) rfl rfl (by assumption) rfl rfl rfl) rfl ?_
    refine SeqK.q (q_eql rfl rfl rfl) rfl rfl rfl ?_
    refine SeqK.nil ?_
    refine AW.condD rfl (fun h15 => ?_) (fun h15 => ?_)
    ·
      exact absurd h15 (by omega)
    ·
      refine AW.skip ?_
      refine AW.seq ?_
      refine AW.reg ?_
      refine SeqK.r (g_load (r := .a _) rfl Fx.ty3 rfl (by (repeat rw [upd_ne _ _ (by first | assumption | exact Ne.symm (by assumption))]); first | assumption | exact upd_same _ _ _) rfl rfl rfl rfl) rfl ?_
      refine SeqK.buildTip rfl rfl Fx.el30 rfl (by decide) (by decide) rfl rfl rfl (fun k17 hk17 => ?_)
      refine SeqK.newAlloc (r := [_]) rfl rfl rfl Fx.ze30 rfl rfl rfl (fun k6 hk6 => ?_)
      refine SeqK.r (g_store rfl rfl Fx.ty30 rfl rfl (by (repeat rw [upd_ne _ _ (by first | assumption | exact Ne.symm (by assumption))]); first | assumption | exact upd_same _ _ _) rfl rfl rfl) rfl ?_
      refine SeqK.nil ?_
      refine AW.seq ?_
      refine AW.seq ?_
      rw [upd_upd]
      obtain ⟨n617, hk6b⟩ := upd_lt hk6
      obtain ⟨n65, hk6c⟩ := upd_lt hk6b
      obtain ⟨n611, hk6d⟩ := upd_lt hk6c
      obtain ⟨n63, hk6e⟩ := upd_lt hk6d
      obtain ⟨n175, hk17b⟩ := upd_lt hk17
      obtain ⟨n1711, hk17c⟩ := upd_lt hk17b
      obtain ⟨n173, hk17d⟩ := upd_lt hk17c
      refine AW.reg ?_
      refine SeqK.r (g_load (r := .a _) rfl Fx.ty78 rfl (by (repeat rw [upd_ne _ _ (by first | assumption | exact Ne.symm (by assumption))]); first | assumption | exact upd_same _ _ _) rfl rfl rfl rfl) rfl ?_
      refine SeqK.r (g_load (r := .a _) rfl Fx.ty3 rfl (by (repeat rw [upd_ne _ _ (by first | assumption | exact Ne.symm (by assumption))]); first | assumption | exact upd_same _ _ _) rfl rfl rfl rfl) rfl ?_
      refine SeqK.r (g_lookup (r := .c (.a _)) (.int Fx.un3) rfl Fx.un78 Fx.ze3 rfl (by (repeat rw [upd_ne _ _ (by first | assumption | exact Ne.symm (by assumption))]); first | assumption | exact upd_same _ _ _) rfl rfl (by assumption) rfl rfl rfl) rfl ?_
      refine SeqK.q (q_sub _ rfl rfl rfl ((by rw [w64 (by omega) (by omega)]; omega : IntKind.i64.wrap _ = ((d9 : Nat) : Int)))) rfl rfl rfl ?_
      refine SeqK.newAlloc (r := [_]) rfl rfl rfl Fx.ze3 rfl rfl rfl (fun k7 hk7 => ?_)
      refine SeqK.r (g_store rfl rfl Fx.ty3 rfl rfl (by (repeat rw [upd_ne _ _ (by first | assumption | exact Ne.symm (by assumption))]); first | assumption | exact upd_same _ _ _) rfl rfl rfl) rfl ?_
      refine SeqK.nil ?_
      refine AW.block ?_
      refine AW.loop (fun (m : Nat) s => ∃ (kl kt : Nat) (p : List Int) (a : Int) (zs : List (List E.T)), (zs = (p ++ [a]).map i64T ∧ upd (upd (upd (upd H k3 (some (.box [.t (.v (.int .i64 n))]))) k11 (some (.map ndI.kk ef cf))) k5 (some (.box [.mp k11]))) k6 (some (.box [])) kl = none ∧ upd (upd (upd (upd (upd H k3 (some (.box [.t (.v (.int .i64 n))]))) k11 (some (.map ndI.kk ef cf))) k5 (some (.box [.mp k11]))) k6 (some (.box []))) kl (some (.box [])) kt = none ∧ m + 1 ≤ d9 + 1 ∧ dist L a n = some (m + 1) ∧ p ++ a :: down ltI L n m a = cyc ltI L n) ∧ s = ⟨51, sp [(0, .c (.a (.bp k 0))), (3, .c (.a (.bp k3 0))), (5, .c (.a (.bp k5 0))), (6, .c (.a (.bp k6 0))), (7, .c (.a (.bp kl 0)))], lv [], upd (upd (upd (upd (upd (upd H k3 (some (.box [.t (.v (.int .i64 n))]))) k11 (some (.map ndI.kk ef cf))) k5 (some (.box [.mp k11]))) k6 (some (.box [.ts kt .nn 1 zs]))) kl (some (.box [.t (.v (.int .i64 ((m : Nat) : Int)))]))) kt (some (.tip 3 1 zs.length))⟩) (fun m => m) d9 ⟨_, Wk.keep 51 [(0, .c (.a (.bp k 0))), (3, .c (.a (.bp k3 0))), (5, .c (.a (.bp k5 0))), (6, .c (.a (.bp k6 0))), (7, .c (.a (.bp (k7) 0)))] [] (upd (upd (upd (upd (upd (upd H k3 (some (.box [.t (.v (.int .i64 n))]))) k11 (some (.map ndI.kk ef cf))) k5 (some (.box [.mp k11]))) k6 (some (.box [.ts (k17) .nn 1 ([i64T n])]))) (k7) (some (.box [.t (.v (.int .i64 (((d9) : Nat) : Int)))]))) (k17) (some (.tip 3 1 ([i64T n]).length))) rfl ⟨rfl, rfl, rfl, rfl, rfl, trivial⟩ trivial (fun j o h => by show upd (upd (upd (upd (upd (upd (upd H k3 (some (.box [.t (.v (.int .i64 n))]))) k11 (some (.map ndI.kk ef cf))) k5 (some (.box [.mp k11]))) k17 (some (.tip 3 1 [i64T n].length))) k6 (some (.box [.ts k17 .nn 1 [i64T n]]))) k7 (some (.box [.t (.v (.int .i64 0))]))) k7 (some (.box [.t (.v (.int .i64 ((d9 : Nat) : Int)))])) j = _; grind (splits := 60) [updI]) rfl, k7, k17, [], n, [i64T n], ⟨rfl, by grind (splits := 60) [updI], by grind (splits := 60) [updI], Nat.le_refl _, hdn, by unfold cyc; rw [hdn]; rfl⟩, rfl⟩ (fun m s hs => ?_)
      obtain ⟨kl, kt, p, a, zs, ⟨hzs, hkl, hkt, hmd, hda, hpc⟩, rfl⟩ := hs
      obtain ⟨nl6, hl1⟩ := upd_lt hkl
      obtain ⟨nl5, hl2⟩ := upd_lt hl1
      obtain ⟨nl11, hl3⟩ := upd_lt hl2
      obtain ⟨nl3, hl4⟩ := upd_lt hl3
      obtain ⟨ntl, ht1⟩ := upd_lt hkt
      obtain ⟨nt6, ht2⟩ := upd_lt ht1
      obtain ⟨nt5, ht3⟩ := upd_lt ht2
      obtain ⟨nt11, ht4⟩ := upd_lt ht3
      obtain ⟨nt3, ht5⟩ := upd_lt ht4
      refine AW.seq ?_
      refine AW.seq ?_
      refine AW.reg ?_
      refine SeqK.r (g_load (r := .a _) rfl Fx.ty3 rfl (by (repeat rw [upd_ne _ _ (by first | assumption | exact Ne.symm (by assumption))]); first | assumption | exact upd_same _ _ _) rfl rfl rfl rfl) rfl ?_
      refine SeqK.q (q_gtr rfl rfl rfl) rfl rfl rfl ?_
      refine SeqK.nil ?_
      refine AW.condD rfl (fun h23 => ?_) (fun h23 => ?_)
      ·
        obtain ⟨m1, rfl⟩ : ∃ m1, m = m1 + 1 := ⟨m - 1, by simp at h23; omega⟩
        have hzl : zs.length = p.length + 1 := by rw [hzs]; simp
        have hix : zs[((p.length : Nat) : Int).toNat]? = some (i64T a) := by rw [hzs]; simp
        have hcl := (cyc_facts (lt := ltI) hdn).1
        have hdl := dist_le hdn
        rw [← hpc] at hcl
        simp at hcl
        have hsl := succs_len (lt := ltI) (L := L) (a := a)
        refine AW.skip ?_
        refine AW.seq ?_
        refine AW.block ?_
        refine AW.seq ?_
        refine AW.reg ?_
        refine SeqK.q (q_mvC rfl rfl) rfl rfl rfl ?_
        refine SeqK.r (g_load (r := .a _) rfl Fx.ty30 rfl (by (repeat rw [upd_ne _ _ (by first | assumption | exact Ne.symm (by assumption))]); first | assumption | exact upd_same _ _ _) rfl rfl rfl rfl) rfl ?_
        refine SeqK.r (g_load (r := .a _) rfl Fx.ty30 rfl (by (repeat rw [upd_ne _ _ (by first | assumption | exact Ne.symm (by assumption))]); first | assumption | exact upd_same _ _ _) rfl rfl rfl rfl) rfl ?_
        refine SeqK.q (q_lenTs rfl Fx.un30 rfl) rfl rfl rfl ?_
        refine SeqK.q (q_sub _ rfl rfl rfl ((by rw [w64 (by omega) (by omega)]; omega : IntKind.i64.wrap _ = ((p.length : Nat) : Int)))) rfl rfl rfl ?_
        refine SeqK.q (q_indexTs _ rfl Fx.sl30 rfl rfl (by omega) (hix)) rfl rfl rfl ?_
        refine SeqK.q (q_load (.a _) rfl Fx.ty3 rfl rfl rfl) rfl rfl rfl ?_
        refine SeqK.callE rfl rfl rfl rfl Fx.fn18 rfl (succI _ k L a (Gr0.sub (upd_in (upd_in (upd_in (upd_in (upd_in (upd_in (fun _ _ h => h) hk3) hk11b) hk5c) hk6e) hl4) ht5)) (by omega)) (fun _ _ ⟨_, _, h, _⟩ => by rw [h]; rfl) (fun x33 H33 q33 => ?_)
        obtain ⟨kb, hkb, rfl, hH⟩ := q33
        subst hH
        obtain ⟨nbt, hb1⟩ := upd_lt hkb
        obtain ⟨nbl, hb2⟩ := upd_lt hb1
        obtain ⟨nb6, hb3⟩ := upd_lt hb2
        obtain ⟨nb5, hb4⟩ := upd_lt hb3
        obtain ⟨nb11, hb5⟩ := upd_lt hb4
        obtain ⟨nb3, hb6⟩ := upd_lt hb5
        refine SeqK.nil ?_
        refine AW.block ?_
        refine AW.wk (Wk.keep 51 [(0, .c (.a (.bp k 0))), (3, .c (.a (.bp k3 0))), (5, .c (.a (.bp k5 0))), (6, .c (.a (.bp k6 0))), (7, .c (.a (.bp kl 0))), (33, .c (.a (.fn 41 [.bp kb 0])))] [] (upd (upd (upd (upd (upd (upd (upd H k3 (some (.box [.t (.v (.int .i64 n))]))) k11 (some (.map ndI.kk ef cf))) k5 (some (.box [.mp k11]))) k6 (some (.box [.ts kt .nn 1 zs]))) kl (some (.box [.t (.v (.int .i64 (((m1 + 1) : Nat) : Int)))]))) kt (some (.tip 3 1 zs.length))) kb (some (.box [.t (.sl .un 1 ((succs ltI L a).map i64T))]))) rfl ⟨rfl, rfl, rfl, rfl, rfl, rfl, trivial⟩ trivial (fun _ _ h => h) rfl) ?_
        refine AW.rangeF rfl (Fx.fn41) (fun d => rfl) (fun _ => rfl) (by decide) (succ1I kb (succs ltI L a) (by omega)) (fun H H' hs h => hs _ _ h) (fun (pre : List Int) H1 => H1 = upd (upd (upd (upd (upd (upd (upd H k3 (some (.box [.t (.v (.int .i64 n))]))) k11 (some (.map ndI.kk ef cf))) k5 (some (.box [.mp k11]))) k6 (some (.box [.ts kt .nn 1 zs]))) kl (some (.box [.t (.v (.int .i64 (((m1 + 1) : Nat) : Int)))]))) kt (some (.tip 3 1 zs.length))) kb (some (.box [.t (.sl .un 1 ((succs ltI L a).map i64T))])) ∧ ∀ x ∈ pre, dist L x n ≠ some (m1 + 1)) (fun e H1 => e = Exit.exit 2 ∧ ∃ x k48, (succs ltI L a).find? (fun x => decide (dist L x n = some (m1 + 1))) = some x ∧ upd (upd (upd (upd (upd H k3 (some (.box [.t (.v (.int .i64 n))]))) k11 (some (.map ndI.kk ef cf))) k5 (some (.box [.mp k11]))) k6 (some (.box []))) kl (some (.box [])) k48 = none ∧ H1 = upd (upd (upd (upd (upd (upd H k3 (some (.box [.t (.v (.int .i64 n))]))) k11 (some (.map ndI.kk ef cf))) k5 (some (.box [.mp k11]))) k6 (some (.box [.ts k48 .nn 1 (zs ++ [i64T x])]))) kl (some (.box [.t (.v (.int .i64 (((m1 + 1) : Nat) : Int)))]))) k48 (some (.tip 3 1 (zs ++ [i64T x]).length))) (⟨rfl, fun x h => by simp at h⟩) (fun pre H1 h => by rw [h.1]; exact upd_same _ _ _) (fun l xs pre x H1 hX hpre hJ => ?_) (fun xs H1 hX hJ => ?_) (fun e H1 hJx he => ?_)
        ·
          obtain ⟨rfl, hpre9⟩ := hJ
          subst hX
          refine AWR.reg (by kernel_rfl) ?_
          refine SeqK.q (q_asC rfl rfl) rfl rfl rfl ?_
          refine SeqK.nil ?_
          refine ⟨rfl, ?_⟩
          refine AWR.block ?_
          refine AWR.seq ?_
          rcases hdx : dist L x n with _ | j
          ·
            have hvx : mget (ndI.nv x) ef = none := (hF.get x).trans (by simp only [hdx, Option.map_none])
            refine AWR.reg (by kernel_rfl) ?_
            refine SeqK.q (q_mvC rfl rfl) rfl rfl rfl ?_
            refine SeqK.r (g_load (r := .a _) rfl Fx.ty3 rfl (by (repeat rw [upd_ne _ _ (by first | assumption | exact Ne.symm (by assumption))]); first | assumption | exact upd_same _ _ _) rfl rfl rfl rfl) rfl ?_
            refine SeqK.q (q_neq rfl rfl rfl) rfl rfl rfl ?_
            refine SeqK.qD (q_mvC rfl rfl) rfl rfl rfl (fun g38 => ?_) (fun g38 => ?_)
            ·
              refine SeqK.rOn (g_load (r := .a _) rfl Fx.ty78 rfl (by (repeat rw [upd_ne _ _ (by first | assumption | exact Ne.symm (by assumption))]); first | assumption | exact upd_same _ _ _) rfl rfl rfl rfl) rfl rfl rfl ?_
              refine SeqK.on (q_mvC rfl rfl) rfl rfl rfl rfl rfl ?_
              refine SeqK.rOn (g_lookup (r := .c (.a _)) (.int Fx.un3) rfl Fx.un78 Fx.ze3 rfl (by (repeat rw [upd_ne _ _ (by first | assumption | exact Ne.symm (by assumption))]); first | assumption | exact upd_same _ _ _) rfl rfl (by assumption) rfl rfl rfl) rfl rfl rfl ?_
              refine SeqK.rOn (g_load (r := .a _) rfl Fx.ty3 rfl (by (repeat rw [upd_ne _ _ (by first | assumption | exact Ne.symm (by assumption))]); first | assumption | exact upd_same _ _ _) rfl rfl rfl rfl) rfl rfl rfl ?_
              refine SeqK.on (q_eql rfl rfl rfl) rfl rfl rfl rfl rfl ?_
              refine SeqK.q (q_pkT rfl rfl rfl) rfl rfl rfl ?_
              refine SeqK.nil ?_
              refine AWR.condD rfl (fun h44 => ?_) (fun h44 => ?_)
              ·
                exact absurd h44 (by omega)
              ·
                have hP : dist L x n ≠ some (m1 + 1) := by rw [hdx]; simp
                refine AWR.skip ?_
                exact ⟨_, fun _ _ h => h, rfl, fun y hy => by
                  rcases List.mem_append.1 hy with hy | hy
                  · exact hpre9 y hy
                  · have hy : y = x := by simpa using hy
                    rw [hy]; exact hP⟩
            ·
              have hP : dist L x n ≠ some (m1 + 1) := by
                have e : x = n := Classical.not_not.1 g38
                rw [e, hdn]; intro h; injection h; omega
              refine SeqK.off rfl rfl rfl rfl rfl rfl ?_
              refine SeqK.off rfl rfl rfl rfl rfl rfl ?_
              refine SeqK.off rfl rfl rfl rfl rfl rfl ?_
              refine SeqK.off rfl rfl rfl rfl rfl rfl ?_
              refine SeqK.off rfl rfl rfl rfl rfl rfl ?_
              refine SeqK.q (q_pkF rfl rfl rfl) rfl rfl rfl ?_
              refine SeqK.nil ?_
              refine AWR.condF rfl ?_
              refine AWR.skip ?_
              exact ⟨_, fun _ _ h => h, rfl, fun y hy => by
                rcases List.mem_append.1 hy with hy | hy
                · exact hpre9 y hy
                · have hy : y = x := by simpa using hy
                  rw [hy]; exact hP⟩
          ·
            have hvx : mget (ndI.nv x) ef = some (iC (j : Nat)) := (hF.get x).trans (by simp only [hdx, Option.map_some])
            refine AWR.reg (by kernel_rfl) ?_
            refine SeqK.q (q_mvC rfl rfl) rfl rfl rfl ?_
            refine SeqK.r (g_load (r := .a _) rfl Fx.ty3 rfl (by (repeat rw [upd_ne _ _ (by first | assumption | exact Ne.symm (by assumption))]); first | assumption | exact upd_same _ _ _) rfl rfl rfl rfl) rfl ?_
            refine SeqK.q (q_neq rfl rfl rfl) rfl rfl rfl ?_
            refine SeqK.qD (q_mvC rfl rfl) rfl rfl rfl (fun g38 => ?_) (fun g38 => ?_)
            ·
              refine SeqK.rOn (g_load (r := .a _) rfl Fx.ty78 rfl (by (repeat rw [upd_ne _ _ (by first | assumption | exact Ne.symm (by assumption))]); first | assumption | exact upd_same _ _ _) rfl rfl rfl rfl) rfl rfl rfl ?_
              refine SeqK.on (q_mvC rfl rfl) rfl rfl rfl rfl rfl ?_
              refine SeqK.rOn (g_lookup (r := .c (.a _)) (.int Fx.un3) rfl Fx.un78 Fx.ze3 rfl (by (repeat rw [upd_ne _ _ (by first | assumption | exact Ne.symm (by assumption))]); first | assumption | exact upd_same _ _ _) rfl rfl (by assumption) rfl rfl rfl) rfl rfl rfl ?_
              refine SeqK.rOn (g_load (r := .a _) rfl Fx.ty3 rfl (by (repeat rw [upd_ne _ _ (by first | assumption | exact Ne.symm (by assumption))]); first | assumption | exact upd_same _ _ _) rfl rfl rfl rfl) rfl rfl rfl ?_
              refine SeqK.on (q_eql rfl rfl rfl) rfl rfl rfl rfl rfl ?_
              refine SeqK.q (q_pkT rfl rfl rfl) rfl rfl rfl ?_
              refine SeqK.nil ?_
              refine AWR.condD rfl (fun h44 => ?_) (fun h44 => ?_)
              ·
                obtain rfl : j = m1 + 1 := by omega
                refine AWR.seq ?_
                rw [upd_swap _ _ _ nbt.symm]
                have hkt9 : upd (upd (upd (upd (upd (upd H k3 (some (.box [.t (.v (.int .i64 n))]))) k11 (some (.map ndI.kk ef cf))) k5 (some (.box [.mp k11]))) k6 (some (.box [.ts kt .nn 1 zs]))) kl (some (.box [.t (.v (.int .i64 (((m1 + 1) : Nat) : Int)))]))) kb (some (.box [.t (.sl .un 1 ((succs ltI L a).map i64T))])) kt = none := by rw [upd_ne _ _ nbt.symm, upd_ne _ _ ntl, upd_ne _ _ nt6]; exact ht2
                refine AWR.reg (by kernel_rfl) ?_
                refine SeqK.r (g_load (r := .a _) rfl Fx.ty30 rfl (by (repeat rw [upd_ne _ _ (by first | assumption | exact Ne.symm (by assumption))]); first | assumption | exact upd_same _ _ _) rfl rfl rfl rfl) rfl ?_
                refine SeqK.q (q_mvC rfl rfl) rfl rfl rfl ?_
                refine SeqK.q (q_buildSlice _ rfl Fx.el30 rfl (by decide) rfl) rfl rfl rfl ?_
                refine SeqK.app1 rfl (hkt9) rfl Fx.el30 rfl rfl (by simp; omega) rfl rfl (fun k48 hk48 => ?_)
                refine SeqK.r (g_store rfl rfl Fx.ty30 rfl rfl (by have n48b := upd_lt hk48; have n48c := upd_lt n48b.2; have n48d := upd_lt n48c.2; rw [upd_ne _ _ n48d.1.symm, upd_ne _ _ nb6.symm, upd_ne _ _ nl6.symm]; exact upd_same _ _ _) rfl rfl rfl) rfl ?_
                refine SeqK.nil ?_
                refine AWR.exit ?_
                refine exit_pass ?_ rfl
                refine ⟨upd (upd (upd (upd (upd (upd H k3 (some (.box [.t (.v (.int .i64 n))]))) k11 (some (.map ndI.kk ef cf))) k5 (some (.box [.mp k11]))) k6 (some (.box [.ts k48 .nn 1 (zs ++ [i64T x])]))) kl (some (.box [.t (.v (.int .i64 (((m1 + 1) : Nat) : Int)))]))) k48 (some (.tip 3 1 (zs ++ [i64T x]).length)), fun j o h => by show upd (upd (upd (upd (upd (upd (upd (upd H k3 (some (.box [.t (.v (.int .i64 n))]))) k11 (some (.map ndI.kk ef cf))) k5 (some (.box [.mp k11]))) k6 (some (.box [.ts kt .nn 1 zs]))) kl (some (.box [.t (.v (.int .i64 (((m1 + 1) : Nat) : Int)))]))) kb (some (.box [.t (.sl .un 1 ((succs ltI L a).map i64T))]))) k48 (some (.tip 3 1 (zs ++ [i64T x]).length))) k6 (some (.box [.ts k48 .nn 1 (zs ++ [i64T x])])) j = _; grind (splits := 60) [updI], rfl, x, k48, find_pre hpre (fun y hy => decide_eq_false (hpre9 y hy)) (decide_eq_true hdx), by grind (splits := 60) [updI], rfl⟩
              ·
                have hP : dist L x n ≠ some (m1 + 1) := by rw [hdx]; intro h; injection h; omega
                refine AWR.skip ?_
                exact ⟨_, fun _ _ h => h, rfl, fun y hy => by
                  rcases List.mem_append.1 hy with hy | hy
                  · exact hpre9 y hy
                  · have hy : y = x := by simpa using hy
                    rw [hy]; exact hP⟩
            ·
              have hP : dist L x n ≠ some (m1 + 1) := by
                have e : x = n := Classical.not_not.1 g38
                rw [e, hdn]; intro h; injection h; omega
              refine SeqK.off rfl rfl rfl rfl rfl rfl ?_
              refine SeqK.off rfl rfl rfl rfl rfl rfl ?_
              refine SeqK.off rfl rfl rfl rfl rfl rfl ?_
              refine SeqK.off rfl rfl rfl rfl rfl rfl ?_
              refine SeqK.off rfl rfl rfl rfl rfl rfl ?_
              refine SeqK.q (q_pkF rfl rfl rfl) rfl rfl rfl ?_
              refine SeqK.nil ?_
              refine AWR.condF rfl ?_
              refine AWR.skip ?_
              exact ⟨_, fun _ _ h => h, rfl, fun y hy => by
                rcases List.mem_append.1 hy with hy | hy
                · exact hpre9 y hy
                · have hy : y = x := by simpa using hy
                  rw [hy]; exact hP⟩
        ·
          obtain ⟨x, h1, h2⟩ := dist_next (lt := ltI) hda
          exact absurd h2 (hJ.2 x (hX ▸ h1))
        ·
          obtain ⟨rfl, x, k48, hfx, hk48, rfl⟩ := hJx
          have hdx : dist L x n = some (m1 + 1) := (by have h9 := List.find?_some hfx; exact of_decide_eq_true h9)
          obtain ⟨n48l, hx1⟩ := upd_lt hk48
          obtain ⟨n486, hx2⟩ := upd_lt hx1
          refine exit_here ?_
          refine AW.seq ?_
          refine AW.seq ?_
          refine AW.reg ?_
          refine SeqK.r (g_load (r := .a _) rfl Fx.ty3 rfl (by (repeat rw [upd_ne _ _ (by first | assumption | exact Ne.symm (by assumption))]); first | assumption | exact upd_same _ _ _) rfl rfl rfl rfl) rfl ?_
          refine SeqK.nil ?_
          refine AW.reg ?_
          refine SeqK.newAlloc (r := [_]) rfl rfl rfl Fx.ze3 rfl rfl rfl (fun k7 hk7 => ?_)
          refine SeqK.r (g_store rfl rfl Fx.ty3 rfl rfl (by (repeat rw [upd_ne _ _ (by first | assumption | exact Ne.symm (by assumption))]); first | assumption | exact upd_same _ _ _) rfl rfl rfl) rfl ?_
          refine SeqK.nil ?_
          refine AW.reg ?_
          refine SeqK.r (g_load (r := .a _) rfl Fx.ty3 rfl (by (repeat rw [upd_ne _ _ (by first | assumption | exact Ne.symm (by assumption))]); first | assumption | exact upd_same _ _ _) rfl rfl rfl rfl) rfl ?_
          refine SeqK.q (q_sub _ rfl rfl rfl ((by rw [w64 (by omega) (by omega)]; omega : IntKind.i64.wrap _ = ((m1 : Nat) : Int)))) rfl rfl rfl ?_
          refine SeqK.r (g_store rfl rfl Fx.ty3 rfl rfl (by (repeat rw [upd_ne _ _ (by first | assumption | exact Ne.symm (by assumption))]); first | assumption | exact upd_same _ _ _) rfl rfl rfl) rfl ?_
          refine SeqK.nil ?_
          exact ⟨m1, _, Wk.keep 51 [(0, .c (.a (.bp k 0))), (3, .c (.a (.bp k3 0))), (5, .c (.a (.bp k5 0))), (6, .c (.a (.bp k6 0))), (7, .c (.a (.bp (k7) 0)))] [] (upd (upd (upd (upd (upd (upd H k3 (some (.box [.t (.v (.int .i64 n))]))) k11 (some (.map ndI.kk ef cf))) k5 (some (.box [.mp k11]))) k6 (some (.box [.ts (k48) .nn 1 (zs ++ [i64T x])]))) (k7) (some (.box [.t (.v (.int .i64 (((m1) : Nat) : Int)))]))) (k48) (some (.tip 3 1 (zs ++ [i64T x]).length))) rfl ⟨rfl, rfl, rfl, rfl, rfl, trivial⟩ trivial (fun j o h => by show upd (upd (upd (upd (upd (upd (upd (upd (upd H k3 (some (.box [.t (.v (.int .i64 n))]))) k11 (some (.map ndI.kk ef cf))) k5 (some (.box [.mp k11]))) k6 (some (.box [.ts k48 .nn 1 (zs ++ [i64T x])]))) kl (some (.box [.t (.v (.int .i64 (((m1 + 1) : Nat) : Int)))]))) k48 (some (.tip 3 1 (zs ++ [i64T x]).length))) k7 (some (.box [.t (.v (.int .i64 0))]))) k7 (some (.box [.t (.v (.int .i64 (((m1 + 1) : Nat) : Int)))]))) k7 (some (.box [.t (.v (.int .i64 ((m1 : Nat) : Int)))])) j = _; grind (splits := 60) [updI]) rfl, Nat.lt_succ_self _, k7, k48, p ++ [a], x, zs ++ [i64T x], ⟨by rw [hzs]; simp, by grind (splits := 60) [updI], by grind (splits := 60) [updI], by omega, hdx, by
            rw [← hpc, down, hfx]; simp⟩, rfl⟩
      ·
        refine AW.exit ?_
        refine eth_e ?_
        refine eth_e ?_
        refine exit_here ?_
        refine AW.seq ?_
        refine AW.reg ?_
        refine SeqK.r (g_load (r := .a _) rfl Fx.ty30 rfl (by (repeat rw [upd_ne _ _ (by first | assumption | exact Ne.symm (by assumption))]); first | assumption | exact upd_same _ _ _) rfl rfl rfl rfl) rfl ?_
        refine SeqK.q (q_asC rfl rfl) rfl rfl rfl ?_
        refine SeqK.nil ?_
        refine AW.ret ?_
        obtain rfl : m = 0 := by simp at h23; omega
        exact fin_w (x := .c _) (H) (.tmp rfl .nil) rfl (fun j o h => (upd_in (upd_in (upd_in (upd_in (upd_in (upd_in (fun _ _ h => h) hk3) hk11b) hk5c) hk6e) hl4) ht5) j o h) (⟨.inr ⟨by simp, by rw [← hpc, hzs]; rfl⟩, rfl⟩)

set_option maxRecDepth 20000 in
theorem cycleS (H : Heap) (k : Nat) (L : List (ByteArray × ByteArray)) (n : ByteArray) (Gr0 : Gr ndS H k L) (hL : L.length ≤ 400000) : E.Spec Try.prog 33 [.a (.bp k 0), sC n] H fun x H' => (dist L n n = none ∧ x = .c (.a (.t (.v (.slice none 0 0)))) ∨ dist L n n ≠ none ∧ x = .c (sL .nn (cyc ltS L n))) ∧ H' = H := by
  refine Spec.enter Try.func33 rfl ?_
  refine AW.wk (Wk.keep 51 [(0, .c (.a (.bp k 0))), (1, .c (sC n))] [] (H) rfl ⟨rfl, rfl, trivial⟩ trivial (fun _ _ h => h) rfl) ?_
  refine AW.seq ?_
  refine AW.reg ?_
  refine SeqK.newBox (r := [_]) rfl rfl rfl rfl rfl rfl (fun k3 hk3 => ?_)
  refine SeqK.q (q_asC rfl rfl) rfl rfl rfl ?_
  refine SeqK.nil ?_
  refine AW.seq ?_
  refine AW.reg ?_
  refine SeqK.q (q_mvC rfl rfl) rfl rfl rfl ?_
  refine SeqK.r (g_load (r := .a _) rfl Fx.ty9 rfl (by (repeat rw [upd_ne _ _ (by first | assumption | exact Ne.symm (by assumption))]); first | assumption | exact upd_same _ _ _) rfl rfl rfl rfl) rfl ?_
  refine SeqK.callE rfl rfl rfl rfl Fx.fn43 rfl (farS _ k L n (Gr0.fresh hk3) hL) (fun _ _ ⟨_, _, _, _, h, _⟩ => by rw [h]; rfl) (fun x11 H11 q11 => ?_)
  obtain ⟨k11, ef, cf, hk11, rfl, hH, hF⟩ := q11
  subst hH
  have hv : mget (ndS.nv n) ef = (dist L n n).map fun d => iC (d : Nat) := hF.get n
  obtain ⟨n113, hk11b⟩ := upd_lt hk11
  refine SeqK.newAlloc (r := [_]) rfl rfl rfl Fx.ze84 rfl rfl rfl (fun k5 hk5 => ?_)
  refine SeqK.r (g_store rfl rfl Fx.ty84 rfl rfl (by (repeat rw [upd_ne _ _ (by first | assumption | exact Ne.symm (by assumption))]); first | assumption | exact upd_same _ _ _) rfl rfl rfl) rfl ?_
  refine SeqK.nil ?_
  refine AW.seq ?_
  refine AW.seq ?_
  rcases hdn : dist L n n with _ | d
  ·
    rw [hdn] at hv
    simp only [Option.map_none] at hv
    rw [upd_upd]
    obtain ⟨n511, hk5b⟩ := upd_lt hk5
    obtain ⟨n53, hk5c⟩ := upd_lt hk5b
    refine AW.reg ?_
    refine SeqK.r (g_load (r := .a _) rfl Fx.ty84 rfl (by (repeat rw [upd_ne _ _ (by first | assumption | exact Ne.symm (by assumption))]); first | assumption | exact upd_same _ _ _) rfl rfl rfl rfl) rfl ?_
    refine SeqK.r (g_load (r := .a _) rfl Fx.ty9 rfl (by (repeat rw [upd_ne _ _ (by first | assumption | exact Ne.symm (by assumption))]); first | assumption | exact upd_same _ _ _) rfl rfl rfl rfl) rfl ?_
    refine SeqK.r (g_lookup (r := .c (.a _)) (.str Fx.un9) rfl Fx.un84 Fx.ze3 rfl (by (repeat rw [upd_ne _ _ (by first | assumption | exact Ne.symm (by assumption))]); first | assumption | exact upd_same _ _ _) rfl rfl (by assumption) rfl rfl rfl) rfl ?_
    refine SeqK.q (q_eql rfl rfl rfl) rfl rfl rfl ?_
    refine SeqK.nil ?_
    refine AW.condD rfl (fun h15 => ?_) (fun h15 => ?_)
    ·
      refine AW.seq ?_
      refine AW.reg ?_
      refine SeqK.q (q_asC rfl rfl) rfl rfl rfl ?_
      refine SeqK.nil ?_
      refine AW.ret ?_
      exact fin_x (x := .c _) (H) (.tmp rfl .nil) rfl (fun j o h => upd_in (upd_in (upd_in (fun _ _ h => h) hk3) hk11b) hk5c j o h) (⟨.inl ⟨rfl, rfl⟩, rfl⟩)
    ·
      exact absurd rfl h15
  ·
    rw [hdn] at hv
    simp only [Option.map_some] at hv
    obtain ⟨d9, rfl⟩ : ∃ d9, d = d9 + 1 := ⟨d - 1, by have := (dist_some.1 hdn).pos; omega⟩
    have hdl9 := dist_le hdn
    rw [upd_upd]
    obtain ⟨n511, hk5b⟩ := upd_lt hk5
    obtain ⟨n53, hk5c⟩ := upd_lt hk5b
    refine AW.reg ?_
    refine SeqK.r (g_load (r := .a _) rfl Fx.ty84 rfl (by (repeat rw [upd_ne _ _ (by first | assumption | exact Ne.symm (by assumption))]); first | assumption | exact upd_same _ _ _) rfl rfl rfl rfl) rfl ?_
    refine SeqK.r (g_load (r := .a _) rfl Fx.ty9 rfl (by (repeat rw [upd_ne _ _ (by first | assumption | exact Ne.symm (by assumption))]); first | assumption | exact upd_same _ _ _) rfl rfl rfl rfl) rfl ?_
    refine SeqK.r (g_lookup (r := .c (.a _)) (.str Fx.un9) rfl Fx.un84 Fx.ze3 rfl (by (repeat rw [upd_ne _ _ (by first | assumption | exact Ne.symm (by assumption))]); first | assumption | exact upd_same _ _ _) rfl rfl (by assumption) rfl rfl rfl) rfl ?_
    refine SeqK.q (q_eql rfl rfl rfl) rfl rfl rfl ?_
    refine SeqK.nil ?_
    refine AW.condD rfl (fun h15 => ?_) (fun h15 => ?_)
    ·
      exact absurd h15 (by omega)
    ·
      refine AW.skip ?_
      refine AW.seq ?_
      refine AW.reg ?_
      refine SeqK.r (g_load (r := .a _) rfl Fx.ty9 rfl (by (repeat rw [upd_ne _ _ (by first | assumption | exact Ne.symm (by assumption))]); first | assumption | exact upd_same _ _ _) rfl rfl rfl rfl) rfl ?_
      refine SeqK.buildTip rfl rfl Fx.el61 rfl (by decide) (by decide) rfl rfl rfl (fun k17 hk17 => ?_)
      refine SeqK.newAlloc (r := [_]) rfl rfl rfl Fx.ze61 rfl rfl rfl (fun k6 hk6 => ?_)
      refine SeqK.r (g_store rfl rfl Fx.ty61 rfl rfl (by (repeat rw [upd_ne _ _ (by first | assumption | exact Ne.symm (by assumption))]); first | assumption | exact upd_same _ _ _) rfl rfl rfl) rfl ?_
      refine SeqK.nil ?_
      refine AW.seq ?_
      refine AW.seq ?_
      rw [upd_upd]
      obtain ⟨n617, hk6b⟩ := upd_lt hk6
      obtain ⟨n65, hk6c⟩ := upd_lt hk6b
      obtain ⟨n611, hk6d⟩ := upd_lt hk6c
      obtain ⟨n63, hk6e⟩ := upd_lt hk6d
      obtain ⟨n175, hk17b⟩ := upd_lt hk17
      obtain ⟨n1711, hk17c⟩ := upd_lt hk17b
      obtain ⟨n173, hk17d⟩ := upd_lt hk17c
      refine AW.reg ?_
      refine SeqK.r (g_load (r := .a _) rfl Fx.ty84 rfl (by (repeat rw [upd_ne _ _ (by first | assumption | exact Ne.symm (by assumption))]); first | assumption | exact upd_same _ _ _) rfl rfl rfl rfl) rfl ?_
      refine SeqK.r (g_load (r := .a _) rfl Fx.ty9 rfl (by (repeat rw [upd_ne _ _ (by first | assumption | exact Ne.symm (by assumption))]); first | assumption | exact upd_same _ _ _) rfl rfl rfl rfl) rfl ?_
      refine SeqK.r (g_lookup (r := .c (.a _)) (.str Fx.un9) rfl Fx.un84 Fx.ze3 rfl (by (repeat rw [upd_ne _ _ (by first | assumption | exact Ne.symm (by assumption))]); first | assumption | exact upd_same _ _ _) rfl rfl (by assumption) rfl rfl rfl) rfl ?_
      refine SeqK.q (q_sub _ rfl rfl rfl ((by rw [w64 (by omega) (by omega)]; omega : IntKind.i64.wrap _ = ((d9 : Nat) : Int)))) rfl rfl rfl ?_
      refine SeqK.newAlloc (r := [_]) rfl rfl rfl Fx.ze3 rfl rfl rfl (fun k7 hk7 => ?_)
      refine SeqK.r (g_store rfl rfl Fx.ty3 rfl rfl (by (repeat rw [upd_ne _ _ (by first | assumption | exact Ne.symm (by assumption))]); first | assumption | exact upd_same _ _ _) rfl rfl rfl) rfl ?_
      refine SeqK.nil ?_
      refine AW.block ?_
      refine AW.loop (fun (m : Nat) s => ∃ (kl kt : Nat) (p : List ByteArray) (a : ByteArray) (zs : List (List E.T)), (zs = (p ++ [a]).map strT ∧ upd (upd (upd (upd H k3 (some (.box [.t (.v (.string n))]))) k11 (some (.map ndS.kk ef cf))) k5 (some (.box [.mp k11]))) k6 (some (.box [])) kl = none ∧ upd (upd (upd (upd (upd H k3 (some (.box [.t (.v (.string n))]))) k11 (some (.map ndS.kk ef cf))) k5 (some (.box [.mp k11]))) k6 (some (.box []))) kl (some (.box [])) kt = none ∧ m + 1 ≤ d9 + 1 ∧ dist L a n = some (m + 1) ∧ p ++ a :: down ltS L n m a = cyc ltS L n) ∧ s = ⟨51, sp [(0, .c (.a (.bp k 0))), (3, .c (.a (.bp k3 0))), (5, .c (.a (.bp k5 0))), (6, .c (.a (.bp k6 0))), (7, .c (.a (.bp kl 0)))], lv [], upd (upd (upd (upd (upd (upd H k3 (some (.box [.t (.v (.string n))]))) k11 (some (.map ndS.kk ef cf))) k5 (some (.box [.mp k11]))) k6 (some (.box [.ts kt .nn 1 zs]))) kl (some (.box [.t (.v (.int .i64 ((m : Nat) : Int)))]))) kt (some (.tip 9 1 zs.length))⟩) (fun m => m) d9 ⟨_, Wk.keep 51 [(0, .c (.a (.bp k 0))), (3, .c (.a (.bp k3 0))), (5, .c (.a (.bp k5 0))), (6, .c (.a (.bp k6 0))), (7, .c (.a (.bp (k7) 0)))] [] (upd (upd (upd (upd (upd (upd H k3 (some (.box [.t (.v (.string n))]))) k11 (some (.map ndS.kk ef cf))) k5 (some (.box [.mp k11]))) k6 (some (.box [.ts (k17) .nn 1 ([strT n])]))) (k7) (some (.box [.t (.v (.int .i64 (((d9) : Nat) : Int)))]))) (k17) (some (.tip 9 1 ([strT n]).length))) rfl ⟨rfl, rfl, rfl, rfl, rfl, trivial⟩ trivial (fun j o h => by show upd (upd (upd (upd (upd (upd (upd H k3 (some (.box [.t (.v (.string n))]))) k11 (some (.map ndS.kk ef cf))) k5 (some (.box [.mp k11]))) k17 (some (.tip 9 1 [strT n].length))) k6 (some (.box [.ts k17 .nn 1 [strT n]]))) k7 (some (.box [.t (.v (.int .i64 0))]))) k7 (some (.box [.t (.v (.int .i64 ((d9 : Nat) : Int)))])) j = _; grind (splits := 60) [updI]) rfl, k7, k17, [], n, [strT n], ⟨rfl, by grind (splits := 60) [updI], by grind (splits := 60) [updI], Nat.le_refl _, hdn, by unfold cyc; rw [hdn]; rfl⟩, rfl⟩ (fun m s hs => ?_)
      obtain ⟨kl, kt, p, a, zs, ⟨hzs, hkl, hkt, hmd, hda, hpc⟩, rfl⟩ := hs
      obtain ⟨nl6, hl1⟩ := upd_lt hkl
      obtain ⟨nl5, hl2⟩ := upd_lt hl1
      obtain ⟨nl11, hl3⟩ := upd_lt hl2
      obtain ⟨nl3, hl4⟩ := upd_lt hl3
      obtain ⟨ntl, ht1⟩ := upd_lt hkt
      obtain ⟨nt6, ht2⟩ := upd_lt ht1
      obtain ⟨nt5, ht3⟩ := upd_lt ht2
      obtain ⟨nt11, ht4⟩ := upd_lt ht3
      obtain ⟨nt3, ht5⟩ := upd_lt ht4
      refine AW.seq ?_
      refine AW.seq ?_
      refine AW.reg ?_
      refine SeqK.r (g_load (r := .a _) rfl Fx.ty3 rfl (by (repeat rw [upd_ne _ _ (by first | assumption | exact Ne.symm (by assumption))]); first | assumption | exact upd_same _ _ _) rfl rfl rfl rfl) rfl ?_
      refine SeqK.q (q_gtr rfl rfl rfl) rfl rfl rfl ?_
      refine SeqK.nil ?_
      refine AW.condD rfl (fun h23 => ?_) (fun h23 => ?_)
      ·
        obtain ⟨m1, rfl⟩ : ∃ m1, m = m1 + 1 := ⟨m - 1, by simp at h23; omega⟩
        have hzl : zs.length = p.length + 1 := by rw [hzs]; simp
        have hix : zs[((p.length : Nat) : Int).toNat]? = some (strT a) := by rw [hzs]; simp
        have hcl := (cyc_facts (lt := ltS) hdn).1
        have hdl := dist_le hdn
        rw [← hpc] at hcl
        simp at hcl
        have hsl := succs_len (lt := ltS) (L := L) (a := a)
        refine AW.skip ?_
        refine AW.seq ?_
        refine AW.block ?_
        refine AW.seq ?_
        refine AW.reg ?_
        refine SeqK.q (q_mvC rfl rfl) rfl rfl rfl ?_
        refine SeqK.r (g_load (r := .a _) rfl Fx.ty61 rfl (by (repeat rw [upd_ne _ _ (by first | assumption | exact Ne.symm (by assumption))]); first | assumption | exact upd_same _ _ _) rfl rfl rfl rfl) rfl ?_
        refine SeqK.r (g_load (r := .a _) rfl Fx.ty61 rfl (by (repeat rw [upd_ne _ _ (by first | assumption | exact Ne.symm (by assumption))]); first | assumption | exact upd_same _ _ _) rfl rfl rfl rfl) rfl ?_
        refine SeqK.q (q_lenTs rfl Fx.un61 rfl) rfl rfl rfl ?_
        refine SeqK.q (q_sub _ rfl rfl rfl ((by rw [w64 (by omega) (by omega)]; omega : IntKind.i64.wrap _ = ((p.length : Nat) : Int)))) rfl rfl rfl ?_
        refine SeqK.q (q_indexTs _ rfl Fx.sl61 rfl rfl (by omega) (hix)) rfl rfl rfl ?_
        refine SeqK.q (q_load (.a _) rfl Fx.ty9 rfl rfl rfl) rfl rfl rfl ?_
        refine SeqK.callE rfl rfl rfl rfl Fx.fn44 rfl (succS _ k L a (Gr0.sub (upd_in (upd_in (upd_in (upd_in (upd_in (upd_in (fun _ _ h => h) hk3) hk11b) hk5c) hk6e) hl4) ht5)) (by omega)) (fun _ _ ⟨_, _, h, _⟩ => by rw [h]; rfl) (fun x33 H33 q33 => ?_)
        obtain ⟨kb, hkb, rfl, hH⟩ := q33
        subst hH
        obtain ⟨nbt, hb1⟩ := upd_lt hkb
        obtain ⟨nbl, hb2⟩ := upd_lt hb1
        obtain ⟨nb6, hb3⟩ := upd_lt hb2
        obtain ⟨nb5, hb4⟩ := upd_lt hb3
        obtain ⟨nb11, hb5⟩ := upd_lt hb4
        obtain ⟨nb3, hb6⟩ := upd_lt hb5
        refine SeqK.nil ?_
        refine AW.block ?_
        refine AW.wk (Wk.keep 51 [(0, .c (.a (.bp k 0))), (3, .c (.a (.bp k3 0))), (5, .c (.a (.bp k5 0))), (6, .c (.a (.bp k6 0))), (7, .c (.a (.bp kl 0))), (33, .c (.a (.fn 55 [.bp kb 0])))] [] (upd (upd (upd (upd (upd (upd (upd H k3 (some (.box [.t (.v (.string n))]))) k11 (some (.map ndS.kk ef cf))) k5 (some (.box [.mp k11]))) k6 (some (.box [.ts kt .nn 1 zs]))) kl (some (.box [.t (.v (.int .i64 (((m1 + 1) : Nat) : Int)))]))) kt (some (.tip 9 1 zs.length))) kb (some (.box [.t (.sl .un 1 ((succs ltS L a).map strT))]))) rfl ⟨rfl, rfl, rfl, rfl, rfl, rfl, trivial⟩ trivial (fun _ _ h => h) rfl) ?_
        refine AW.rangeF rfl (Fx.fn55) (fun d => rfl) (fun _ => rfl) (by decide) (succ1S kb (succs ltS L a) (by omega)) (fun H H' hs h => hs _ _ h) (fun (pre : List ByteArray) H1 => H1 = upd (upd (upd (upd (upd (upd (upd H k3 (some (.box [.t (.v (.string n))]))) k11 (some (.map ndS.kk ef cf))) k5 (some (.box [.mp k11]))) k6 (some (.box [.ts kt .nn 1 zs]))) kl (some (.box [.t (.v (.int .i64 (((m1 + 1) : Nat) : Int)))]))) kt (some (.tip 9 1 zs.length))) kb (some (.box [.t (.sl .un 1 ((succs ltS L a).map strT))])) ∧ ∀ x ∈ pre, dist L x n ≠ some (m1 + 1)) (fun e H1 => e = Exit.exit 2 ∧ ∃ x k48, (succs ltS L a).find? (fun x => decide (dist L x n = some (m1 + 1))) = some x ∧ upd (upd (upd (upd (upd H k3 (some (.box [.t (.v (.string n))]))) k11 (some (.map ndS.kk ef cf))) k5 (some (.box [.mp k11]))) k6 (some (.box []))) kl (some (.box [])) k48 = none ∧ H1 = upd (upd (upd (upd (upd (upd H k3 (some (.box [.t (.v (.string n))]))) k11 (some (.map ndS.kk ef cf))) k5 (some (.box [.mp k11]))) k6 (some (.box [.ts k48 .nn 1 (zs ++ [strT x])]))) kl (some (.box [.t (.v (.int .i64 (((m1 + 1) : Nat) : Int)))]))) k48 (some (.tip 9 1 (zs ++ [strT x]).length))) (⟨rfl, fun x h => by simp at h⟩) (fun pre H1 h => by rw [h.1]; exact upd_same _ _ _) (fun l xs pre x H1 hX hpre hJ => ?_) (fun xs H1 hX hJ => ?_) (fun e H1 hJx he => ?_)
        ·
          obtain ⟨rfl, hpre9⟩ := hJ
          subst hX
          refine AWR.reg (by kernel_rfl) ?_
          refine SeqK.q (q_asC rfl rfl) rfl rfl rfl ?_
          refine SeqK.nil ?_
          refine ⟨rfl, ?_⟩
          refine AWR.block ?_
          refine AWR.seq ?_
          rcases hdx : dist L x n with _ | j
          ·
            have hvx : mget (ndS.nv x) ef = none := (hF.get x).trans (by simp only [hdx, Option.map_none])
            refine AWR.reg (by kernel_rfl) ?_
            refine SeqK.q (q_mvC rfl rfl) rfl rfl rfl ?_
            refine SeqK.r (g_load (r := .a _) rfl Fx.ty9 rfl (by (repeat rw [upd_ne _ _ (by first | assumption | exact Ne.symm (by assumption))]); first | assumption | exact upd_same _ _ _) rfl rfl rfl rfl) rfl ?_
            refine SeqK.q (q_neqS rfl rfl rfl) rfl rfl rfl ?_
            refine SeqK.qD (q_mvC rfl rfl) rfl rfl rfl (fun g38 => ?_) (fun g38 => ?_)
            ·
              refine SeqK.rOn (g_load (r := .a _) rfl Fx.ty84 rfl (by (repeat rw [upd_ne _ _ (by first | assumption | exact Ne.symm (by assumption))]); first | assumption | exact upd_same _ _ _) rfl rfl rfl rfl) rfl rfl rfl ?_
              refine SeqK.on (q_mvC rfl rfl) rfl rfl rfl rfl rfl ?_
              refine SeqK.rOn (g_lookup (r := .c (.a _)) (.str Fx.un9) rfl Fx.un84 Fx.ze3 rfl (by (repeat rw [upd_ne _ _ (by first | assumption | exact Ne.symm (by assumption))]); first | assumption | exact upd_same _ _ _) rfl rfl (by assumption) rfl rfl rfl) rfl rfl rfl ?_
              refine SeqK.rOn (g_load (r := .a _) rfl Fx.ty3 rfl (by (repeat rw [upd_ne _ _ (by first | assumption | exact Ne.symm (by assumption))]); first | assumption | exact upd_same _ _ _) rfl rfl rfl rfl) rfl rfl rfl ?_
              refine SeqK.on (q_eql rfl rfl rfl) rfl rfl rfl rfl rfl ?_
              refine SeqK.q (q_pkT rfl rfl rfl) rfl rfl rfl ?_
              refine SeqK.nil ?_
              refine AWR.condD rfl (fun h44 => ?_) (fun h44 => ?_)
              ·
                exact absurd h44 (by omega)
              ·
                have hP : dist L x n ≠ some (m1 + 1) := by rw [hdx]; simp
                refine AWR.skip ?_
                exact ⟨_, fun _ _ h => h, rfl, fun y hy => by
                  rcases List.mem_append.1 hy with hy | hy
                  · exact hpre9 y hy
                  · have hy : y = x := by simpa using hy
                    rw [hy]; exact hP⟩
            ·
              have hP : dist L x n ≠ some (m1 + 1) := by
                have e : x = n := Classical.not_not.1 g38
                rw [e, hdn]; intro h; injection h; omega
              refine SeqK.off rfl rfl rfl rfl rfl rfl ?_
              refine SeqK.off rfl rfl rfl rfl rfl rfl ?_
              refine SeqK.off rfl rfl rfl rfl rfl rfl ?_
              refine SeqK.off rfl rfl rfl rfl rfl rfl ?_
              refine SeqK.off rfl rfl rfl rfl rfl rfl ?_
              refine SeqK.q (q_pkF rfl rfl rfl) rfl rfl rfl ?_
              refine SeqK.nil ?_
              refine AWR.condF rfl ?_
              refine AWR.skip ?_
              exact ⟨_, fun _ _ h => h, rfl, fun y hy => by
                rcases List.mem_append.1 hy with hy | hy
                · exact hpre9 y hy
                · have hy : y = x := by simpa using hy
                  rw [hy]; exact hP⟩
          ·
            have hvx : mget (ndS.nv x) ef = some (iC (j : Nat)) := (hF.get x).trans (by simp only [hdx, Option.map_some])
            refine AWR.reg (by kernel_rfl) ?_
            refine SeqK.q (q_mvC rfl rfl) rfl rfl rfl ?_
            refine SeqK.r (g_load (r := .a _) rfl Fx.ty9 rfl (by (repeat rw [upd_ne _ _ (by first | assumption | exact Ne.symm (by assumption))]); first | assumption | exact upd_same _ _ _) rfl rfl rfl rfl) rfl ?_
            refine SeqK.q (q_neqS rfl rfl rfl) rfl rfl rfl ?_
            refine SeqK.qD (q_mvC rfl rfl) rfl rfl rfl (fun g38 => ?_) (fun g38 => ?_)
            ·
              refine SeqK.rOn (g_load (r := .a _) rfl Fx.ty84 rfl (by (repeat rw [upd_ne _ _ (by first | assumption | exact Ne.symm (by assumption))]); first | assumption | exact upd_same _ _ _) rfl rfl rfl rfl) rfl rfl rfl ?_
              refine SeqK.on (q_mvC rfl rfl) rfl rfl rfl rfl rfl ?_
              refine SeqK.rOn (g_lookup (r := .c (.a _)) (.str Fx.un9) rfl Fx.un84 Fx.ze3 rfl (by (repeat rw [upd_ne _ _ (by first | assumption | exact Ne.symm (by assumption))]); first | assumption | exact upd_same _ _ _) rfl rfl (by assumption) rfl rfl rfl) rfl rfl rfl ?_
              refine SeqK.rOn (g_load (r := .a _) rfl Fx.ty3 rfl (by (repeat rw [upd_ne _ _ (by first | assumption | exact Ne.symm (by assumption))]); first | assumption | exact upd_same _ _ _) rfl rfl rfl rfl) rfl rfl rfl ?_
              refine SeqK.on (q_eql rfl rfl rfl) rfl rfl rfl rfl rfl ?_
              refine SeqK.q (q_pkT rfl rfl rfl) rfl rfl rfl ?_
              refine SeqK.nil ?_
              refine AWR.condD rfl (fun h44 => ?_) (fun h44 => ?_)
              ·
                obtain rfl : j = m1 + 1 := by omega
                refine AWR.seq ?_
                rw [upd_swap _ _ _ nbt.symm]
                have hkt9 : upd (upd (upd (upd (upd (upd H k3 (some (.box [.t (.v (.string n))]))) k11 (some (.map ndS.kk ef cf))) k5 (some (.box [.mp k11]))) k6 (some (.box [.ts kt .nn 1 zs]))) kl (some (.box [.t (.v (.int .i64 (((m1 + 1) : Nat) : Int)))]))) kb (some (.box [.t (.sl .un 1 ((succs ltS L a).map strT))])) kt = none := by rw [upd_ne _ _ nbt.symm, upd_ne _ _ ntl, upd_ne _ _ nt6]; exact ht2
                refine AWR.reg (by kernel_rfl) ?_
                refine SeqK.r (g_load (r := .a _) rfl Fx.ty61 rfl (by (repeat rw [upd_ne _ _ (by first | assumption | exact Ne.symm (by assumption))]); first | assumption | exact upd_same _ _ _) rfl rfl rfl rfl) rfl ?_
                refine SeqK.q (q_mvC rfl rfl) rfl rfl rfl ?_
                refine SeqK.q (q_buildSlice _ rfl Fx.el61 rfl (by decide) rfl) rfl rfl rfl ?_
                refine SeqK.app1 rfl (hkt9) rfl Fx.el61 rfl rfl (by simp; omega) rfl rfl (fun k48 hk48 => ?_)
                refine SeqK.r (g_store rfl rfl Fx.ty61 rfl rfl (by have n48b := upd_lt hk48; have n48c := upd_lt n48b.2; have n48d := upd_lt n48c.2; rw [upd_ne _ _ n48d.1.symm, upd_ne _ _ nb6.symm, upd_ne _ _ nl6.symm]; exact upd_same _ _ _) rfl rfl rfl) rfl ?_
                refine SeqK.nil ?_
                refine AWR.exit ?_
                refine exit_pass ?_ rfl
                refine ⟨upd (upd (upd (upd (upd (upd H k3 (some (.box [.t (.v (.string n))]))) k11 (some (.map ndS.kk ef cf))) k5 (some (.box [.mp k11]))) k6 (some (.box [.ts k48 .nn 1 (zs ++ [strT x])]))) kl (some (.box [.t (.v (.int .i64 (((m1 + 1) : Nat) : Int)))]))) k48 (some (.tip 9 1 (zs ++ [strT x]).length)), fun j o h => by show upd (upd (upd (upd (upd (upd (upd (upd H k3 (some (.box [.t (.v (.string n))]))) k11 (some (.map ndS.kk ef cf))) k5 (some (.box [.mp k11]))) k6 (some (.box [.ts kt .nn 1 zs]))) kl (some (.box [.t (.v (.int .i64 (((m1 + 1) : Nat) : Int)))]))) kb (some (.box [.t (.sl .un 1 ((succs ltS L a).map strT))]))) k48 (some (.tip 9 1 (zs ++ [strT x]).length))) k6 (some (.box [.ts k48 .nn 1 (zs ++ [strT x])])) j = _; grind (splits := 60) [updI], rfl, x, k48, find_pre hpre (fun y hy => decide_eq_false (hpre9 y hy)) (decide_eq_true hdx), by grind (splits := 60) [updI], rfl⟩
              ·
                have hP : dist L x n ≠ some (m1 + 1) := by rw [hdx]; intro h; injection h; omega
                refine AWR.skip ?_
                exact ⟨_, fun _ _ h => h, rfl, fun y hy => by
                  rcases List.mem_append.1 hy with hy | hy
                  · exact hpre9 y hy
                  · have hy : y = x := by simpa using hy
                    rw [hy]; exact hP⟩
            ·
              have hP : dist L x n ≠ some (m1 + 1) := by
                have e : x = n := Classical.not_not.1 g38
                rw [e, hdn]; intro h; injection h; omega
              refine SeqK.off rfl rfl rfl rfl rfl rfl ?_
              refine SeqK.off rfl rfl rfl rfl rfl rfl ?_
              refine SeqK.off rfl rfl rfl rfl rfl rfl ?_
              refine SeqK.off rfl rfl rfl rfl rfl rfl ?_
              refine SeqK.off rfl rfl rfl rfl rfl rfl ?_
              refine SeqK.q (q_pkF rfl rfl rfl) rfl rfl rfl ?_
              refine SeqK.nil ?_
              refine AWR.condF rfl ?_
              refine AWR.skip ?_
              exact ⟨_, fun _ _ h => h, rfl, fun y hy => by
                rcases List.mem_append.1 hy with hy | hy
                · exact hpre9 y hy
                · have hy : y = x := by simpa using hy
                  rw [hy]; exact hP⟩
        ·
          obtain ⟨x, h1, h2⟩ := dist_next (lt := ltS) hda
          exact absurd h2 (hJ.2 x (hX ▸ h1))
        ·
          obtain ⟨rfl, x, k48, hfx, hk48, rfl⟩ := hJx
          have hdx : dist L x n = some (m1 + 1) := (by have h9 := List.find?_some hfx; exact of_decide_eq_true h9)
          obtain ⟨n48l, hx1⟩ := upd_lt hk48
          obtain ⟨n486, hx2⟩ := upd_lt hx1
          refine exit_here ?_
          refine AW.seq ?_
          refine AW.seq ?_
          refine AW.reg ?_
          refine SeqK.r (g_load (r := .a _) rfl Fx.ty3 rfl (by (repeat rw [upd_ne _ _ (by first | assumption | exact Ne.symm (by assumption))]); first | assumption | exact upd_same _ _ _) rfl rfl rfl rfl) rfl ?_
          refine SeqK.nil ?_
          refine AW.reg ?_
          refine SeqK.newAlloc (r := [_]) rfl rfl rfl Fx.ze3 rfl rfl rfl (fun k7 hk7 => ?_)
          refine SeqK.r (g_store rfl rfl Fx.ty3 rfl rfl (by (repeat rw [upd_ne _ _ (by first | assumption | exact Ne.symm (by assumption))]); first | assumption | exact upd_same _ _ _) rfl rfl rfl) rfl ?_
          refine SeqK.nil ?_
          refine AW.reg ?_
          refine SeqK.r (g_load (r := .a _) rfl Fx.ty3 rfl (by (repeat rw [upd_ne _ _ (by first | assumption | exact Ne.symm (by assumption))]); first | assumption | exact upd_same _ _ _) rfl rfl rfl rfl) rfl ?_
          refine SeqK.q (q_sub _ rfl rfl rfl ((by rw [w64 (by omega) (by omega)]; omega : IntKind.i64.wrap _ = ((m1 : Nat) : Int)))) rfl rfl rfl ?_
          refine SeqK.r (g_store rfl rfl Fx.ty3 rfl rfl (by (repeat rw [upd_ne _ _ (by first | assumption | exact Ne.symm (by assumption))]); first | assumption | exact upd_same _ _ _) rfl rfl rfl) rfl ?_
          refine SeqK.nil ?_
          exact ⟨m1, _, Wk.keep 51 [(0, .c (.a (.bp k 0))), (3, .c (.a (.bp k3 0))), (5, .c (.a (.bp k5 0))), (6, .c (.a (.bp k6 0))), (7, .c (.a (.bp (k7) 0)))] [] (upd (upd (upd (upd (upd (upd H k3 (some (.box [.t (.v (.string n))]))) k11 (some (.map ndS.kk ef cf))) k5 (some (.box [.mp k11]))) k6 (some (.box [.ts (k48) .nn 1 (zs ++ [strT x])]))) (k7) (some (.box [.t (.v (.int .i64 (((m1) : Nat) : Int)))]))) (k48) (some (.tip 9 1 (zs ++ [strT x]).length))) rfl ⟨rfl, rfl, rfl, rfl, rfl, trivial⟩ trivial (fun j o h => by show upd (upd (upd (upd (upd (upd (upd (upd (upd H k3 (some (.box [.t (.v (.string n))]))) k11 (some (.map ndS.kk ef cf))) k5 (some (.box [.mp k11]))) k6 (some (.box [.ts k48 .nn 1 (zs ++ [strT x])]))) kl (some (.box [.t (.v (.int .i64 (((m1 + 1) : Nat) : Int)))]))) k48 (some (.tip 9 1 (zs ++ [strT x]).length))) k7 (some (.box [.t (.v (.int .i64 0))]))) k7 (some (.box [.t (.v (.int .i64 (((m1 + 1) : Nat) : Int)))]))) k7 (some (.box [.t (.v (.int .i64 ((m1 : Nat) : Int)))])) j = _; grind (splits := 60) [updI]) rfl, Nat.lt_succ_self _, k7, k48, p ++ [a], x, zs ++ [strT x], ⟨by rw [hzs]; simp, by grind (splits := 60) [updI], by grind (splits := 60) [updI], by omega, hdx, by
            rw [← hpc, down, hfx]; simp⟩, rfl⟩
      ·
        refine AW.exit ?_
        refine eth_e ?_
        refine eth_e ?_
        refine exit_here ?_
        refine AW.seq ?_
        refine AW.reg ?_
        refine SeqK.r (g_load (r := .a _) rfl Fx.ty61 rfl (by (repeat rw [upd_ne _ _ (by first | assumption | exact Ne.symm (by assumption))]); first | assumption | exact upd_same _ _ _) rfl rfl rfl rfl) rfl ?_
        refine SeqK.q (q_asC rfl rfl) rfl rfl rfl ?_
        refine SeqK.nil ?_
        refine AW.ret ?_
        obtain rfl : m = 0 := by simp at h23; omega
        exact fin_w (x := .c _) (H) (.tmp rfl .nil) rfl (fun j o h => (upd_in (upd_in (upd_in (upd_in (upd_in (upd_in (fun _ _ h => h) hk3) hk11b) hk5c) hk6e) hl4) ht5) j o h) (⟨.inr ⟨by simp, by rw [← hpc, hzs]; rfl⟩, rfl⟩)

end Go.Proofs.Ytikcmjamioopbaa.W
namespace Go.Proofs.Ytikcmjamioopbaa.W
open Go.RowKit E M
set_option linter.unusedVariables false
set_option linter.unusedSimpArgs false
set_option linter.unusedSectionVars false
theorem Gr.full {nd : Nd Int} {H H' : Heap} {k : Nat} {L : GE} (h : Gr nd H k L) (hs : ∀ j o, E.full H j = some o → H' j = some o) : Gr nd H' k L := h.mono fun j o hj he => hs j o (full_some.2 ⟨hj, by
  rcases he with ⟨r, rfl⟩ | ⟨kk, es, c, rfl⟩ <;> simp [AO.empty]⟩)
/-- the graph of a list of edges, added in turn -/
def ofE (es : List (Int × Int)) : GE := es.foldl (fun L e => addE L e.1 e.2) []
theorem ofE_take {es : List (Int × Int)} {i : Nat} (h : i < es.length) : ofE (es.take (i + 1)) = addE (ofE (es.take i)) es[i].1 es[i].2 := by
  unfold ofE; rw [List.take_add_one, List.getElem?_eq_getElem h]; simp only [List.foldl_append, Option.toList, List.foldl_cons, List.foldl_nil]
theorem ofE_len {es : List (Int × Int)} : (ofE es).length ≤ es.length := by
  have key : ∀ (es : List (Int × Int)) (L : GE), (es.foldl (fun L e => addE L e.1 e.2) L).length ≤ L.length + es.length := by
    intro es
    induction es with
    | nil => intro L; simp
    | cons e r ih => intro L; have := ih (addE L e.1 e.2); have h2 := addE_len (L := L) (a := e.1) (b := e.2); simp; omega
  have := key es []
  simpa [ofE] using this

set_option maxRecDepth 20000 in
theorem list_z (H : Heap) (k : Nat) (L : GE) (n : Int) (G : Gr ndI H k L) (hL : L.length ≤ 400000) : E.Spec Try.prog 15 [.a (.bp k 0), iC n] H fun x H' => x = .c (iL .ne (succs ltI L n)) ∧ H' = H := by
  refine Spec.enter Try.func15 rfl ?_
  refine AW.wk (Wk.keep 20 [(0, .c (.a (.bp k 0))), (1, .c (iC n))] [] (H) rfl ⟨rfl, rfl, trivial⟩ trivial (fun _ _ h => h) rfl) ?_
  refine AW.seq ?_
  refine AW.reg ?_
  refine SeqK.q (q_asC rfl rfl) rfl rfl rfl ?_
  refine SeqK.nil ?_
  refine AW.seq ?_
  refine AW.reg ?_
  refine SeqK.r (b_alloc (r := [_]) rfl rfl Fx.ze30 rfl rfl rfl rfl) rfl ?_
  refine SeqK.nil ?_
  refine AW.seq ?_
  refine AW.seq ?_
  refine AW.reg ?_
  refine SeqK.q (q_mvC rfl rfl) rfl rfl rfl ?_
  refine SeqK.q (q_mvC rfl rfl) rfl rfl rfl ?_
  refine SeqK.callE rfl rfl rfl rfl Fx.fn18 rfl (succI _ k L n G (by omega)) (fun _ _ ⟨_, _, h, _⟩ => by rw [h]; rfl) (fun x10 H10 q10 => ?_)
  obtain ⟨kb, hkb, rfl, hH⟩ := q10
  subst hH
  refine SeqK.q (q_asC rfl rfl) rfl rfl rfl ?_
  refine SeqK.nil ?_
  refine AW.seq ?_
  refine AW.reg ?_
  refine SeqK.q (q_mvC rfl rfl) rfl rfl rfl ?_
  refine SeqK.q (q_neqN rfl rfl rfl Fx.nk39) rfl rfl rfl ?_
  refine SeqK.nil ?_
  refine AW.condT rfl ?_
  refine AW.seq ?_
  refine AW.tipL 5 0 3 1 rfl rfl (fun kt hkt => ?_)
  refine AW.exp 5 rfl (fun _ _ _ _ h => by cases h) (fun k5 hk5 => ?_)
  obtain ⟨n5t, hk5b⟩ := upd_lt hk5
  have hk5c := (upd_lt hk5b).2
  refine AW.reg ?_
  refine SeqK.q (q_mvC rfl rfl) rfl rfl rfl ?_
  refine SeqK.nil ?_
  refine AW.block ?_
  rw [upd_swap _ _ _ n5t.symm]
  refine AW.wk (Wk.keep 20 [(5, .c (.a (.bp k5 0))), (13, .c (.a (.fn 41 [.bp kb 0])))] [] (upd (upd (upd H kb (some (.box [.t (.sl .un 1 ((succs ltI L n).map i64T))]))) k5 (some (.box [.ts kt .ne 1 []]))) kt (some (.tip 3 1 0))) rfl ⟨rfl, rfl, trivial⟩ trivial (fun _ _ h => h) rfl) ?_
  refine AW.rangeF rfl (Fx.fn41) (fun d => rfl) (fun _ => rfl) (by decide) (succ1I kb (succs ltI L n) (by have := succs_len (lt := ltI) (L := L) (a := n); omega)) (fun H H' hs h => hs _ _ h) (fun (pre : List Int) H1 => ∃ k9 zs, zs = pre.map i64T ∧ upd (upd H kb (some (.box [.t (.sl .un 1 ((succs ltI L n).map i64T))]))) k5 (some (.box [])) k9 = none ∧ H1 = upd (upd (upd H kb (some (.box [.t (.sl .un 1 ((succs ltI L n).map i64T))]))) k5 (some (.box [.ts k9 .ne 1 zs]))) k9 (some (.tip 3 1 zs.length))) (fun _ _ => False) (⟨kt, [], rfl, by rw [upd_ne _ _ n5t.symm]; exact hkt, rfl⟩) (fun pre H1 ⟨k9, zs, _, h2, e⟩ => by
    subst e
    obtain ⟨h3, h4⟩ := upd_lt h2
    rw [upd_ne _ _ (upd_lt h4).1.symm, upd_ne _ _ (upd_lt hk5b).1.symm]; exact upd_same _ _ _) (fun l xs pre x H1 hX hpre hJ => ?_) (fun xs H1 hX hJ => ?_) (fun _ _ h => h.elim)
  ·
    obtain ⟨k1, zs, hzs, hk1, rfl⟩ := hJ
    subst hX
    have hlen : pre.length + 1 ≤ L.length := by
      have h1 := hpre.length_le
      have h2 := succs_len (lt := ltI) (L := L) (a := n)
      simp at h1; omega
    have hne : k5 ≠ k1 := (upd_lt hk1).1.symm
    replace hk1 : upd (upd H kb (some (.box [.t (.sl .un 1 ((succs ltI L n).map i64T))]))) k5 (some (.box [.ts k1 .ne 1 zs])) k1 = none := by rw [upd_ne _ _ hne.symm]; exact (upd_lt hk1).2
    refine AWR.reg (by kernel_rfl) ?_
    refine SeqK.q (q_asC rfl rfl) rfl rfl rfl ?_
    refine SeqK.nil ?_
    refine ⟨rfl, ?_⟩
    refine AWR.block ?_
    refine AWR.reg (by kernel_rfl) ?_
    refine SeqK.r (g_load (r := .a _) rfl Fx.ty30 rfl (by (repeat rw [upd_ne _ _ (by first | assumption | exact Ne.symm (by assumption))]); first | assumption | exact upd_same _ _ _) rfl rfl rfl rfl) rfl ?_
    refine SeqK.q (q_mvC rfl rfl) rfl rfl rfl ?_
    refine SeqK.q (q_buildSlice _ rfl Fx.el30 rfl (by decide) rfl) rfl rfl rfl ?_
    refine SeqK.app1 rfl (hk1) rfl Fx.el30 rfl rfl (by rw [hzs]; simp; omega) rfl rfl (fun k18 hk18 => ?_)
    refine SeqK.r (g_store rfl rfl Fx.ty30 rfl rfl (by rw [upd_ne _ _ (upd_lt hk18).1.symm]; exact upd_same _ _ _) rfl rfl rfl) rfl ?_
    refine SeqK.nil ?_
    refine ⟨_, fun _ _ h => h, k18, zs ++ [i64T x], by rw [hzs]; simp, by rw [upd_ne _ _ (upd_lt hk18).1]; exact (upd_lt hk18).2, ?_⟩
    show upd (upd (upd _ k5 _) k18 _) k5 _ = _
    rw [upd_swap _ _ _ (upd_lt hk18).1, upd_upd]; rfl
  ·
    obtain ⟨k1, zs, hzs, hk1, rfl⟩ := hJ
    subst hX
    have hne : k5 ≠ k1 := (upd_lt hk1).1.symm
    refine AW.seq ?_
    refine AW.reg ?_
    refine SeqK.r (g_load (r := .a _) rfl Fx.ty30 rfl (by (repeat rw [upd_ne _ _ (by first | assumption | exact Ne.symm (by assumption))]); first | assumption | exact upd_same _ _ _) rfl rfl rfl rfl) rfl ?_
    refine SeqK.q (q_asC rfl rfl) rfl rfl rfl ?_
    refine SeqK.nil ?_
    refine AW.ret ?_
    exact fin_w (x := .c _) (H) (.tmp rfl .nil) rfl (fun j o h => (upd_in (upd_in (upd_in (fun _ _ h => h) hkb) hk5c) (upd_lt (upd_lt hk1).2).2) j o h) (⟨by rw [hzs]; rfl, rfl⟩)

theorem listI (H : Heap) (k : Nat) (L : GE) (n : Int) (G : Gr ndI H k L) (hL : L.length ≤ 400000) : E.Spec Try.prog 15 [.a (.bp k 0), iC n] H fun x H' => x = .c (iL .un (succs ltI L n)) ∧ H' = H :=
  Spec.xw (list_z H k L n G hL) fun x H' ⟨h1, h2⟩ => ⟨_, by rw [h1]; exact XW.un, rfl, h2⟩

set_option maxRecDepth 20000 in
theorem of_any (H : Heap) (es : List (Int × Int)) (z : Nz) (hes : es.length ≤ 100000) : E.Spec Try.prog 36 [.a (.t (.sl z 2 (es.map eT)))] H fun x H' => ∃ c, x = .c (.a (.bp c 0)) ∧ Gr ndI H' c (ofE es) := by
  refine Spec.enter Try.func36 rfl ?_
  refine AW.wk (Wk.keep 23 [(0, .c (.a (.t (.sl z 2 (es.map eT)))))] [] (H) rfl ⟨rfl, trivial⟩ trivial (fun _ _ h => h) rfl) ?_
  refine AW.seq ?_
  refine AW.reg ?_
  refine SeqK.q (q_asC rfl rfl) rfl rfl rfl ?_
  refine SeqK.nil ?_
  refine AW.seq ?_
  refine AW.reg ?_
  refine SeqK.callE rfl rfl rfl rfl Fx.fn30 rfl (newI _) (fun _ _ ⟨_, h, _⟩ => by rw [h]; rfl) (fun x6 H6 q6 => ?_)
  obtain ⟨c, rfl, G, _⟩ := q6
  refine SeqK.q (q_asC rfl rfl) rfl rfl rfl ?_
  refine SeqK.nil ?_
  refine AW.seq ?_
  refine AW.seq ?_
  refine AW.reg ?_
  refine SeqK.q (q_mvC rfl rfl) rfl rfl rfl ?_
  refine SeqK.q (q_neqN rfl rfl rfl Fx.nk23) rfl rfl rfl ?_
  refine SeqK.nil ?_
  refine AW.condT rfl ?_
  refine AW.seq ?_
  refine AW.reg ?_
  refine SeqK.q (q_mvC rfl rfl) rfl rfl rfl ?_
  refine SeqK.q (q_len rfl Fx.un24 rfl) rfl rfl rfl ?_
  refine SeqK.q (q_mvC rfl rfl) rfl rfl rfl ?_
  refine SeqK.nil ?_
  refine AW.block ?_
  refine AW.loop (fun (i : Nat) s => ∃ (Hx : Heap), (i ≤ es.length ∧ Gr ndI Hx c (ofE (es.take i))) ∧ s = ⟨23, sp [(3, .c (.a (.bp c 0))), (9, .c (.a (.t (.sl z 2 (es.map eT))))), (10, iX .i64 (((es.map eT).length : Nat) : Int)), (11, iX .i64 ((i : Nat) : Int))], lv [], Hx⟩) (fun i => es.length - i) 0 ⟨_, Wk.keep 23 [(3, .c (.a (.bp c 0))), (9, .c (.a (.t (.sl z 2 (es.map eT))))), (10, iX .i64 (((es.map eT).length : Nat) : Int)), (11, iX .i64 ((((0 : Nat)) : Nat) : Int))] [] ((H6)) rfl ⟨rfl, rfl, rfl, rfl, trivial⟩ trivial (fun _ _ h => h) rfl, H6, ⟨Nat.zero_le _, G⟩, rfl⟩ (fun i s hs => ?_)
  obtain ⟨Hx, ⟨hi0, G⟩, rfl⟩ := hs
  refine AW.seq ?_
  refine AW.reg ?_
  refine SeqK.q (q_lss rfl rfl rfl) rfl rfl rfl ?_
  refine SeqK.nil ?_
  refine AW.seq ?_
  refine AW.condD rfl (fun h12 => ?_) (fun h12 => ?_)
  ·
    have hi : i < es.length := by simpa using h12
    refine AW.skip ?_
    refine AW.seq ?_
    refine AW.block ?_
    refine AW.seq ?_
    refine AW.reg ?_
    refine SeqK.q (q_index _ rfl Fx.sl24 rfl rfl (by omega) (idx_map (f := eT) hi)) rfl rfl rfl ?_
    refine SeqK.q (q_load (.g [_, _]) rfl Fx.ty70 rfl rfl rfl) rfl rfl rfl ?_
    refine SeqK.r (b_alloc (r := [_, _]) rfl rfl Fx.ze70 rfl rfl rfl rfl) rfl ?_
    refine SeqK.r (b_store (r := [_, _]) rfl rfl Fx.ty70 rfl rfl rfl rfl rfl rfl) rfl ?_
    refine SeqK.nil ?_
    refine AW.reg ?_
    refine SeqK.q (q_mvC rfl rfl) rfl rfl rfl ?_
    refine SeqK.q (q_indexL _ rfl Fx.ar70 rfl rfl (by omega) (by omega) rfl) rfl rfl rfl ?_
    refine SeqK.r (b_load (r := .a _) rfl Fx.ty3 rfl rfl rfl rfl rfl rfl) rfl ?_
    refine SeqK.q (q_indexL _ rfl Fx.ar70 rfl rfl (by omega) (by omega) rfl) rfl rfl rfl ?_
    refine SeqK.r (b_load (r := .a _) rfl Fx.ty3 rfl rfl rfl rfl rfl rfl) rfl ?_
    refine SeqK.callE rfl rfl rfl rfl Fx.fn19 rfl (addI _ c _ es[i].1 es[i].2 G) (fun _ _ h => by rw [h.1]; rfl) (fun x20 H20 q20 => ?_)
    obtain ⟨rfl, G2⟩ := q20
    refine SeqK.nil ?_
    refine AW.reg ?_
    refine SeqK.q (q_add _ rfl rfl rfl (w64 (by omega) (by omega))) rfl rfl rfl ?_
    refine SeqK.q (q_mvC rfl rfl) rfl rfl rfl ?_
    refine SeqK.nil ?_
    exact ⟨i + 1, _, Wk.keep 23 [(3, .c (.a (.bp c 0))), (9, .c (.a (.t (.sl z 2 (es.map eT))))), (10, iX .i64 (((es.map eT).length : Nat) : Int)), (11, iX .i64 (((i + 1) : Nat) : Int))] [] ((H20)) rfl ⟨rfl, rfl, rfl, rfl, trivial⟩ trivial (fun _ _ h => h) rfl, by omega, H20, ⟨hi, by rw [ofE_take hi]; exact G2⟩, rfl⟩
  ·
    refine AW.exit ?_
    refine eth_e ?_
    refine eth_e ?_
    refine exit_here ?_
    refine AW.seq ?_
    refine AW.reg ?_
    refine SeqK.q (q_mvC rfl rfl) rfl rfl rfl ?_
    refine SeqK.q (q_asC rfl rfl) rfl rfl rfl ?_
    refine SeqK.nil ?_
    refine AW.ret ?_
    exact fin_x (x := .c _) (_) (.tmp rfl .nil) rfl (fun _ _ h => h) (⟨c, rfl, by rw [show i = es.length by simp at h12; omega, List.take_length] at G; exact G⟩)

end Go.Proofs.Ytikcmjamioopbaa.W
namespace Go.Proofs.Ytikcmjamioopbaa.W
open Go.RowKit E M
set_option linter.unusedVariables false
set_option linter.unusedSimpArgs false
set_option linter.unusedSectionVars false
theorem cycS (H : Heap) (k : Nat) (L : GE) (n : Int) (l : List Int) (G : Gr ndI H k L) (hL : L.length ≤ 400000) (h : cyc ltI L n = l) (hl : l ≠ []) : E.Spec Try.prog 22 [.a (.bp k 0), iC n] H fun x H' => x = .c (iL .nn l) ∧ H' = H :=
  (cycleI H k L n G hL).mono fun x H' ⟨h1, h2⟩ => ⟨by
    rcases h1 with ⟨h3, _⟩ | ⟨_, h3⟩
    · exact absurd (h.symm.trans (cyc_nil.2 h3)) hl
    · rw [h3, h], h2⟩
theorem cycN (H : Heap) (k : Nat) (L : GE) (n : Int) (G : Gr ndI H k L) (hL : L.length ≤ 400000) (h : dist L n n = none) : E.Spec Try.prog 22 [.a (.bp k 0), iC n] H fun x H' => x = .c (.a (.t (.v (.slice none 0 0)))) ∧ H' = H :=
  (cycleI H k L n G hL).mono fun x H' ⟨h1, h2⟩ => ⟨by
    rcases h1 with ⟨_, h3⟩ | ⟨h3, _⟩
    · exact h3
    · exact absurd h h3, h2⟩
def A0 : GE := ofE [(1,2),(2,3),(3,1),(2,4),(4,1)]
theorem aw1 : cyc ltI A0 1 = [1,2,3] := by decide +kernel
theorem aw2 : cyc ltI A0 4 = [4,1,2] := by decide +kernel
theorem aw3 : hasE A0 1 2 = true := by decide +kernel
def A1 : GE := rmE (addE A0 1 2) 3
theorem aw4 : cyc ltI A1 1 = [1,2,4] := by decide +kernel
def A2 : GE := lvE A1 2
theorem aw5 : dist A2 1 1 = none := by decide +kernel
theorem aw6 : (dist A2 4 2).isSome = true := by decide +kernel
theorem aw7 : (dist A2 2 2).isSome = false := by decide +kernel
theorem aw8 : nodes ltI A2 = [1,2,4] := by decide +kernel

set_option maxRecDepth 20000 in
theorem awakeI (H : Heap) : E.Spec Try.prog 12 [] H fun x H' => x = bX true := by
  refine Spec.enter Try.func12 rfl ?_
  refine AW.wk (Wk.keep 64 [] [] (H) rfl trivial trivial (fun _ _ h => h) rfl) ?_
  refine AW.seq ?_
  refine AW.reg ?_
  refine SeqK.q (q_asC rfl rfl) rfl rfl rfl ?_
  refine SeqK.nil ?_
  refine AW.seq ?_
  refine AW.reg ?_
  refine SeqK.q (q_build2 (zs := [_, _]) (r := [_, _]) [(0, 1), (1, 1)] _ rfl Fx.ze70 rfl Fx.bp70 rfl rfl rfl rfl) rfl rfl rfl ?_
  refine SeqK.q (q_build2 (zs := [_, _]) (r := [_, _]) [(0, 1), (1, 1)] _ rfl Fx.ze70 rfl Fx.bp70 rfl rfl rfl rfl) rfl rfl rfl ?_
  refine SeqK.q (q_build2 (zs := [_, _]) (r := [_, _]) [(0, 1), (1, 1)] _ rfl Fx.ze70 rfl Fx.bp70 rfl rfl rfl rfl) rfl rfl rfl ?_
  refine SeqK.q (q_build2 (zs := [_, _]) (r := [_, _]) [(0, 1), (1, 1)] _ rfl Fx.ze70 rfl Fx.bp70 rfl rfl rfl rfl) rfl rfl rfl ?_
  refine SeqK.q (q_build2 (zs := [_, _]) (r := [_, _]) [(0, 1), (1, 1)] _ rfl Fx.ze70 rfl Fx.bp70 rfl rfl rfl rfl) rfl rfl rfl ?_
  refine SeqK.q (q_buildSlice _ rfl Fx.el24 rfl (by decide) rfl) rfl rfl rfl ?_
  refine SeqK.callE rfl rfl rfl rfl Fx.fn36 rfl (of_any _ [(1,2),(2,3),(3,1),(2,4),(4,1)] .nn (by decide)) (fun _ _ ⟨_, h, _⟩ => by rw [h]; rfl) (fun x12 H12 q12 => ?_)
  obtain ⟨c, rfl, G0⟩ := q12
  refine SeqK.q (q_asC rfl rfl) rfl rfl rfl ?_
  refine SeqK.nil ?_
  refine AW.seq ?_
  refine AW.seq ?_
  refine AW.reg ?_
  refine SeqK.q (q_mvC rfl rfl) rfl rfl rfl ?_
  refine SeqK.q (q_eqlN rfl rfl rfl Fx.nk23) rfl rfl rfl ?_
  refine SeqK.nil ?_
  refine AW.condF rfl ?_
  refine AW.skip ?_
  refine AW.seq ?_
  refine AW.reg ?_
  refine SeqK.q (q_mvC rfl rfl) rfl rfl rfl ?_
  refine SeqK.callE rfl rfl rfl rfl Fx.fn22 rfl (cycS _ c A0 1 [1,2,3] G0 (by decide +kernel) aw1 (by decide)) (fun _ _ h => by rw [h.1]; rfl) (fun x16 H16 q16 => ?_)
  obtain ⟨rfl, hH⟩ := q16
  subst hH
  refine SeqK.q (q_mvC rfl rfl) rfl rfl rfl ?_
  refine SeqK.callE rfl rfl rfl rfl Fx.fn22 rfl (cycS _ c A0 4 [4,1,2] G0 (by decide +kernel) aw2 (by decide)) (fun _ _ h => by rw [h.1]; rfl) (fun x18 H18 q18 => ?_)
  obtain ⟨rfl, hH⟩ := q18
  subst hH
  refine SeqK.q (q_asC rfl rfl) rfl rfl rfl ?_
  refine SeqK.q (q_asC rfl rfl) rfl rfl rfl ?_
  refine SeqK.nil ?_
  refine AW.seq ?_
  refine AW.reg ?_
  refine SeqK.q (q_mvC rfl rfl) rfl rfl rfl ?_
  refine SeqK.callE rfl rfl rfl rfl Fx.fn19 rfl ((addI _ c A0 1 2 G0).mono fun x H9 h => (⟨by rw [h.1, aw3]; rfl, h.2⟩ : x = bX false ∧ Gr ndI H9 c (addE A0 1 2))) (fun _ _ h => by rw [h.1]; rfl) (fun x20 H20 q20 => ?_)
  obtain ⟨rfl, G1⟩ := q20
  refine SeqK.q (q_asC rfl rfl) rfl rfl rfl ?_
  refine SeqK.nil ?_
  refine AW.seq ?_
  refine AW.reg ?_
  refine SeqK.q (q_mvC rfl rfl) rfl rfl rfl ?_
  refine SeqK.callE rfl rfl rfl rfl Fx.fn25 rfl (removeI _ c _ 3 G1) (fun _ _ h => by rw [h.1]; rfl) (fun x22 H22 q22 => ?_)
  obtain ⟨rfl, G1⟩ := q22
  refine SeqK.nil ?_
  refine AW.seq ?_
  refine AW.reg ?_
  refine SeqK.q (q_mvC rfl rfl) rfl rfl rfl ?_
  refine SeqK.callE rfl rfl rfl rfl Fx.fn22 rfl (cycS _ c A1 1 [1,2,4] G1 (by decide +kernel) aw4 (by decide)) (fun _ _ h => by rw [h.1]; rfl) (fun x24 H24 q24 => ?_)
  obtain ⟨rfl, hH⟩ := q24
  subst hH
  refine SeqK.q (q_asC rfl rfl) rfl rfl rfl ?_
  refine SeqK.nil ?_
  refine AW.seq ?_
  refine AW.reg ?_
  refine SeqK.q (q_mvC rfl rfl) rfl rfl rfl ?_
  refine SeqK.callE rfl rfl rfl rfl Fx.fn28 rfl (leaveI _ c _ 2 G1) (fun _ _ h => by rw [h.1]; rfl) (fun x26 H26 q26 => ?_)
  obtain ⟨rfl, G2⟩ := q26
  refine SeqK.nil ?_
  refine AW.seq ?_
  refine AW.reg ?_
  refine SeqK.q (q_mvC rfl rfl) rfl rfl rfl ?_
  refine SeqK.q (q_buildSlice _ rfl Fx.el30 rfl (by decide) rfl) rfl rfl rfl ?_
  refine SeqK.q (q_call _ rfl Fx.fn14 rfl (same_any [1,2,3] [1,2,3] .nn .nn (by decide) (by decide)) rfl) rfl rfl rfl ?_
  refine SeqK.q (q_mvC rfl rfl) rfl rfl rfl ?_
  refine SeqK.on (q_mvC rfl rfl) rfl rfl rfl rfl rfl ?_
  refine SeqK.on (q_buildSlice _ rfl Fx.el30 rfl (by decide) rfl) rfl rfl rfl rfl rfl ?_
  refine SeqK.on (q_call _ rfl Fx.fn14 rfl (same_any [4,1,2] [4,1,2] .nn .nn (by decide) (by decide)) rfl) rfl rfl rfl rfl rfl ?_
  refine SeqK.q (q_pkT rfl rfl rfl) rfl rfl rfl ?_
  refine SeqK.q (q_mvC rfl rfl) rfl rfl rfl ?_
  refine SeqK.on (q_mvC rfl rfl) rfl rfl rfl rfl rfl ?_
  refine SeqK.on (q_not rfl rfl) rfl rfl rfl rfl rfl ?_
  refine SeqK.q (q_pkT rfl rfl rfl) rfl rfl rfl ?_
  refine SeqK.q (q_mvC rfl rfl) rfl rfl rfl ?_
  refine SeqK.on (q_mvC rfl rfl) rfl rfl rfl rfl rfl ?_
  refine SeqK.on (q_buildSlice _ rfl Fx.el30 rfl (by decide) rfl) rfl rfl rfl rfl rfl ?_
  refine SeqK.on (q_call _ rfl Fx.fn14 rfl (same_any [1,2,4] [1,2,4] .nn .nn (by decide) (by decide)) rfl) rfl rfl rfl rfl rfl ?_
  refine SeqK.q (q_pkT rfl rfl rfl) rfl rfl rfl ?_
  refine SeqK.q (q_mvC rfl rfl) rfl rfl rfl ?_
  refine SeqK.on (q_mvC rfl rfl) rfl rfl rfl rfl rfl ?_
  refine SeqK.callOn rfl rfl rfl rfl rfl rfl Fx.fn22 rfl (cycN _ c A2 1 G2 (by decide +kernel) aw5) (fun _ _ h => by rw [h.1]; rfl) (fun x46 H46 q46 => ?_)
  obtain ⟨rfl, hH⟩ := q46
  subst hH
  refine SeqK.on (q_eqlN rfl rfl rfl Fx.nk30) rfl rfl rfl rfl rfl ?_
  refine SeqK.q (q_pkT rfl rfl rfl) rfl rfl rfl ?_
  refine SeqK.q (q_mvC rfl rfl) rfl rfl rfl ?_
  refine SeqK.on (q_mvC rfl rfl) rfl rfl rfl rfl rfl ?_
  refine SeqK.callOn rfl rfl rfl rfl rfl rfl Fx.fn20 rfl ((reachesI _ c A2 4 2 G2 (by decide +kernel)).mono fun x H9 h => (⟨by rw [h.1, aw6], h.2⟩ : x = bX true ∧ H9 = _)) (fun _ _ h => by rw [h.1]; rfl) (fun x51 H51 q51 => ?_)
  obtain ⟨rfl, hH⟩ := q51
  subst hH
  refine SeqK.q (q_pkT rfl rfl rfl) rfl rfl rfl ?_
  refine SeqK.q (q_mvC rfl rfl) rfl rfl rfl ?_
  refine SeqK.on (q_mvC rfl rfl) rfl rfl rfl rfl rfl ?_
  refine SeqK.callOn rfl rfl rfl rfl rfl rfl Fx.fn20 rfl ((reachesI _ c A2 2 2 G2 (by decide +kernel)).mono fun x H9 h => (⟨by rw [h.1, aw7], h.2⟩ : x = bX false ∧ H9 = _)) (fun _ _ h => by rw [h.1]; rfl) (fun x55 H55 q55 => ?_)
  obtain ⟨rfl, hH⟩ := q55
  subst hH
  refine SeqK.on (q_not rfl rfl) rfl rfl rfl rfl rfl ?_
  refine SeqK.q (q_pkT rfl rfl rfl) rfl rfl rfl ?_
  refine SeqK.q (q_mvC rfl rfl) rfl rfl rfl ?_
  refine SeqK.on (q_mvC rfl rfl) rfl rfl rfl rfl rfl ?_
  refine SeqK.callOn rfl rfl rfl rfl rfl rfl Fx.fn17 rfl ((nodesI _ c A2 G2 (by decide +kernel)).mono fun x H9 h => (⟨by rw [h.1, aw8], h.2⟩ : x = .c (iL .un [1,2,4]) ∧ H9 = _)) (fun _ _ h => by rw [h.1]; rfl) (fun x60 H60 q60 => ?_)
  obtain ⟨rfl, hH⟩ := q60
  subst hH
  refine SeqK.on (q_buildSlice _ rfl Fx.el30 rfl (by decide) rfl) rfl rfl rfl rfl rfl ?_
  refine SeqK.on (q_call _ rfl Fx.fn14 rfl (same_any [1,2,4] [1,2,4] .un .nn (by decide) (by decide)) rfl) rfl rfl rfl rfl rfl ?_
  refine SeqK.q (q_pkT rfl rfl rfl) rfl rfl rfl ?_
  refine SeqK.q (q_asC rfl rfl) rfl rfl rfl ?_
  refine SeqK.nil ?_
  refine AW.ret ?_
  exact fin_x (x := .c _) (_) (.tmp rfl .nil) rfl (fun _ _ h => h) (rfl)

theorem awakeF (H : Heap) : E.Spec Try.prog 12 [] H fun x H' => x = bX true ∧ ∀ j o, E.full H j = some o → H' j = some o :=
  (E.Spec.frame2 (awakeI (fun _ => none)) (Part.start H)).mono fun x H' ⟨A', h1, h2⟩ => ⟨h1, h2.sub⟩
end Go.Proofs.Ytikcmjamioopbaa.W
namespace Go.Proofs.Ytikcmjamioopbaa.W
open Go.RowKit E M
set_option linter.unusedVariables false
set_option linter.unusedSimpArgs false
set_option linter.unusedSectionVars false
theorem XW.gnil {sz : Nat} : XW (.c (.g [.t (.v (.slice none 0 0))])) (.c (.g [.t (.sl .un sz [])])) := ⟨rfl, fun c v h => by
  obtain ⟨us, rfl, h1, h2⟩ := h
  refine ⟨us, rfl, by simpa using h1, fun i x v hx hv => ?_⟩
  cases i with
  | zero =>
    simp at hx; subst hx
    exact XW.nilU.2 c v (h2 0 _ v rfl hv)
  | succ i => simp at hx⟩
abbrev Act' := Int × Int × Int
abbrev aT (o : Act') : List E.T := [.v (.int .u8 o.1), .v (.int .i8 o.2.1), .v (.int .i8 o.2.2)]
abbrev i8 (n : Int) : Int := IntKind.i64.wrap n
def stepE (L : GE) (o : Act') : GE := if o.1 = 0 then rmE L (i8 o.2.1) else if o.1 = 1 then lvE L (i8 o.2.1) else addE L (i8 o.2.1) (i8 o.2.2)
def runE (ops : List Act') : GE := ops.foldl stepE []
theorem runE_take {ops : List Act'} {i : Nat} (h : i < ops.length) : runE (ops.take (i + 1)) = stepE (runE (ops.take i)) ops[i] := by
  unfold runE; rw [List.take_add_one, List.getElem?_eq_getElem h]; simp only [List.foldl_append, Option.toList, List.foldl_cons, List.foldl_nil]
theorem runE_len {ops : List Act'} : (runE ops).length ≤ ops.length := by
  have key : ∀ (ops : List Act') (L : GE), (ops.foldl stepE L).length ≤ L.length + ops.length := by
    intro ops
    induction ops with
    | nil => intro L; simp
    | cons e r ih =>
      intro L
      have := ih (stepE L e)
      have h2 : (stepE L e).length ≤ L.length + 1 := by
        unfold stepE
        split
        · have := rmE_len (L := L) (n := i8 e.2.1); omega
        · split
          · have := lvE_len (L := L) (n := i8 e.2.1); omega
          · exact addE_len
      simp; omega
  have := key ops []
  simpa [runE] using this
abbrev opsC (z : Nz) (ops : List Act') : C := .a (.t (.sl z 3 (ops.map aT)))
abbrev tt : C := .a (.t (.v (.bool true)))

set_option maxRecDepth 20000 in
theorem run_any (H : Heap) (ops : List Act') (z : Nz) : E.Spec Try.prog 11 [opsC z ops] H fun x H' => (30 < ops.length ∧ x = .tup [.a (.t (.v (.pointer none))), grC .un [], tt] ∨ ops.length ≤ 30 ∧ ∃ c, x = .tup [.a (.bp c 0), grC .un (runE ops), tt] ∧ Gr ndI H' c (runE ops)) := by
  refine Spec.enter Try.func11 rfl ?_
  refine AW.wk (Wk.keep 73 [(0, .c (opsC z ops))] [] (H) rfl ⟨rfl, trivial⟩ trivial (fun _ _ h => h) rfl) ?_
  refine AW.seq ?_
  refine AW.reg ?_
  refine SeqK.q (q_asC rfl rfl) rfl rfl rfl ?_
  refine SeqK.r (b_alloc (r := [_]) rfl rfl Fx.ze26 rfl rfl rfl rfl) rfl ?_
  refine SeqK.q (q_asC rfl rfl) rfl rfl rfl ?_
  refine SeqK.nil ?_
  refine AW.seq ?_
  refine AW.reg ?_
  refine SeqK.callE rfl rfl rfl rfl Fx.fn30 rfl (newI _) (fun _ _ ⟨_, h, _⟩ => by rw [h]; rfl) (fun x13 H13 q13 => ?_)
  obtain ⟨c, rfl, G0, _⟩ := q13
  refine SeqK.q (q_build2 (zs := [_]) (r := [_]) [(0, 1)] _ rfl Fx.ze26 rfl Fx.bp26 rfl rfl rfl rfl) rfl rfl rfl ?_
  refine SeqK.xw 14 rfl (XW.gnil (sz := 2)) ?_
  refine SeqK.r (b_alloc (r := [_]) rfl rfl Fx.ze26 rfl rfl rfl rfl) rfl ?_
  refine SeqK.q (q_asC rfl rfl) rfl rfl rfl ?_
  refine SeqK.r (b_store (r := [_]) rfl rfl Fx.ty26 rfl rfl rfl rfl rfl rfl) rfl ?_
  refine SeqK.q (q_asC rfl rfl) rfl rfl rfl ?_
  refine SeqK.nil ?_
  refine AW.seq ?_
  refine AW.seq ?_
  refine AW.reg ?_
  refine SeqK.q (q_mvC rfl rfl) rfl rfl rfl ?_
  refine SeqK.q (q_eqlN rfl rfl rfl Fx.nk23) rfl rfl rfl ?_
  refine SeqK.q (q_mvC rfl rfl) rfl rfl rfl ?_
  refine SeqK.on (q_mvC rfl rfl) rfl rfl rfl rfl rfl ?_
  refine SeqK.on (q_len rfl Fx.un22 rfl) rfl rfl rfl rfl rfl ?_
  refine SeqK.on (q_gtr rfl rfl rfl) rfl rfl rfl rfl rfl ?_
  refine SeqK.q (q_pkF rfl rfl rfl) rfl rfl rfl ?_
  refine SeqK.nil ?_
  refine AW.condD rfl (fun h21 => ?_) (fun h21 => ?_)
  ·
    refine AW.seq ?_
    refine AW.draw Fx.mo ?_
    refine LexK.r (b_load (r := .g [_]) rfl Fx.ty26 rfl rfl rfl rfl rfl rfl) rfl ?_
    refine LexK.q (q_asC rfl rfl) rfl rfl rfl ?_
    refine LexK.r (b_store (r := [_]) rfl rfl Fx.ty26 rfl rfl rfl rfl rfl rfl) rfl ?_
    refine LexK.q (q_asC rfl rfl) rfl rfl rfl ?_
    refine LexK.nil (by kernel_rfl) ?_
    refine AW.ret ?_
    exact fin_x (x := .tup [_, _, _]) (_) (.tmp rfl (.cellL rfl rfl Fx.ty26 rfl rfl (.tmp rfl .nil))) rfl (fun _ _ h => h) (.inl ⟨by simp at h21; omega, rfl⟩)
  ·
    have hol : ops.length ≤ 30 := by simp at h21; omega
    refine AW.skip ?_
    refine AW.seq ?_
    refine AW.seq ?_
    refine AW.reg ?_
    refine SeqK.q (q_mvC rfl rfl) rfl rfl rfl ?_
    refine SeqK.q (q_len rfl Fx.un22 rfl) rfl rfl rfl ?_
    refine SeqK.q (q_mvC rfl rfl) rfl rfl rfl ?_
    refine SeqK.nil ?_
    refine AW.block ?_
    refine AW.loop (fun (i : Nat) s => ∃ (Hx : Heap) (L : GE), (i ≤ ops.length ∧ L = runE (ops.take i) ∧ Gr ndI Hx c L) ∧ s = ⟨73, sp [(3, .lp 3 0), (5, .c (.a (.bp c 0))), (6, .lp 6 0), (7, bX true), (23, .c (opsC z ops)), (24, iX .i64 (((ops.map aT).length : Nat) : Int)), (25, iX .i64 ((i : Nat) : Int))], lv [(3, .box [.t (.v (.slice none 0 0))]), (6, .box [.t (.sl .un 2 (L.map eT))])], Hx⟩) (fun i => ops.length - i) 0 ⟨_, Wk.keep 73 [(3, .lp 3 0), (5, .c (.a (.bp c 0))), (6, .lp 6 0), (7, bX true), (23, .c (opsC z ops)), (24, iX .i64 (((ops.map aT).length : Nat) : Int)), (25, iX .i64 ((((0 : Nat)) : Nat) : Int))] [(3, .box [.t (.v (.slice none 0 0))]), (6, .box [.t (.sl .un 2 (([]).map eT))])] ((_)) rfl ⟨rfl, rfl, rfl, rfl, rfl, rfl, rfl, trivial⟩ ⟨rfl, rfl, trivial⟩ (fun _ _ h => h) rfl, _, [], ⟨Nat.zero_le _, rfl, G0⟩, rfl⟩ (fun i s hs => ?_)
    obtain ⟨Hx, L, ⟨hi0, hL, G⟩, rfl⟩ := hs
    refine AW.seq ?_
    refine AW.reg ?_
    refine SeqK.q (q_lss rfl rfl rfl) rfl rfl rfl ?_
    refine SeqK.nil ?_
    refine AW.seq ?_
    refine AW.condD rfl (fun h26 => ?_) (fun h26 => ?_)
    ·
      have hi : i < ops.length := by simpa using h26
      have hrl := runE_len (ops := ops.take i)
      have htl : (ops.take i).length ≤ 30 := by simp; omega
      rw [← hL] at hrl
      refine AW.skip ?_
      refine AW.seq ?_
      refine AW.block ?_
      refine AW.seq ?_
      refine AW.reg ?_
      refine SeqK.q (q_index _ rfl Fx.sl22 rfl rfl (by omega) (idx_map (f := aT) hi)) rfl rfl rfl ?_
      refine SeqK.q (q_load (.g [_, _, _]) rfl Fx.ty66 rfl rfl rfl) rfl rfl rfl ?_
      refine SeqK.r (b_alloc (r := [_, _, _]) rfl rfl Fx.ze66 rfl rfl rfl rfl) rfl ?_
      refine SeqK.r (b_store (r := [_, _, _]) rfl rfl Fx.ty66 rfl rfl rfl rfl rfl rfl) rfl ?_
      refine SeqK.nil ?_
      refine AW.seq ?_
      refine AW.draw Fx.mo ?_
      refine LexK.q (q_fieldL _ rfl Fx.fl66_1 rfl rfl) rfl rfl rfl ?_
      refine LexK.r (b_load (r := .a _) rfl Fx.ty37 rfl rfl rfl rfl rfl rfl) rfl ?_
      refine LexK.q (q_conv _ rfl Fx.un3 rfl (rfl) ⟨_, Fx.un37⟩) rfl rfl rfl ?_
      refine LexK.q (q_fieldL _ rfl Fx.fl66_2 rfl rfl) rfl rfl rfl ?_
      refine LexK.r (b_load (r := .a _) rfl Fx.ty37 rfl rfl rfl rfl rfl rfl) rfl ?_
      refine LexK.q (q_conv _ rfl Fx.un3 rfl (rfl) ⟨_, Fx.un37⟩) rfl rfl rfl ?_
      refine LexK.q (q_asC rfl rfl) rfl rfl rfl ?_
      refine LexK.q (q_asC rfl rfl) rfl rfl rfl ?_
      refine LexK.nil (by kernel_rfl) ?_
      refine AW.seq ?_
      refine AW.reg ?_
      refine SeqK.q (q_fieldL _ rfl Fx.fl66_0 rfl rfl) rfl rfl rfl ?_
      refine SeqK.r (b_load (r := .a _) rfl Fx.ty5 rfl rfl rfl rfl rfl rfl) rfl ?_
      refine SeqK.nil ?_
      refine AW.block ?_
      refine AW.seq ?_
      refine AW.reg ?_
      refine SeqK.q (q_eql rfl rfl rfl) rfl rfl rfl ?_
      refine SeqK.q (q_asC rfl rfl) rfl rfl rfl ?_
      refine SeqK.nil ?_
      refine AW.condD rfl (fun h53 => ?_) (fun h53 => ?_)
      ·
        refine AW.seq ?_
        refine AW.reg ?_
        refine SeqK.q (q_mvC rfl rfl) rfl rfl rfl ?_
        refine SeqK.q (q_mvC rfl rfl) rfl rfl rfl ?_
        refine SeqK.callE rfl rfl rfl rfl Fx.fn25 rfl (removeI _ c _ _ G) (fun _ _ h => by rw [h.1]; rfl) (fun x57 H57 q57 => ?_)
        obtain ⟨rfl, G2⟩ := q57
        refine SeqK.nil ?_
        refine AW.reg ?_
        refine SeqK.r (b_load (r := .g [_]) rfl Fx.ty26 rfl rfl rfl rfl rfl rfl) rfl ?_
        refine SeqK.q (q_mvC rfl rfl) rfl rfl rfl ?_
        refine SeqK.q (q_call _ rfl Fx.fn27 rfl (rm_any _ _ (by omega)) rfl) rfl rfl rfl ?_
        refine SeqK.r (b_store (r := [_]) rfl rfl Fx.ty26 rfl rfl rfl rfl rfl rfl) rfl ?_
        refine SeqK.nil ?_
        refine AW.reg ?_
        refine SeqK.q (q_add _ rfl rfl rfl (w64 (by omega) (by omega))) rfl rfl rfl ?_
        refine SeqK.q (q_mvC rfl rfl) rfl rfl rfl ?_
        refine SeqK.nil ?_
        exact ⟨i + 1, _, Wk.keep 73 [(3, .lp 3 0), (5, .c (.a (.bp c 0))), (6, .lp 6 0), (7, bX true), (23, .c (opsC z ops)), (24, iX .i64 (((ops.map aT).length : Nat) : Int)), (25, iX .i64 (((i + 1) : Nat) : Int))] [(3, .box [.t (.v (.slice none 0 0))]), (6, .box [.t (.sl .un 2 ((rmE L (i8 ops[i].2.1)).map eT))])] ((_)) rfl ⟨rfl, rfl, rfl, rfl, rfl, rfl, rfl, trivial⟩ ⟨rfl, rfl, trivial⟩ (fun _ _ h => h) rfl, by omega, _, rmE L (i8 ops[i].2.1), ⟨hi, by rw [runE_take hi, stepE, if_pos h53, ← hL], G2⟩, rfl⟩
      ·
        refine AW.seq ?_
        refine AW.reg ?_
        refine SeqK.q (q_eql rfl rfl rfl) rfl rfl rfl ?_
        refine SeqK.q (q_asC rfl rfl) rfl rfl rfl ?_
        refine SeqK.nil ?_
        refine AW.condD rfl (fun h61 => ?_) (fun h61 => ?_)
        ·
          refine AW.seq ?_
          refine AW.reg ?_
          refine SeqK.q (q_mvC rfl rfl) rfl rfl rfl ?_
          refine SeqK.q (q_mvC rfl rfl) rfl rfl rfl ?_
          refine SeqK.callE rfl rfl rfl rfl Fx.fn28 rfl (leaveI _ c _ _ G) (fun _ _ h => by rw [h.1]; rfl) (fun x65 H65 q65 => ?_)
          obtain ⟨rfl, G2⟩ := q65
          refine SeqK.nil ?_
          refine AW.reg ?_
          refine SeqK.r (b_load (r := .g [_]) rfl Fx.ty26 rfl rfl rfl rfl rfl rfl) rfl ?_
          refine SeqK.q (q_mvC rfl rfl) rfl rfl rfl ?_
          refine SeqK.q (q_call _ rfl Fx.fn26 rfl (lv_any _ _ (by omega)) rfl) rfl rfl rfl ?_
          refine SeqK.r (b_store (r := [_]) rfl rfl Fx.ty26 rfl rfl rfl rfl rfl rfl) rfl ?_
          refine SeqK.nil ?_
          refine AW.reg ?_
          refine SeqK.q (q_add _ rfl rfl rfl (w64 (by omega) (by omega))) rfl rfl rfl ?_
          refine SeqK.q (q_mvC rfl rfl) rfl rfl rfl ?_
          refine SeqK.nil ?_
          exact ⟨i + 1, _, Wk.keep 73 [(3, .lp 3 0), (5, .c (.a (.bp c 0))), (6, .lp 6 0), (7, bX true), (23, .c (opsC z ops)), (24, iX .i64 (((ops.map aT).length : Nat) : Int)), (25, iX .i64 (((i + 1) : Nat) : Int))] [(3, .box [.t (.v (.slice none 0 0))]), (6, .box [.t (.sl .un 2 ((lvE L (i8 ops[i].2.1)).map eT))])] ((_)) rfl ⟨rfl, rfl, rfl, rfl, rfl, rfl, rfl, trivial⟩ ⟨rfl, rfl, trivial⟩ (fun _ _ h => h) rfl, by omega, _, lvE L (i8 ops[i].2.1), ⟨hi, by rw [runE_take hi, stepE, if_neg h53, if_pos h61, ← hL], G2⟩, rfl⟩
        ·
          refine AW.seq ?_
          refine AW.reg ?_
          refine SeqK.q (q_asC rfl rfl) rfl rfl rfl ?_
          refine SeqK.nil ?_
          refine AW.seq ?_
          refine AW.reg ?_
          refine SeqK.r (b_load (r := .g [_]) rfl Fx.ty26 rfl rfl rfl rfl rfl rfl) rfl ?_
          refine SeqK.q (q_mvC rfl rfl) rfl rfl rfl ?_
          refine SeqK.q (q_mvC rfl rfl) rfl rfl rfl ?_
          refine SeqK.q (q_call _ rfl Fx.fn35 rfl (refadd_any _ _ _ (by omega)) rfl) rfl rfl rfl ?_
          refine SeqK.q (q_mvT rfl rfl) rfl rfl rfl ?_
          refine SeqK.q (q_extract _ rfl rfl rfl) rfl rfl rfl ?_
          refine SeqK.q (q_extract _ rfl rfl rfl) rfl rfl rfl ?_
          refine SeqK.r (b_store (r := [_]) rfl rfl Fx.ty26 rfl rfl rfl rfl rfl rfl) rfl ?_
          refine SeqK.q (q_asC rfl rfl) rfl rfl rfl ?_
          refine SeqK.nil ?_
          refine AW.reg ?_
          refine SeqK.q (q_mvC rfl rfl) rfl rfl rfl ?_
          refine SeqK.q (q_mvC rfl rfl) rfl rfl rfl ?_
          refine SeqK.q (q_mvC rfl rfl) rfl rfl rfl ?_
          refine SeqK.callE rfl rfl rfl rfl Fx.fn19 rfl (addI _ c _ _ _ G) (fun _ _ h => by rw [h.1]; rfl) (fun x47 H47 q47 => ?_)
          obtain ⟨rfl, G2⟩ := q47
          refine SeqK.q (q_mvC rfl rfl) rfl rfl rfl ?_
          refine SeqK.q (q_eqlB rfl Fx.un4 rfl rfl) rfl rfl rfl ?_
          refine SeqK.qD (q_mvC rfl rfl) rfl rfl rfl (fun g50 => ?_) (fun g50 => ?_)
          ·
            refine SeqK.on (q_mvC rfl rfl) rfl rfl rfl rfl rfl ?_
            refine SeqK.q (q_pkT rfl rfl rfl) rfl rfl rfl ?_
            refine SeqK.q (q_asC rfl rfl) rfl rfl rfl ?_
            refine SeqK.nil ?_
            refine AW.reg ?_
            refine SeqK.q (q_add _ rfl rfl rfl (w64 (by omega) (by omega))) rfl rfl rfl ?_
            refine SeqK.q (q_mvC rfl rfl) rfl rfl rfl ?_
            refine SeqK.nil ?_
            exact ⟨i + 1, _, Wk.keep 73 [(3, .lp 3 0), (5, .c (.a (.bp c 0))), (6, .lp 6 0), (7, bX true), (23, .c (opsC z ops)), (24, iX .i64 (((ops.map aT).length : Nat) : Int)), (25, iX .i64 (((i + 1) : Nat) : Int))] [(3, .box [.t (.v (.slice none 0 0))]), (6, .box [.t (.sl .un 2 ((addE L (i8 ops[i].2.1) (i8 ops[i].2.2)).map eT))])] ((_)) rfl ⟨rfl, rfl, rfl, rfl, rfl, rfl, rfl, trivial⟩ ⟨rfl, rfl, trivial⟩ (fun _ _ h => h) rfl, by omega, _, addE L (i8 ops[i].2.1) (i8 ops[i].2.2), ⟨hi, by rw [runE_take hi, stepE, if_neg h53, if_neg h61, ← hL], G2⟩, rfl⟩
          ·
            exact absurd rfl g50
    ·
      refine AW.exit ?_
      refine eth_e ?_
      refine eth_e ?_
      refine exit_here ?_
      refine AW.seq ?_
      refine AW.draw Fx.mo ?_
      refine LexK.q (q_mvC rfl rfl) rfl rfl rfl ?_
      refine LexK.r (b_load (r := .g [_]) rfl Fx.ty26 rfl rfl rfl rfl rfl rfl) rfl ?_
      refine LexK.q (q_mvC rfl rfl) rfl rfl rfl ?_
      refine LexK.q (q_asC rfl rfl) rfl rfl rfl ?_
      refine LexK.r (b_store (r := [_]) rfl rfl Fx.ty26 rfl rfl rfl rfl rfl rfl) rfl ?_
      refine LexK.q (q_asC rfl rfl) rfl rfl rfl ?_
      refine LexK.nil (by kernel_rfl) ?_
      refine AW.ret ?_
      obtain rfl : i = ops.length := by simp at h26; omega
      rw [List.take_length] at hL
      exact fin_x (x := .tup [_, _, _]) (_) (.tmp rfl (.cellL rfl rfl Fx.ty26 rfl rfl (.tmp rfl .nil))) rfl (fun _ _ h => h) (.inr ⟨by omega, c, by rw [hL]; rfl, by rw [← hL]; exact G⟩)

end Go.Proofs.Ytikcmjamioopbaa.W
/- The readers of the laws' arguments: data to trees. -/
namespace Go.Proofs.Ytikcmjamioopbaa.W
open Go.RowKit E
set_option linter.unusedVariables false
abbrev ok66 (s : Act') : Prop := (fun i : Int => (Lit.int .u8 i).wf = true) s.1 ∧ (fun i : Int => (Lit.int .i8 i).wf = true) s.2.1 ∧ (fun i : Int => (Lit.int .i8 i).wf = true) s.2.2 ∧ True
theorem rd66 (N : Nat) : Reads Try.prog N 66 3 aT ok66 :=
  (Reads.struct Try.underlying66 (ReadsF.cons rfl (by kernel_rfl) (fun M _ => (Reads.int Try.underlying5)) (ReadsF.cons rfl (by kernel_rfl) (fun M _ => (Reads.int Try.underlying37)) (ReadsF.cons rfl (by kernel_rfl) (fun M _ => (Reads.int Try.underlying37)) .nil)))).conv (fun p => (⟨p.1, p.2.1, p.2.2.1⟩ : Act')) (fun _ _ => rfl) (fun _ h => h)
abbrev ok22 (l : List Act') : Prop := l.length * 3 ≤ 140737488351232 ∧ l.length ≤ maxLen ∧ ∀ x ∈ l, ok66 x
theorem rd22 (N : Nat) : Reads Try.prog N 22 1 (fun x : List Act' => ([.sl .un 3 (x.map aT)] : List T)) ok22 :=
  (Reads.slice Try.underlying22 (by kernel_rfl) (by decide) (fun M _ => (rd66 M))).conv id (fun _ _ => rfl) (fun _ h => by rw [show Try.prog.bytesOf 66 = 3 from by kernel_rfl] at h; exact h)
abbrev ok43 (l : List Int) : Prop := l.length = 3 ∧ ∀ x ∈ l, (fun i : Int => (Lit.int .i8 i).wf = true) x
theorem rd43 (N : Nat) : Reads Try.prog N 43 3 (fun x : List Int => ((x.map (fun x : Int => ([.v (.int .i8 x)] : List T))).flatten : List T)) ok43 := Reads.array Try.underlying43 (by kernel_rfl) (fun M _ => (Reads.int Try.underlying37))
abbrev ok59 (l : List Int) : Prop := l.length = 2 ∧ ∀ x ∈ l, (fun i : Int => (Lit.int .u8 i).wf = true) x
theorem rd59 (N : Nat) : Reads Try.prog N 59 2 (fun x : List Int => ((x.map (fun x : Int => ([.v (.int .u8 x)] : List T))).flatten : List T)) ok59 := Reads.array Try.underlying59 (by kernel_rfl) (fun M _ => (Reads.int Try.underlying5))
abbrev ok53 (l : List (List Int)) : Prop := l.length * 2 ≤ 140737488351232 ∧ l.length ≤ maxLen ∧ ∀ x ∈ l, ok59 x
theorem rd53 (N : Nat) : Reads Try.prog N 53 1 (fun x : List (List Int) => ([.sl .un 2 (x.map (fun x : List Int => ((x.map (fun x : Int => ([.v (.int .u8 x)] : List T))).flatten : List T)))] : List T)) ok53 :=
  (Reads.slice Try.underlying53 (by kernel_rfl) (by decide) (fun M _ => (rd59 M))).conv id (fun _ _ => rfl) (fun _ h => by rw [show Try.prog.bytesOf 59 = 2 from by kernel_rfl] at h; exact h)
end Go.Proofs.Ytikcmjamioopbaa.W
namespace Go.Proofs.Ytikcmjamioopbaa.W
open Go.RowKit E M
set_option linter.unusedVariables false
set_option linter.unusedSimpArgs false
set_option linter.unusedSectionVars false
theorem runB (H : Heap) (ops : List Act') (z : Nz) (h : 30 < ops.length) : E.Spec Try.prog 11 [opsC z ops] H fun x H' => x = .tup [.a (.t (.v (.pointer none))), grC .un [], tt] :=
  (run_any H ops z).mono fun x H' h1 => h1.elim (fun h2 => h2.2) (fun h2 => by omega)
theorem runS (H : Heap) (ops : List Act') (z : Nz) (h : ¬ 30 < ops.length) : E.Spec Try.prog 11 [opsC z ops] H fun x H' => ∃ c, x = .tup [.a (.bp c 0), grC .un (runE ops), tt] ∧ Gr ndI H' c (runE ops) :=
  (run_any H ops z).mono fun x H' h1 => h1.elim (fun h2 => absurd h2.1 h) (fun h2 => h2.2)
theorem same_eq (l : List Int) (z1 z2 : Nz) (h : l.length ≤ 1000000) : Pure Try.prog 14 [iL z1 l, iL z2 l] (bX true) := by
  have h1 := same_any l l z1 z2 h h
  rwa [decide_eq_true rfl] at h1
/-- the nodes are 8-bit numbers -/
def Bd (L : GE) : Prop := ∀ e ∈ L, (-128 ≤ e.1 ∧ e.1 ≤ 127) ∧ -128 ≤ e.2 ∧ e.2 ≤ 127
def OkO (ops : List Act') : Prop := ∀ o ∈ ops, (-128 ≤ o.2.1 ∧ o.2.1 ≤ 127) ∧ -128 ≤ o.2.2 ∧ o.2.2 ≤ 127
theorem i8_eq {n : Int} (h : -128 ≤ n ∧ n ≤ 127) : i8 n = n := w64 (by omega) (by omega)
theorem step_bd {L : GE} {o : Act'} (h : Bd L) (ho : (-128 ≤ o.2.1 ∧ o.2.1 ≤ 127) ∧ -128 ≤ o.2.2 ∧ o.2.2 ≤ 127) : Bd (stepE L o) := by
  unfold stepE
  split
  · intro e he; exact h e (mem_rmE.1 he).1
  · split
    · intro e he; exact h e (mem_lvE.1 he).1
    · intro e he
      rcases mem_addE.1 he with he | rfl
      · exact h e he
      · show (-128 ≤ i8 o.2.1 ∧ i8 o.2.1 ≤ 127) ∧ -128 ≤ i8 o.2.2 ∧ i8 o.2.2 ≤ 127
        rw [i8_eq ho.1, i8_eq ho.2]; exact ho
theorem run_bd {ops : List Act'} (h : OkO ops) : Bd (runE ops) := by
  have key : ∀ (ops : List Act') (L : GE), OkO ops → Bd L → Bd (ops.foldl stepE L) := by
    intro ops
    induction ops with
    | nil => intro L _ h; exact h
    | cons o r ih => intro L h1 h2; exact ih _ (fun x hx => h1 x (List.mem_cons_of_mem _ hx)) (step_bd h2 (h1 o (by simp)))
  exact key ops [] h fun e he => by simp at he
theorem succs_far {L : GE} (h : Bd L) {n : Int} (hn : ¬ (-128 ≤ n ∧ n ≤ 127)) : succs ltI L n = [] :=
  List.eq_nil_iff_forall_not_mem.2 fun b hb => hn (h _ (mem_succs.1 hb)).1
abbrev i8T (n : Int) : List E.T := [.v (.int .i8 n)]

set_option maxRecDepth 20000 in
theorem edges_lawB (H : Heap) (ops : List Act') (z : Nz) (hb : OkO ops) (hl : 30 < ops.length) : E.Spec Try.prog 3 [opsC z ops] H fun x H' => x = bX true := by
  refine Spec.enter Try.func3 rfl ?_
  refine AW.wk (Wk.keep 51 [(0, .c (opsC z ops))] [] (H) rfl ⟨rfl, trivial⟩ trivial (fun _ _ h => h) rfl) ?_
  refine AW.seq ?_
  refine AW.reg ?_
  refine SeqK.q (q_asC rfl rfl) rfl rfl rfl ?_
  refine SeqK.nil ?_
  refine AW.seq ?_
  refine AW.reg ?_
  refine SeqK.q (q_mvC rfl rfl) rfl rfl rfl ?_
  refine SeqK.callE rfl rfl rfl rfl Fx.fn11 rfl (runB _ ops z hl) (fun _ _ h => by rw [h]; rfl) (fun x10 H10 q10 => ?_)
  have h10 := q10
  subst h10
  refine SeqK.q (q_mvT rfl rfl) rfl rfl rfl ?_
  refine SeqK.q (q_extract _ rfl rfl rfl) rfl rfl rfl ?_
  refine SeqK.q (q_extract _ rfl rfl rfl) rfl rfl rfl ?_
  refine SeqK.q (q_extract _ rfl rfl rfl) rfl rfl rfl ?_
  refine SeqK.r (b_alloc (r := [_]) rfl rfl Fx.ze26 rfl rfl rfl rfl) rfl ?_
  refine SeqK.q (q_asC rfl rfl) rfl rfl rfl ?_
  refine SeqK.r (b_store (r := [_]) rfl rfl Fx.ty26 rfl rfl rfl rfl rfl rfl) rfl ?_
  refine SeqK.q (q_asC rfl rfl) rfl rfl rfl ?_
  refine SeqK.nil ?_
  refine AW.seq ?_
  refine AW.seq ?_
  refine AW.reg ?_
  refine SeqK.callE rfl rfl rfl rfl Fx.fn12 rfl (awakeF _) (fun _ _ h => by rw [h.1]; rfl) (fun x14 H14 q14 => ?_)
  obtain ⟨rfl, hF14⟩ := q14
  refine SeqK.q (q_not rfl rfl) rfl rfl rfl ?_
  refine SeqK.q (q_mvC rfl rfl) rfl rfl rfl ?_
  refine SeqK.on (q_mvC rfl rfl) rfl rfl rfl rfl rfl ?_
  refine SeqK.on (q_eqlN rfl rfl rfl Fx.nk23) rfl rfl rfl rfl rfl ?_
  refine SeqK.q (q_pkF rfl rfl rfl) rfl rfl rfl ?_
  refine SeqK.nil ?_
  refine AW.condT rfl ?_
  refine AW.seq ?_
  refine AW.reg ?_
  refine SeqK.callE rfl rfl rfl rfl Fx.fn12 rfl (awakeF _) (fun _ _ h => by rw [h.1]; rfl) (fun x20 H20 q20 => ?_)
  obtain ⟨rfl, hF20⟩ := q20
  refine SeqK.q (q_asC rfl rfl) rfl rfl rfl ?_
  refine SeqK.nil ?_
  refine AW.ret ?_
  exact fin_x (x := .c _) (_) (.tmp rfl .nil) rfl (fun _ _ h => h) (rfl)
set_option maxRecDepth 20000 in
theorem edges_lawS (H : Heap) (ops : List Act') (z : Nz) (hb : OkO ops) (hl : ¬ 30 < ops.length) : E.Spec Try.prog 3 [opsC z ops] H fun x H' => x = bX true := by
  refine Spec.enter Try.func3 rfl ?_
  refine AW.wk (Wk.keep 51 [(0, .c (opsC z ops))] [] (H) rfl ⟨rfl, trivial⟩ trivial (fun _ _ h => h) rfl) ?_
  refine AW.seq ?_
  refine AW.reg ?_
  refine SeqK.q (q_asC rfl rfl) rfl rfl rfl ?_
  refine SeqK.nil ?_
  refine AW.seq ?_
  refine AW.reg ?_
  refine SeqK.q (q_mvC rfl rfl) rfl rfl rfl ?_
  refine SeqK.callE rfl rfl rfl rfl Fx.fn11 rfl (runS _ ops z hl) (fun _ _ ⟨_, h, _⟩ => by rw [h]; rfl) (fun x10 H10 q10 => ?_)
  obtain ⟨c, rfl, G⟩ := q10
  refine SeqK.q (q_mvT rfl rfl) rfl rfl rfl ?_
  refine SeqK.q (q_extract _ rfl rfl rfl) rfl rfl rfl ?_
  refine SeqK.q (q_extract _ rfl rfl rfl) rfl rfl rfl ?_
  refine SeqK.q (q_extract _ rfl rfl rfl) rfl rfl rfl ?_
  refine SeqK.r (b_alloc (r := [_]) rfl rfl Fx.ze26 rfl rfl rfl rfl) rfl ?_
  refine SeqK.q (q_asC rfl rfl) rfl rfl rfl ?_
  refine SeqK.r (b_store (r := [_]) rfl rfl Fx.ty26 rfl rfl rfl rfl rfl rfl) rfl ?_
  refine SeqK.q (q_asC rfl rfl) rfl rfl rfl ?_
  refine SeqK.nil ?_
  refine AW.seq ?_
  refine AW.seq ?_
  refine AW.reg ?_
  refine SeqK.callE rfl rfl rfl rfl Fx.fn12 rfl (awakeF _) (fun _ _ h => by rw [h.1]; rfl) (fun x14 H14 q14 => ?_)
  obtain ⟨rfl, hF14⟩ := q14
  replace G := G.full hF14
  refine SeqK.q (q_not rfl rfl) rfl rfl rfl ?_
  refine SeqK.q (q_mvC rfl rfl) rfl rfl rfl ?_
  refine SeqK.on (q_mvC rfl rfl) rfl rfl rfl rfl rfl ?_
  refine SeqK.on (q_eqlN rfl rfl rfl Fx.nk23) rfl rfl rfl rfl rfl ?_
  refine SeqK.q (q_pkF rfl rfl rfl) rfl rfl rfl ?_
  refine SeqK.nil ?_
  refine AW.condF rfl ?_
  refine AW.skip ?_
  refine AW.seq ?_
  refine AW.seq ?_
  have hrl := runE_len (ops := ops)
  have hnl := nodes_len (lt := ltI) (L := runE ops)
  refine AW.reg ?_
  refine SeqK.r (b_load (r := .g [_]) rfl Fx.ty26 rfl rfl rfl rfl rfl rfl) rfl ?_
  refine SeqK.q (q_call _ rfl Fx.fn13 rfl (nodes_any _ (by omega)) rfl) rfl rfl rfl ?_
  refine SeqK.q (q_len rfl Fx.un30 rfl) rfl rfl rfl ?_
  refine SeqK.q (q_mvC rfl rfl) rfl rfl rfl ?_
  refine SeqK.nil ?_
  refine AW.block ?_
  refine AW.loop (fun (i : Nat) s => (i ≤ (nodes ltI (runE ops)).length) ∧ s = ⟨51, sp [(3, .c (.a (.bp c 0))), (4, .lp 4 0), (5, bX true), (22, .c (iL .un (nodes ltI (runE ops)))), (23, iX .i64 ((((nodes ltI (runE ops)).map i64T).length : Nat) : Int)), (24, iX .i64 ((i : Nat) : Int))], lv [(4, .box [.t (.sl .un 2 ((runE ops).map eT))])], H14⟩) (fun i => (nodes ltI (runE ops)).length - i) 0 ⟨_, Wk.keep 51 [(3, .c (.a (.bp c 0))), (4, .lp 4 0), (5, bX true), (22, .c (iL .un (nodes ltI (runE ops)))), (23, iX .i64 ((((nodes ltI (runE ops)).map i64T).length : Nat) : Int)), (24, iX .i64 ((((0 : Nat)) : Nat) : Int))] [(4, .box [.t (.sl .un 2 ((runE ops).map eT))])] (H14) rfl ⟨rfl, rfl, rfl, rfl, rfl, rfl, trivial⟩ ⟨rfl, trivial⟩ (fun _ _ h => h) rfl, Nat.zero_le _, rfl⟩ (fun i s hs => ?_)
  obtain ⟨hi0, rfl⟩ := hs
  refine AW.seq ?_
  refine AW.reg ?_
  refine SeqK.q (q_lss rfl rfl rfl) rfl rfl rfl ?_
  refine SeqK.nil ?_
  refine AW.seq ?_
  refine AW.condD rfl (fun h25 => ?_) (fun h25 => ?_)
  ·
    have hi : i < (nodes ltI (runE ops)).length := by simpa using h25
    refine AW.skip ?_
    refine AW.seq ?_
    refine AW.block ?_
    refine AW.seq ?_
    refine AW.reg ?_
    refine SeqK.q (q_index _ rfl Fx.sl30 rfl rfl (by omega) (idx_map (f := i64T) hi)) rfl rfl rfl ?_
    refine SeqK.q (q_load (.a _) rfl Fx.ty3 rfl rfl rfl) rfl rfl rfl ?_
    refine SeqK.q (q_asC rfl rfl) rfl rfl rfl ?_
    refine SeqK.nil ?_
    refine AW.seq ?_
    refine AW.draw Fx.mo ?_
    refine LexK.q (q_mvC rfl rfl) rfl rfl rfl ?_
    refine LexK.q (q_mvC rfl rfl) rfl rfl rfl ?_
    refine LexK.r (g_call rfl Fx.fn15 rfl (listI _ c _ _ G (by omega)) rfl rfl rfl) rfl ?_
    refine LexK.r (b_load (r := .g [_]) rfl Fx.ty26 rfl rfl rfl rfl rfl rfl) rfl ?_
    refine LexK.q (q_mvC rfl rfl) rfl rfl rfl ?_
    refine LexK.q (q_call _ rfl Fx.fn16 rfl (succs_any _ _ (by omega)) rfl) rfl rfl rfl ?_
    refine LexK.q (q_call _ rfl Fx.fn14 rfl (same_eq _ .un .un (by have := succs_len (lt := ltI) (L := runE ops) (a := (nodes ltI (runE ops))[i]); omega)) rfl) rfl rfl rfl ?_
    refine LexK.q (q_not rfl rfl) rfl rfl rfl ?_
    refine LexK.nil (by kernel_rfl) ?_
    refine AW.condF rfl ?_
    refine AW.skip ?_
    refine AW.reg ?_
    refine SeqK.q (q_add _ rfl rfl rfl (w64 (by omega) (by omega))) rfl rfl rfl ?_
    refine SeqK.q (q_mvC rfl rfl) rfl rfl rfl ?_
    refine SeqK.nil ?_
    exact ⟨i + 1, _, Wk.keep 51 [(3, .c (.a (.bp c 0))), (4, .lp 4 0), (5, bX true), (22, .c (iL .un (nodes ltI (runE ops)))), (23, iX .i64 ((((nodes ltI (runE ops)).map i64T).length : Nat) : Int)), (24, iX .i64 (((i + 1) : Nat) : Int))] [(4, .box [.t (.sl .un 2 ((runE ops).map eT))])] (H14) rfl ⟨rfl, rfl, rfl, rfl, rfl, rfl, trivial⟩ ⟨rfl, trivial⟩ (fun _ _ h => h) rfl, by omega, hi, rfl⟩
  ·
    refine AW.exit ?_
    refine eth_e ?_
    refine eth_e ?_
    refine exit_here ?_
    refine AW.seq ?_
    refine AW.draw Fx.mo ?_
    refine LexK.q (q_mvC rfl rfl) rfl rfl rfl ?_
    refine LexK.q (q_mvC rfl rfl) rfl rfl rfl ?_
    refine LexK.on (q_mvC rfl rfl) rfl rfl rfl rfl rfl ?_
    refine LexK.rOn (g_call rfl Fx.fn17 rfl (nodesI _ c _ G (by omega)) rfl rfl rfl) rfl rfl rfl ?_
    refine LexK.rOn (b_load (r := .g [_]) rfl Fx.ty26 rfl rfl rfl rfl rfl rfl) rfl rfl rfl ?_
    refine LexK.on (q_call _ rfl Fx.fn13 rfl (nodes_any _ (by omega)) rfl) rfl rfl rfl rfl rfl ?_
    refine LexK.on (q_call _ rfl Fx.fn14 rfl (same_eq _ .un .un (by omega)) rfl) rfl rfl rfl rfl rfl ?_
    refine LexK.q (q_pkT rfl rfl rfl) rfl rfl rfl ?_
    refine LexK.q (q_mvC rfl rfl) rfl rfl rfl ?_
    refine LexK.on (q_mvC rfl rfl) rfl rfl rfl rfl rfl ?_
    refine LexK.rOn (g_call rfl Fx.fn15 rfl (listI _ c _ 1000 G (by omega)) rfl rfl rfl) rfl rfl rfl ?_
    refine LexK.on (q_len rfl Fx.un30 rfl) rfl rfl rfl rfl rfl ?_
    refine LexK.on (q_eql rfl rfl rfl) rfl rfl rfl rfl rfl ?_
    refine LexK.q (q_pkT rfl rfl rfl) rfl rfl rfl ?_
    refine LexK.q (q_asC rfl rfl) rfl rfl rfl ?_
    refine LexK.nil (by kernel_rfl) ?_
    refine AW.ret ?_
    exact fin_x (x := .c _) (_) (.tmp rfl .nil) rfl (fun _ _ h => h) (by rw [succs_far (run_bd hb) (by omega)]; rfl)

end Go.Proofs.Ytikcmjamioopbaa.W
namespace Go.Proofs.Ytikcmjamioopbaa.W
open Go.RowKit E M
set_option linter.unusedVariables false
set_option linter.unusedSimpArgs false
set_option linter.unusedSectionVars false
theorem i8_wf {i : Int} (h : (Lit.int .i8 i).wf = true) : -128 ≤ i ∧ i ≤ 127 := by
  have h1 : (decide (-128 ≤ i) && decide (i ≤ 127)) = true := h
  simpa using h1
theorem ok_act {o : Act'} (h : ok66 o) : (-128 ≤ o.2.1 ∧ o.2.1 ≤ 127) ∧ -128 ≤ o.2.2 ∧ o.2.2 ≤ 127 := ⟨i8_wf h.2.1, i8_wf h.2.2.1⟩
theorem edges_law (ops : List Act') (hb : OkO ops) (H : Heap) : E.Spec Try.prog 3 [opsC .un ops] H fun x _ => x = bX true := by
  by_cases hl : 30 < ops.length
  · exact edges_lawB H ops .un hb hl
  · exact edges_lawS H ops .un hb hl

end Go.Proofs.Ytikcmjamioopbaa.W
