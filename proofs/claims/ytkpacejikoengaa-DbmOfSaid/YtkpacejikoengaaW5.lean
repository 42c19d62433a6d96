import Derived.Test.YtkpacejikoengaaW4
import Derived.Test.YtkpacejikoengaaE32
namespace Go.Proofs.Ytkpacejikoengaa.W
open Go.RowKit E M
set_option linter.unusedVariables false
set_option linter.unusedSimpArgs false
abbrev iv (n : Int) : Value := .int .i64 n
abbrev KI : KK := .int .i64
theorem keq_iv (a b : Int) : keq (iv a) (iv b) = decide (a = b) := rfl
theorem last_neg {all : List Bd} {n : Nat} {src : Int → Bool} {ls : List (List Wk)} (hL : Levels all n src ls) {v : Int} (h0 : 0 ≤ v) (h1 : v ≤ n) (h : (W ls (n + 1) v).last < 0) : (W ls (n + 1) v).last = -1 := by
  rcases (hL.step n (by omega)).two v h0 h1 with ⟨h2, _⟩ | ⟨k, _, _, _, h5, _⟩
  · exact h2
  · have h : (at' (ls.getD (n + 1) []) v).last < 0 := h
    rw [h5] at h; simp at h; omega
theorem Tr.full {all : List Bd} {n : Nat} {ls : List (List Wk)} {vs : List Int} {ks : List Nat} (h : Tr all n ls vs ks) (hn : vs.Nodup) (hk : ks.length = n + 1) : False := by
  have := pigeon hn fun v hv => by
    obtain ⟨t, ht, rfl⟩ := List.getElem_of_mem hv
    have := h.rng t ht
    rwa [getD_get ht] at this
  have := h.len
  omega
structure Seen (vs : List Int) (es : List ME) (ck : Nat) : Prop where
  ok : MOk KI es ck
  no : ∀ v, v ∉ vs → mget (iv v) es = none
  yes : ∀ a, a < vs.length → mget (iv (vs.getD a 0)) es = some (iC (a : Nat))
theorem Seen.start (v : Int) : Seen [v] (mset (iv v) (iC 0) 0 []) (mclock (iv v) [] 0) :=
  ⟨MOk.nil.set rfl, fun u hu => by rw [mget_mset (kk := KI) rfl rfl (fun m hm => by simp at hm), keq_iv]; simp at hu; simp [hu]; rfl, fun a ha => by
    have : a = 0 := by simpa using ha
    subst this
    rw [mget_mset (kk := KI) rfl rfl (fun m hm => by simp at hm), keq_iv]; simp⟩
theorem Seen.snoc {vs : List Int} {es : List ME} {ck : Nat} (h : Seen vs es ck) {v : Int} (hv : v ∉ vs) {q : Int} (hq : q = (vs.length : Nat)) : Seen (vs ++ [v]) (mset (iv v) (iC q) ck es) (mclock (iv v) es ck) :=
  ⟨h.ok.set rfl, fun u hu => by
    rw [mget_mset (kk := KI) rfl rfl h.ok.key, keq_iv]
    simp only [List.mem_append, List.mem_cons, List.not_mem_nil, or_false, not_or] at hu
    simp [hu.2, h.no u hu.1], fun a ha => by
    rw [mget_mset (kk := KI) rfl rfl h.ok.key, keq_iv, getD_snoc]
    by_cases e : a < vs.length
    · rw [if_pos e]
      have : vs.getD a 0 ≠ v := fun e2 => hv (by rw [← e2, getD_get e]; exact List.getElem_mem e)
      rw [decide_eq_false this]; exact h.yes a e
    · have : a = vs.length := by simp at ha; omega
      subst this
      rw [if_neg e, if_pos rfl]
      simp [hq]⟩

set_option maxRecDepth 20000 in
theorem clos_any (w : Wk) : Pure Try.prog 30 [.g ((wkT w).map A.t)] (bX (decide (w.last ≥ 0))) := by
  intro H
  refine Spec.enter Try.func30 rfl ?_
  refine AW.wk (Wk.keep 6 [(0, .c (.g [.t (.v (.bool w.known)), .t (.v (.int .i64 w.w)), .t (.v (.int .i64 w.last))]))] [] (H) rfl ⟨rfl, trivial⟩ trivial (fun _ _ h => h) rfl) ?_
  refine AW.seq ?_
  refine AW.reg ?_
  refine SeqK.r (b_box (r := [_, _, _]) rfl rfl rfl rfl rfl rfl) rfl ?_
  refine SeqK.q (q_asC rfl rfl) rfl rfl rfl ?_
  refine SeqK.nil ?_
  refine AW.seq ?_
  refine AW.reg ?_
  refine SeqK.q (q_fieldL _ rfl Fx.fl66_2 rfl rfl) rfl rfl rfl ?_
  refine SeqK.r (b_load (r := .a _) rfl Fx.ty3 rfl rfl rfl rfl rfl rfl) rfl ?_
  refine SeqK.q (q_geq rfl rfl rfl) rfl rfl rfl ?_
  refine SeqK.q (q_asC rfl rfl) rfl rfl rfl ?_
  refine SeqK.nil ?_
  refine AW.ret ?_
  exact fin_x (x := .c _) H (.tmp rfl .nil) rfl (fun _ _ h => h) ⟨rfl, rfl⟩

set_option maxRecDepth 20000 in
theorem index_any (H : Heap) (z : Nz) (l : List Wk) (hl : l.length ≤ 1000000) : E.Spec Try.prog 29 [.a (.t (.sl z 3 (l.map wkT))), .a (.t (.v (.func (.func 30) #[] #[])))] H fun x H' => H' = H ∧ ((x = iX .i64 (-1) ∧ ∀ (i : Nat) (h : i < l.length), l[i].last < 0) ∨ ∃ (i : Nat) (h : i < l.length), x = iX .i64 ((i : Nat) : Int) ∧ l[i].last ≥ 0) := by
  refine Spec.enter Try.func29 rfl ?_
  refine AW.wk (Wk.keep 19 [(0, .c (.a (.t (.sl z 3 (l.map wkT))))), (1, .c (.a (.t (.v (.func (.func 30) #[] #[])))))] [] (H) rfl ⟨rfl, rfl, trivial⟩ trivial (fun _ _ h => h) rfl) ?_
  refine AW.seq ?_
  refine AW.reg ?_
  refine SeqK.q (q_asC rfl rfl) rfl rfl rfl ?_
  refine SeqK.nil ?_
  refine AW.seq ?_
  refine AW.seq ?_
  refine AW.reg ?_
  refine SeqK.q (q_mvC rfl rfl) rfl rfl rfl ?_
  refine SeqK.q (q_len rfl Fx.un67 rfl) rfl rfl rfl ?_
  refine SeqK.q (q_mvC rfl rfl) rfl rfl rfl ?_
  refine SeqK.nil ?_
  refine AW.block ?_
  refine AW.loop (fun (i : Nat) s => (i ≤ l.length ∧ ∀ (j : Nat) (h : j < l.length), j < i → l[j].last < 0) ∧ s = ⟨19, sp [(0, .c (.a (.t (.sl z 3 (l.map wkT))))), (1, .c (.a (.t (.v (.func (.func 30) #[] #[]))))), (7, iX .i64 ((l.map wkT).length : Nat)), (8, iX .i64 ((i : Nat) : Int))], lv [], H⟩) (fun i => l.length - i) 0 ⟨_, Wk.keep 19 [(0, .c (.a (.t (.sl z 3 (l.map wkT))))), (1, .c (.a (.t (.v (.func (.func 30) #[] #[]))))), (7, iX .i64 ((l.map wkT).length : Nat)), (8, iX .i64 ((((0 : Nat)) : Nat) : Int))] [] (H) rfl ⟨rfl, rfl, rfl, rfl, trivial⟩ trivial (fun _ _ h => h) rfl, ⟨Nat.zero_le _, fun j h hj => absurd hj (Nat.not_lt_zero j)⟩, rfl⟩ (fun i s hs => ?_)
  obtain ⟨⟨hi, hn⟩, rfl⟩ := hs
  refine AW.seq ?_
  refine AW.reg ?_
  refine SeqK.q (q_lss rfl rfl rfl) rfl rfl rfl ?_
  refine SeqK.nil ?_
  refine AW.seq ?_
  refine AW.condD rfl (fun h9 => ?_) (fun h9 => ?_)
  ·
    have hka : i < l.length := by simp at h9; omega
    refine AW.skip ?_
    refine AW.seq ?_
    refine AW.block ?_
    refine AW.seq ?_
    refine AW.reg ?_
    refine SeqK.q (q_mvC rfl rfl) rfl rfl rfl ?_
    refine SeqK.q (q_asC rfl rfl) rfl rfl rfl ?_
    refine SeqK.nil ?_
    refine AW.seq ?_
    refine AW.reg ?_
    refine SeqK.q (q_mvC rfl rfl) rfl rfl rfl ?_
    refine SeqK.q (q_mvC rfl rfl) rfl rfl rfl ?_
    refine SeqK.q (q_mvC rfl rfl) rfl rfl rfl ?_
    refine SeqK.q (q_index _ rfl Fx.sl67 rfl rfl (by omega) (idx_map hka)) rfl rfl rfl ?_
    refine SeqK.q (q_load (.g [_, _, _]) rfl Fx.ty66 rfl rfl rfl) rfl rfl rfl ?_
    refine SeqK.callV (f := 30) (cs := []) rfl rfl rfl rfl rfl Fx.fn30 rfl (clos_any l[i] H) (fun _ _ h => by rw [h.1]; rfl) (fun x16 H16 q16 => ?_)
    obtain ⟨rfl, hH⟩ := q16
    replace hH := hH.symm
    subst hH
    refine SeqK.nil ?_
    refine AW.cond _ rfl (fun h16 => ?_) (fun h16 => ?_)
    ·
      refine AW.seq ?_
      refine AW.reg ?_
      refine SeqK.q (q_mvC rfl rfl) rfl rfl rfl ?_
      refine SeqK.q (q_asC rfl rfl) rfl rfl rfl ?_
      refine SeqK.nil ?_
      refine AW.ret ?_
      exact fin_x (x := .c _) (H) (.tmp rfl .nil) rfl (fun _ _ h => h) (⟨rfl, .inr ⟨i, hka, rfl, of_decide_eq_true h16⟩⟩)
    ·
      refine AW.skip ?_
      refine AW.reg ?_
      refine SeqK.q (q_add _ rfl rfl rfl (w64 (by omega) (by omega))) rfl rfl rfl ?_
      refine SeqK.q (q_mvC rfl rfl) rfl rfl rfl ?_
      refine SeqK.nil ?_
      exact ⟨i + 1, _, Wk.keep 19 [(0, .c (.a (.t (.sl z 3 (l.map wkT))))), (1, .c (.a (.t (.v (.func (.func 30) #[] #[]))))), (7, iX .i64 ((l.map wkT).length : Nat)), (8, iX .i64 (((i + 1) : Nat) : Int))] [] (H) rfl ⟨rfl, rfl, rfl, rfl, trivial⟩ trivial (fun _ _ h => h) rfl, by omega, ⟨by omega, fun j h hj => by
        by_cases e : j = i
        · subst e; have := of_decide_eq_false h16; omega
        · exact hn j h (by omega)⟩, rfl⟩
  ·
    refine AW.exit ?_
    refine eth_e ?_
    refine eth_e ?_
    refine exit_here ?_
    refine AW.seq ?_
    refine AW.reg ?_
    refine SeqK.q (q_asC rfl rfl) rfl rfl rfl ?_
    refine SeqK.nil ?_
    refine AW.ret ?_
    exact fin_x (x := .c _) (H) (.tmp rfl .nil) rfl (fun _ _ h => h) (⟨rfl, .inl ⟨rfl, fun j h => hn j h (by simp at h9; omega)⟩⟩)

set_option maxRecDepth 20000 in
theorem cycle_any (H : Heap) (k n : Nat) (all : List Bd) (IR : MatR H k n all) (hal : all.length ≤ 100000) : E.Spec Try.prog 20 [.a (.bp k 0)] H fun x H' => ∃ z E, x = .c (.a (.t (.sl z 1 E))) ∧ H' = H ∧ ((z = .ne ∧ E = [] ∧ Sat all) ∨ ∃ cs : List Nat, E = cs.map (fun k => i64T (k : Nat)) ∧ NegCyc all cs) := by
  have hbnd := IR.bnd
  have hn64 := IR.n64
  obtain ⟨z, k3, k1, es, ck, r, I⟩ := id IR
  have hbox := I.box
  refine Spec.enter Try.func20 rfl ?_
  refine AW.wk (Wk.keep 70 [(0, .c (.a (.bp k 0)))] [] (H) rfl ⟨rfl, trivial⟩ trivial (fun _ _ h => h) rfl) ?_
  refine AW.seq ?_
  refine AW.reg ?_
  refine SeqK.q (q_asC rfl rfl) rfl rfl rfl ?_
  refine SeqK.nil ?_
  refine AW.seq ?_
  refine AW.reg ?_
  refine SeqK.q (q_mvC rfl rfl) rfl rfl rfl ?_
  refine SeqK.callE rfl rfl rfl rfl Fx.fn28 rfl (walks_any H k n all (-1) IR hal) (fun _ _ h => by obtain ⟨_, h, _⟩ := h; rw [h]; rfl) (fun x12 H12 q12 => ?_)
  obtain ⟨ls, rfl, hp, hH⟩ := q12
  replace hH := hH.symm
  subst hH
  have hL : Levels all n (fun _ => true) ls := hp.levels
  have hlen := hL.len
  refine SeqK.q (q_asC rfl rfl) rfl rfl rfl ?_
  refine SeqK.nil ?_
  refine AW.seq ?_
  refine AW.reg ?_
  refine SeqK.q (q_mvC rfl rfl) rfl rfl rfl ?_
  refine SeqK.q (q_mvC rfl rfl) rfl rfl rfl ?_
  refine SeqK.q (q_nilH rfl rfl) rfl rfl rfl ?_
  refine SeqK.q (q_fieldH _ rfl Fx.fl73_0 rfl rfl) rfl rfl rfl ?_
  refine SeqK.r (g_load (r := .a _) rfl Fx.ty3 rfl (by (repeat rw [upd_ne _ _ (by first | assumption | exact Ne.symm (by assumption))]); first | assumption | exact upd_same _ _ _) rfl rfl rfl rfl) rfl ?_
  refine SeqK.q (q_add _ rfl rfl rfl ((by rw [w64 (by omega) (by omega)]; omega : IntKind.i64.wrap _ = ((n + 1 : Nat) : Int)))) rfl rfl rfl ?_
  refine SeqK.q (q_index _ rfl Fx.sl68 rfl rfl (by omega) (idx_map (by omega))) rfl rfl rfl ?_
  refine SeqK.q (q_load (.a _) rfl Fx.ty67 rfl rfl rfl) rfl rfl rfl ?_
  refine SeqK.callE rfl rfl rfl rfl Fx.fn29 rfl (index_any H _ _ (by rw [← getD_get (d := []) (by omega), hp.lens (Nat.le_refl _)]; omega)) (fun _ _ h => by rcases h.2 with h | ⟨_, _, h, _⟩ <;> first | (rw [h.1]; rfl) | (rw [h]; rfl)) (fun x21 H21 q21 => ?_)
  obtain ⟨hH, hix⟩ := q21
  replace hH := hH.symm
  subst hH
  obtain ⟨ix, rfl, hiy⟩ : ∃ ix : Int, x21 = iX .i64 ix ∧ ((ix = -1 ∧ ∀ v : Int, 0 ≤ v → v ≤ n → (W ls (n + 1) v).last = -1) ∨ (0 ≤ ix ∧ ix ≤ n ∧ (W ls (n + 1) ix).last ≠ -1)) := by
    have e1 : ls.getD (n + 1) [] = ls[n + 1] := getD_get (by omega)
    have e2 : ls[n + 1].length = n + 1 := by rw [← e1]; exact hp.lens (Nat.le_refl _)
    rcases hix with ⟨h1, h2⟩ | ⟨i, h1, h2, h3⟩
    · refine ⟨-1, h1, .inl ⟨rfl, fun v h0 h9 => last_neg hL h0 h9 ?_⟩⟩
      show (at' (ls.getD (n + 1) []) v).last < 0
      rw [e1, at_get (by omega)]; exact h2 _ _
    · refine ⟨i, h2, .inr ⟨by omega, by omega, ?_⟩⟩
      show (at' (ls.getD (n + 1) []) i).last ≠ -1
      rw [e1, at_get (by simpa using h1)]
      intro e; simp at e; omega
  refine SeqK.q (q_asC rfl rfl) rfl rfl rfl ?_
  refine SeqK.nil ?_
  refine AW.seq ?_
  refine AW.seq ?_
  refine AW.reg ?_
  refine SeqK.q (q_mvC rfl rfl) rfl rfl rfl ?_
  refine SeqK.q (q_lss rfl rfl rfl) rfl rfl rfl ?_
  refine SeqK.nil ?_
  refine AW.condD rfl (fun h23 => ?_) (fun h23 => ?_)
  ·
    have hst : ∀ v : Int, 0 ≤ v → v ≤ n → (W ls (n + 1) v).last = -1 := by
      rcases hiy with h | h
      · exact h.2
      · omega
    refine AW.seq ?_
    refine AW.reg ?_
    refine SeqK.q (q_asC rfl rfl) rfl rfl rfl ?_
    refine SeqK.nil ?_
    refine AW.xw 2 rfl (XW.nil (sz := 1)) ?_
    refine AW.ret ?_
    exact fin_x (x := .c _) (_) (.tmp rfl .nil) rfl (fun _ _ h => h) (⟨_, _, rfl, rfl, .inl ⟨rfl, rfl, _, hL.sat hbnd hst⟩⟩)
  ·
    have hix2 : 0 ≤ ix ∧ ix ≤ n ∧ (W ls (n + 1) ix).last ≠ -1 := by
      rcases hiy with h | h
      · omega
      · exact h
    refine AW.skip ?_
    refine AW.seq ?_
    refine AW.reg ?_
    refine SeqK.r (b_makeMap (.int .i64) rfl rfl rfl rfl) rfl ?_
    refine SeqK.q (q_mvC rfl rfl) rfl rfl rfl ?_
    refine SeqK.r (b_insert (.int Fx.un3) rfl rfl Fx.un76 rfl rfl rfl rfl rfl) rfl ?_
    refine SeqK.q (q_mvM rfl rfl) rfl rfl rfl ?_
    refine SeqK.q (q_asM rfl rfl) rfl rfl rfl ?_
    refine SeqK.nil ?_
    refine AW.seq ?_
    refine AW.reg ?_
    refine SeqK.q (q_asC rfl rfl) rfl rfl rfl ?_
    refine SeqK.nil ?_
    refine AW.seq ?_
    refine AW.seq ?_
    refine AW.reg ?_
    refine SeqK.q (q_mvC rfl rfl) rfl rfl rfl ?_
    refine SeqK.q (q_nilH rfl rfl) rfl rfl rfl ?_
    refine SeqK.q (q_fieldH _ rfl Fx.fl73_0 rfl rfl) rfl rfl rfl ?_
    refine SeqK.r (g_load (r := .a _) rfl Fx.ty3 rfl (by (repeat rw [upd_ne _ _ (by first | assumption | exact Ne.symm (by assumption))]); first | assumption | exact upd_same _ _ _) rfl rfl rfl rfl) rfl ?_
    refine SeqK.q (q_add _ rfl rfl rfl ((by rw [w64 (by omega) (by omega)]; omega : IntKind.i64.wrap _ = ((n + 1 - 0 : Nat) : Int)))) rfl rfl rfl ?_
    refine SeqK.q (q_asC rfl rfl) rfl rfl rfl ?_
    refine SeqK.nil ?_
    refine AW.block ?_
    refine AW.tip 6 3 1 rfl (fun k0 hk0 => ?_)
    refine AW.loop (fun (m : Nat) s => ∃ (kp : Nat) (vs : List Int) (ks : List Nat) (E : List (List T)) (es2 : List ME) (ck2 : Nat) (av : Int), (H kp = none ∧ Tr all n ls vs ks ∧ ks.length = m ∧ E = ks.map (fun k => i64T (k : Nat)) ∧ vs.Nodup ∧ av = vs.getD m 0 ∧ Seen vs es2 ck2 ∧ m ≤ n + 1) ∧ s = ⟨70, sp [(0, .c (.a (.bp k 0))), (3, .c (.a (.t (.sl .nn 1 (ls.map lvT))))), (4, iX .i64 av), (5, .lmp 24), (6, .c (.a (.ts kp .ne 1 E))), (7, iX .i64 ((n + 1 - m : Nat) : Int))], lv [(24, .map KI es2 ck2)], upd H kp (some (.tip 3 1 E.length))⟩) (fun m => n + 1 - m) 0 ⟨_, Wk.keep 70 [(0, .c (.a (.bp k 0))), (3, .c (.a (.t (.sl .nn 1 (ls.map lvT))))), (4, iX .i64 (ix)), (5, .lmp 24), (6, .c (.a (.ts (k0) .ne 1 ([])))), (7, iX .i64 ((n + 1 - ((0 : Nat)) : Nat) : Int))] [(24, .map KI (_) (_))] (upd H (k0) (some (.tip 3 1 ([]).length))) rfl ⟨rfl, rfl, rfl, rfl, rfl, rfl, trivial⟩ ⟨rfl, trivial⟩ (fun _ _ h => h) rfl, k0, [ix], [], [], _, _, ix, ⟨hk0, .start hix2.1 hix2.2.1 hix2.2.2, rfl, rfl, by simp, rfl, .start ix, by omega⟩, rfl⟩ (fun m s hs => ?_)
    obtain ⟨kp, vs, ks, E, es2, ck2, av, ⟨hkp, htr, hks, hE, hnd, hav, hseen, hmn⟩, rfl⟩ := hs
    have nkp : k ≠ kp := fun e => by rw [← e, hbox] at hkp; cases hkp
    have hEl : E.length = m := by rw [hE, List.length_map]; exact hks
    refine AW.seq ?_
    refine AW.seq ?_
    refine AW.reg ?_
    refine SeqK.q (q_mvC rfl rfl) rfl rfl rfl ?_
    refine SeqK.q (q_gtr rfl rfl rfl) rfl rfl rfl ?_
    refine SeqK.nil ?_
    refine AW.condD rfl (fun h33 => ?_) (fun h33 => ?_)
    ·
      have hm9 : m < n + 1 := by omega
      obtain ⟨k9, hlast, hk9, hj0, hj1, htr2⟩ := htr.step hL hbnd (by omega)
      have hrg := htr.rng m (by rw [htr.len]; omega)
      rw [← hav] at hrg
      have hlv : ls[n + 1 - m].length = n + 1 := by rw [← getD_get (d := []) (by omega)]; exact hp.lens (by omega)
      have hv9 : av.toNat < ls[n + 1 - m].length := by rw [hlv]; omega
      have hv : ls[n + 1 - m][av.toNat].last = (k9 : Nat) := by
        rw [hks, ← hav] at hlast
        have hlast : (at' (ls.getD (n + 1 - m) []) av).last = (k9 : Nat) := hlast
        rw [getD_get (by omega), at_get hv9] at hlast
        exact hlast
      rw [bd_get hk9] at hj0 hj1 htr2
      have hvl := htr.len
      refine AW.skip ?_
      refine AW.seq ?_
      refine AW.block ?_
      refine AW.seq ?_
      refine AW.reg ?_
      refine SeqK.q (q_mvC rfl rfl) rfl rfl rfl ?_
      refine SeqK.q (q_mvC rfl rfl) rfl rfl rfl ?_
      refine SeqK.q (q_index _ rfl Fx.sl68 rfl rfl (by omega) (idx_map (by omega))) rfl rfl rfl ?_
      refine SeqK.q (q_load (.a _) rfl Fx.ty67 rfl rfl rfl) rfl rfl rfl ?_
      refine SeqK.q (q_mvC rfl rfl) rfl rfl rfl ?_
      refine SeqK.q (q_index _ rfl Fx.sl67 rfl rfl (by omega) (idx_mapI hv9)) rfl rfl rfl ?_
      refine SeqK.q (q_fieldP _ rfl Fx.fl66_2 rfl rfl) rfl rfl rfl ?_
      refine SeqK.q (q_load (.a _) rfl Fx.ty3 rfl rfl rfl) rfl rfl rfl ?_
      refine SeqK.q (q_asC rfl rfl) rfl rfl rfl ?_
      refine SeqK.nil ?_
      rw [hv]
      refine AW.seq ?_
      refine AW.reg ?_
      refine SeqK.q (q_mvC rfl rfl) rfl rfl rfl ?_
      refine SeqK.q (q_mvC rfl rfl) rfl rfl rfl ?_
      refine SeqK.q (q_buildSlice _ rfl Fx.el36 rfl (by decide) rfl) rfl rfl rfl ?_
      refine SeqK.app1 rfl (by assumption) rfl Fx.el36 rfl rfl (by simp; omega) rfl rfl (fun k47 hk47 => ?_)
      refine SeqK.q (q_asC rfl rfl) rfl rfl rfl ?_
      refine SeqK.nil ?_
      refine AW.seq ?_
      refine AW.reg ?_
      refine SeqK.q (q_mvC rfl rfl) rfl rfl rfl ?_
      refine SeqK.q (q_nilH rfl rfl) rfl rfl rfl ?_
      have nk47 : k ≠ k47 := fun e => by rw [← e, hbox] at hk47; cases hk47
      refine SeqK.q (q_fieldH _ rfl Fx.fl73_1 rfl rfl) rfl rfl rfl ?_
      refine SeqK.r (g_load (r := .a _) rfl Fx.ty70 rfl (by (repeat rw [upd_ne _ _ (by first | assumption | exact Ne.symm (by assumption))]); first | assumption | exact upd_same _ _ _) rfl rfl rfl rfl) rfl ?_
      refine SeqK.q (q_mvC rfl rfl) rfl rfl rfl ?_
      refine SeqK.q (q_indexTs _ rfl Fx.sl70 rfl rfl (by omega) (idx_map hk9)) rfl rfl rfl ?_
      refine SeqK.q (q_fieldP _ rfl Fx.fl78_1 rfl rfl) rfl rfl rfl ?_
      refine SeqK.q (q_load (.a _) rfl Fx.ty3 rfl rfl rfl) rfl rfl rfl ?_
      refine SeqK.q (q_asC rfl rfl) rfl rfl rfl ?_
      refine SeqK.nil ?_
      refine AW.seq ?_
      refine AW.seq ?_
      by_cases hmem : all[k9].j ∈ vs
      ·
        obtain ⟨a, ha, hae⟩ := List.getElem_of_mem hmem
        have hsa := hseen.yes a ha
        rw [getD_get ha, hae] at hsa
        refine AW.reg ?_
        refine SeqK.q (q_mvM rfl rfl) rfl rfl rfl ?_
        refine SeqK.q (q_mvC rfl rfl) rfl rfl rfl ?_
        refine SeqK.r (b_lookup (r := .tup [.a _, .a (.t (.v (.bool _)))]) (.int Fx.un3) rfl Fx.un76 Fx.ze3 rfl rfl rfl rfl (hsa) rfl rfl rfl) rfl ?_
        refine SeqK.q (q_mvT rfl rfl) rfl rfl rfl ?_
        refine SeqK.q (q_extract _ rfl rfl rfl) rfl rfl rfl ?_
        refine SeqK.q (q_extract _ rfl rfl rfl) rfl rfl rfl ?_
        refine SeqK.q (q_asC rfl rfl) rfl rfl rfl ?_
        refine SeqK.q (q_asC rfl rfl) rfl rfl rfl ?_
        refine SeqK.nil ?_
        refine AW.seq ?_
        refine AW.reg ?_
        refine SeqK.q (q_mvC rfl rfl) rfl rfl rfl ?_
        refine SeqK.nil ?_
        refine AW.condT rfl ?_
        refine AW.seq ?_
        refine AW.xw 6 rfl .ts ?_
        refine AW.reg ?_
        refine SeqK.q (q_mvC rfl rfl) rfl rfl rfl ?_
        refine SeqK.q (q_mvC rfl rfl) rfl rfl rfl ?_
        refine SeqK.q (q_cut _ _ _ rfl Fx.sl36 rfl ⟨_, rfl⟩ rfl (by simp; omega) (Nat.le_refl _) rfl) rfl rfl rfl ?_
        refine SeqK.q (q_asC rfl rfl) rfl rfl rfl ?_
        refine SeqK.nil ?_
        refine AW.ret ?_
        exact fin_x (x := .c _) (H) (.tmp rfl .nil) rfl (upd_sub hk47) (⟨_, _, rfl, rfl, .inr ⟨(ks ++ [k9]).drop a, by rw [hE, List.take_length]; simp [List.map_drop], htr2.cyc hL (by simp; omega) (by rw [List.take_append_of_le_length (by simp; omega), List.take_of_length_le (by simp; omega)]; exact hnd) (by rw [getD_snoc, getD_snoc, if_pos ha, if_neg (by simp; omega), if_pos (by simp; omega), getD_get ha, hae])⟩⟩)
      ·
        refine AW.reg ?_
        refine SeqK.q (q_mvM rfl rfl) rfl rfl rfl ?_
        refine SeqK.q (q_mvC rfl rfl) rfl rfl rfl ?_
        refine SeqK.r (b_lookup (r := .tup [.a _, .a (.t (.v (.bool _)))]) (.int Fx.un3) rfl Fx.un76 Fx.ze3 rfl rfl rfl rfl (hseen.no _ hmem) rfl rfl rfl) rfl ?_
        refine SeqK.q (q_mvT rfl rfl) rfl rfl rfl ?_
        refine SeqK.q (q_extract _ rfl rfl rfl) rfl rfl rfl ?_
        refine SeqK.q (q_extract _ rfl rfl rfl) rfl rfl rfl ?_
        refine SeqK.q (q_asC rfl rfl) rfl rfl rfl ?_
        refine SeqK.q (q_asC rfl rfl) rfl rfl rfl ?_
        refine SeqK.nil ?_
        refine AW.seq ?_
        refine AW.reg ?_
        refine SeqK.q (q_mvC rfl rfl) rfl rfl rfl ?_
        refine SeqK.nil ?_
        refine AW.condF rfl ?_
        refine AW.skip ?_
        refine AW.reg ?_
        refine SeqK.q (q_mvM rfl rfl) rfl rfl rfl ?_
        refine SeqK.q (q_mvC rfl rfl) rfl rfl rfl ?_
        refine SeqK.q (q_mvC rfl rfl) rfl rfl rfl ?_
        refine SeqK.q (q_lenTs rfl Fx.un36 rfl) rfl rfl rfl ?_
        refine SeqK.r (b_mapUpdate (.int Fx.un3) rfl rfl Fx.un76 rfl rfl rfl rfl rfl) rfl ?_
        refine SeqK.nil ?_
        refine AW.reg ?_
        refine SeqK.q (q_mvC rfl rfl) rfl rfl rfl ?_
        refine SeqK.q (q_sub _ rfl rfl rfl ((by rw [w64 (by omega) (by omega)]; omega : IntKind.i64.wrap _ = ((n + 1 - (m + 1) : Nat) : Int)))) rfl rfl rfl ?_
        refine SeqK.q (q_asC rfl rfl) rfl rfl rfl ?_
        refine SeqK.nil ?_
        exact ⟨m + 1, _, Wk.keep 70 [(0, .c (.a (.bp k 0))), (3, .c (.a (.t (.sl .nn 1 (ls.map lvT))))), (4, iX .i64 (all[k9].j)), (5, .lmp 24), (6, .c (.a (.ts (k47) .ne 1 (E ++ [i64T (k9 : Nat)])))), (7, iX .i64 ((n + 1 - (m + 1) : Nat) : Int))] [(24, .map KI (_) (_))] (upd H (k47) (some (.tip 3 1 (E ++ [i64T (k9 : Nat)]).length))) rfl ⟨rfl, rfl, rfl, rfl, rfl, rfl, trivial⟩ ⟨rfl, trivial⟩ (fun _ _ h => h) rfl, by omega, k47, vs ++ [all[k9].j], ks ++ [k9], E ++ [i64T (k9 : Nat)], _, _, all[k9].j, ⟨hk47, htr2, by simp [hks], by rw [hE]; simp, by rw [List.nodup_append]; exact ⟨hnd, by simp, fun x hx y hy e => by simp at hy; subst hy e; exact hmem hx⟩, by rw [getD_snoc, if_neg (by omega), if_pos (by omega)], hseen.snoc hmem (by simp; omega), by omega⟩, rfl⟩
    ·
      exact (Tr.full htr hnd (by omega)).elim

set_option maxRecDepth 20000 in
theorem sat_any (H : Heap) (k n : Nat) (all : List Bd) (IR : MatR H k n all) (hal : all.length ≤ 100000) : E.Spec Try.prog 15 [.a (.bp k 0)] H fun x H' => ∃ b, x = bX b ∧ H' = H ∧ (b = true ↔ Sat all) := by
  refine Spec.enter Try.func15 rfl ?_
  refine AW.wk (Wk.keep 6 [(0, .c (.a (.bp k 0)))] [] (H) rfl ⟨rfl, trivial⟩ trivial (fun _ _ h => h) rfl) ?_
  refine AW.seq ?_
  refine AW.reg ?_
  refine SeqK.q (q_asC rfl rfl) rfl rfl rfl ?_
  refine SeqK.nil ?_
  refine AW.seq ?_
  refine AW.reg ?_
  refine SeqK.q (q_mvC rfl rfl) rfl rfl rfl ?_
  refine SeqK.callE rfl rfl rfl rfl Fx.fn20 rfl (cycle_any H k n all IR hal) (fun _ _ h => by obtain ⟨_, _, h, _⟩ := h; rw [h]; rfl) (fun x4 H4 q4 => ?_)
  obtain ⟨z4, E4, rfl, hH, hc4⟩ := q4
  replace hH := hH.symm
  subst hH
  refine SeqK.eqlNZ rfl rfl rfl rfl rfl rfl Fx.nk36 (fun b hb1 hb2 => ?_)
  refine SeqK.q (q_asC rfl rfl) rfl rfl rfl ?_
  refine SeqK.nil ?_
  refine AW.ret ?_
  exact fin_x (x := .c _) (_) (.tmp rfl .nil) rfl (fun _ _ h => h) (⟨b, rfl, rfl, by
    rcases hc4 with ⟨h1, h2, h3⟩ | ⟨cs, h1, h2⟩
    · exact ⟨fun _ => h3, fun _ => hb2 h1 h2⟩
    · refine ⟨fun h => ?_, fun h => absurd h h2.unsat⟩
      have := hb1 h
      rw [h1] at this
      exact absurd (List.map_eq_nil_iff.1 this) h2.ne⟩)

end Go.Proofs.Ytkpacejikoengaa.W
