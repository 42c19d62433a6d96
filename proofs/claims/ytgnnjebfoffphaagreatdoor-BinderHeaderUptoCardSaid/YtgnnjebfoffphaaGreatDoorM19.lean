import Derived.Test.YtgnnjebfoffphaaGreatDoorM18
set_option maxRecDepth 20000
set_option maxHeartbeats 16000000
set_option linter.unusedSectionVars false
set_option linter.unusedSimpArgs false
set_option linter.unusedVariables false
namespace Go.Proofs.YtgnnjebfoffphaaGreatDoor.W
open Fx
open Go.RowKit E M
open Q
open Q
theorem XW.exN {a b c d e f g : A} : XW (.c (.g [a, b, c, d, e, f, g, nA])) (.c (.g [a, b, c, d, e, f, g, .t (.sl .un 8 [])])) :=
  XW.g (xr4 (xr2 (xr1 (.cons XW.nilU .nil))))
theorem upd_sw {α : Type} {H : Nat → Option α} {a b : Nat} {x y : Option α} (h : a ≠ b) : ∀ j o, upd (upd H b y) a x j = some o → upd (upd H a x) b y j = some o := fun j o hj => by
  by_cases e1 : j = a
  · subst e1; rw [upd_same] at hj; rw [upd_ne _ _ h, upd_same]; exact hj
  · rw [upd_ne _ _ e1] at hj
    by_cases e2 : j = b
    · subst e2; rw [upd_same] at hj ⊢; exact hj
    · rw [upd_ne _ _ e2] at hj ⊢; rw [upd_ne _ _ e1]; exact hj
abbrev bx1 (s : Sp) (l : List Ex) (i : Nat) : List Ex := (l.take i).map fun a => (bndE s a).1
abbrev bx2 (s : Sp) (l : List Ex) (i : Nat) : List Int := (l.take i).map fun a => (bndE s a).2.1
theorem bx1_put {s : Sp} {l : List Ex} {i : Nat} {zs : List (List E.T)} (hi : i < l.length) (h : zs = (bx1 s l i).map exT') : zs ++ [exL (bndE s l[i]).1] = (bx1 s l (i + 1)).map exT' := by
  rw [h, bx1, bx1, qJ hi, qK, qK, qX, qX, exT_eq]
theorem bx2_put {s : Sp} {l : List Ex} {i : Nat} {zs : List (List E.T)} (hi : i < l.length) (h : zs = (bx2 s l i).map i64T) : zs ++ [i64T (bndE s l[i]).2.1] = (bx2 s l (i + 1)).map i64T := by
  rw [h, bx2, bx2, qJ hi, qK, qK, qX, qX]
theorem bx1_len {s : Sp} {l : List Ex} {i : Nat} {zs : List (List E.T)} (hi : i ≤ l.length) (h : zs = (bx1 s l i).map exT') : zs.length = i := by rw [h, qA, qA, List.length_take]; omega
theorem bx2_len {s : Sp} {l : List Ex} {i : Nat} {zs : List (List E.T)} (hi : i ≤ l.length) (h : zs = (bx2 s l i).map i64T) : zs.length = i := by rw [h, qA, qA, List.length_take]; omega
theorem bnd_fail {s : Sp} {e : Ex} {i : Nat} (hi : i < e.args.length) (h0 : ∀ a ∈ e.args.take i, (bndE s a).2.2 = 0) (h : (bndE s e.args[i]).2.2 ≠ 0) : bndE s e = (ex0, 0, (bndE s e.args[i]).2.2) := by
  have key : ∀ (l : List Ex) (i : Nat) (hi : i < l.length) (es : List Ex) (ks : List Int), (∀ a ∈ l.take i, (bndE s a).2.2 = 0) → (bndE s l[i]).2.2 ≠ 0 → lsB (l.map (bndE s)) es ks = ([], [], (bndE s l[i]).2.2) := by
    intro l
    induction l with
    | nil => intro i hi; simp at hi
    | cons x r ih =>
      intro i hi es ks h0 h
      rw [qL, lsB]
      cases i with
      | zero => rw [if_pos (show (bndE s x).2.2 ≠ 0 from h)]; rfl
      | succ i =>
        rw [if_neg (by rw [h0 x (by simp)]; simp)]
        exact ih i (by simpa using hi) _ _ (fun a ha => h0 a (by simp [ha])) h
  rw [bndE_eq, outB, key e.args i hi [] [] h0 h, if_pos h]
theorem bnd_all {s : Sp} {e : Ex} (h0 : ∀ a ∈ e.args, (bndE s a).2.2 = 0) : bndE s e = nodeB s (e.wA (e.args.map fun a => (bndE s a).1)) (e.args.map fun a => (bndE s a).2.1) := by
  rw [bndE_eq, outB, lsB_all _ [] [] fun x hx => by obtain ⟨a, ha, rfl⟩ := jE.1 hx; exact h0 a ha, if_neg (by simp)]
  simp only [List.nil_append, List.map_map]; rfl
theorem bnd_fm {s : Sp} (e : Ex) : fmE e → (bndE s e).2.2 = 0 → fmE (bndE s e).1 := by
  induction e using Ex.ind with
  | h e ih =>
    intro hf h
    have B := bnd_of h
    have hF := (fmE_iff e).1 hf
    refine (fmE_iff _).2 ⟨by rw [B.op, B.args, qA]; exact hF.1, fun a ha => ?_⟩
    exact cL136
theorem bnd_ts {s : Sp} (e : Ex) : tsE e → (bndE s e).2.2 = 0 → tsE (bndE s e).1 := by
  induction e using Ex.ind with
  | h e ih =>
    intro hf h
    have B := bnd_of h
    have hF := (tsE_iff e).1 hf
    refine (tsE_iff _).2 ⟨by rw [B.vs]; exact hF.1, fun a ha => ?_⟩
    exact cL136
theorem sf_ev0 {r : List RV} {e : Ex} (h : Sf e) (hc : cixE r.length e) (hf : fmE e) : Ev r e := by
  have h1 := (fmE_iff e).1 hf
  exact sf_ev h hc (by have := h1.1; omega) (fun a ha => by have := ((fmE_iff a).1 (h1.2 a ha)).1; omega) hf
theorem bind_of (sc : Sp) (e : Ex) (hs : okSp sc) (hf : fmE e) (ht : tsE e) (ih : ∀ a ∈ e.args, Pu 35 [spC sc, exC a] (bnX (bndE sc a))) (hop : (∀ a ∈ e.args, (bndE sc a).2.2 = 0) → ¬ (e.wA (e.args.map fun a => (bndE sc a).1)).op = 1 → ¬ (e.wA (e.args.map fun a => (bndE sc a).1)).op = 2 → Pu 80 [spC sc, exC (e.wA (e.args.map fun a => (bndE sc a).1)), iL .un (e.args.map fun a => (bndE sc a).2.1)] (i2X (opI (e.wA (e.args.map fun a => (bndE sc a).1)) (e.args.map fun a => (bndE sc a).2.1)))) : Pu 35 [spC sc, exC e] (bnX (bndE sc e)) := by
  have hn := (fmE_iff e).1 hf
  have htn := (tsE_iff e).1 ht
  have hl2 : e.args.length ≤ 2 := by have := hn.1; omega
  intro H
  refine Spec.enter Tryz.func35 rfl ?_
  refine AW.wk (wK 86 (l := [(0, .c (spC sc)), (1, .c (exC e))]) (ll := []) (H := (H))) ?_
  refine D5 ?_
  refine D1 ?_
  refine D1 ?_
  refine eL271 ?_
  refine AW.tip 8 3 1 rfl (fun k1 hk1 => ?_)
  refine AW.tip 7 37 8 rfl (fun k0 hk0 => ?_)
  refine AW.loop (fun (i : Nat) s => ∃ (kt ku : Nat) (zs us : List (List E.T)), (i ≤ e.args.length ∧ H ku = none ∧ upd H ku (some (.tip 3 1 us.length)) kt = none ∧ zs = (bx1 sc e.args i).map exT' ∧ us = (bx2 sc e.args i).map i64T ∧ ∀ a ∈ e.args.take i, (bndE sc a).2.2 = 0) ∧ s = ⟨86, sp [(2, .lp 2 0), (3, .lp 3 0), (4, .lp 4 0), (5, .c (iC 0)), (6, .c (iC 0)), (7, .c (.a (.ts kt .ne 8 zs))), (8, .c (.a (.ts ku .ne 1 us))), (20, .c (exsC .un e.args)), (21, iX .i64 (((e.args.map exT').length : Nat) : Int)), (22, nX i)], lv [(2, .box (zSp sc)), (3, .box (zEx e)), (4, .box zL4)], (upd (upd H ku (some (.tip 3 1 us.length))) kt (some (.tip 37 8 zs.length)))⟩) (fun i => e.args.length - i) 0 ⟨_, by exact wK 86, k0, k1, [], [], ⟨qZ _, hk1, hk0, rfl, rfl, by simp⟩, rfl⟩ (fun i s hs => ?_)
  obtain ⟨kt, ku, zs, us, ⟨hi0, hku, hkt2, hzs, hus, h0⟩, rfl⟩ := hs
  refine eL175 ?_
  refine cD ?_ ?_ <;> intro h23
  ·
    have hi := oI h23
    have hzl := bx1_len (by omega) hzs
    have hul := bx2_len (by omega) hus
    refine eL269 ?_
    refine Z3 (sR (Z11 (r := .g [_, _, _]) ty92 ?_))
    refine G1 ?_
    refine Z16 fn35 (ih _ (qC hi)) ?_
    refine G8 ?_
    refine eL153 ?_
    refine cD ?_ ?_ <;> intro h34
    ·
      refine D1 ?_
      refine SeqK.xw 35 rfl XW.exN ?_
      refine G4 ?_
      exact aR (fin_x (x := .tup [_, _, _]) (H) (.cellL rfl rfl ty37 rfl rfl (.tmp rfl (.tmp rfl .nil))) rfl ((fun j o h => upd_sub (f := upd H ku _) hkt2 j o (upd_sub hku j o h))) (⟨bne (a := (ex0, 0, _)) (bnd_fail hi h0 h34).symm, rfl⟩))
    ·
      have he0 : (bndE sc e.args[i]).2.2 = 0 := qY.1 h34
      refine eL173 ?_
      refine SeqK.app1 rfl (hkt2) rfl el27 rfl rfl (by simp [hzl]; omega) rfl rfl (fun k40 hk40 => ?_)
      obtain ⟨hk40n, hk40x⟩ := upd_lt hk40
      refine SeqK.gh (Wk.gh (Wk.keep 86 [(2, .lp 2 0), (3, .lp 3 0), (4, .lp 4 0), (5, .c (iC 0)), (6, .c (iC 0)), (8, .c (.a (.ts ku .ne 1 us))), (20, .c (exsC .un e.args)), (21, iX .i64 (((e.args.map exT').length : Nat) : Int)), (22, nX i), (11, .lp 11 0), (12, .c (iC (bndE sc e.args[i]).2.1)), (40, .c (.a (.ts k40 .ne 8 (zs ++ [exL (bndE sc e.args[i]).1]))))] [(2, .box (zSp sc)), (3, .box (zEx e)), (4, .box zL4), (11, .box [.t (.v (.int .i64 (bndE sc e.args[i]).1.op)), .t (.v (.string (bndE sc e.args[i]).1.tb)), .t (.v (.string (bndE sc e.args[i]).1.nm)), .t (.v (.int .i64 (bndE sc e.args[i]).1.ix)), .t (.v (.int .i64 (bndE sc e.args[i]).1.vk)), .t (.v (.int .i64 (bndE sc e.args[i]).1.vn)), .t (.v (.string (bndE sc e.args[i]).1.vs)), .t (.sl .un 8 ((bndE sc e.args[i]).1.args.map exT'))])] (upd (upd H k40 (some (.tip 37 8 (zs ++ [exL (bndE sc e.args[i]).1]).length))) ku (some (.tip 3 1 us.length))) rfl ⟨rfl, rfl, rfl, rfl, rfl, rfl, rfl, rfl, rfl, rfl, rfl, rfl, trivial⟩ ⟨rfl, rfl, rfl, rfl, trivial⟩ (upd_sw (fun e => hk40n e.symm)) rfl)) ?_
      rintro s1 rfl
      refine G3 ?_
      refine SeqK.app1 rfl (by rw [upd_ne _ _ (fun e => hk40n e.symm)]; exact hku) rfl el43 rfl rfl (by simp [hul]; omega) rfl rfl (fun k44 hk44 => ?_)
      refine G2 ?_
      refine eL211 ?_
      obtain ⟨hk44n, hk44⟩ := upd_lt hk44
      exact ⟨i + 1, _, Wk.keep 86 [(2, .lp 2 0), (3, .lp 3 0), (4, .lp 4 0), (5, .c (iC 0)), (6, .c (iC 0)), (7, .c (.a (.ts (k40) .ne 8 (zs ++ [exL (bndE sc e.args[i]).1])))), (8, .c (.a (.ts (k44) .ne 1 (us ++ [i64T (bndE sc e.args[i]).2.1])))), (20, .c (exsC .un e.args)), (21, iX .i64 (((e.args.map exT').length : Nat) : Int)), (22, iX .i64 (((i + 1) : Nat) : Int))] [(2, .box (zSp sc)), (3, .box (zEx e)), (4, .box zL4)] ((upd (upd H (k44) (some (.tip 3 1 (us ++ [i64T (bndE sc e.args[i]).2.1]).length))) (k40) (some (.tip 37 8 (zs ++ [exL (bndE sc e.args[i]).1]).length)))) rfl ⟨rfl, rfl, rfl, rfl, rfl, rfl, rfl, rfl, rfl, rfl, trivial⟩ ⟨rfl, rfl, rfl, trivial⟩ (upd_sw hk44n.symm) rfl, by omega, k40, k44, zs ++ [exL (bndE sc e.args[i]).1], us ++ [i64T (bndE sc e.args[i]).2.1], ⟨hi, hk44, by rw [upd_ne _ _ hk44n.symm]; exact hk40x, bx1_put hi hzs, bx2_put hi hus, fun a ha => by
        rw [qJ hi] at ha
        rcases jC.1 ha with ha | ha
        · exact h0 a ha
        · rw [jF.1 ha]; exact he0⟩, rfl⟩
  ·
    refine eL147 ?_
    refine eL235 ?_
    obtain rfl := oE h23 hi0
    rw [bx1, qT] at hzs
    rw [bx2, qT] at hus
    rw [qT] at h0
    refine AW.xw 7 rfl (XW.ts.trans (XW.es hzs)) ?_
    refine AW.xw 8 rfl (XW.ts.trans (XW.es hus)) ?_
    have h0' : ∀ a ∈ e.args, (bndE sc a).2.2 = 0 := h0
    have hB := bnd_all h0'
    refine B3 ?_
    refine Z3 (AW.seq (sR (Z1 fl37_0 ?_)))
    refine G1 ?_
    refine eL160 ?_
    refine cD ?_ ?_ <;> intro h50
    ·
      refine eL251 ?_
      refine N7 ?_
      refine Z38 ?_
      exact aR (fin_x (x := .tup [_, _, _]) (H) (.cellL rfl rfl ty37 rfl rfl (.tmp rfl (.tmp rfl .nil))) rfl ((fun j o h => upd_sub (f := upd H ku _) hkt2 j o (upd_sub hku j o h))) (⟨bne (a := ((e.wA (e.args.map fun a => (bndE sc a).1)), e.vk, 0)) (by rw [hB, nodeB, if_pos (by assumption)]), rfl⟩))
    ·
      refine D2 ?_
      refine cD ?_ ?_ <;> intro h56
      ·
        refine D2 ?_
        refine Z16 fn79 (columnS_any sc (e.wA (e.args.map fun a => (bndE sc a).1)) hs) ?_
        refine G7 ?_
        refine eL153 ?_
        refine cD ?_ ?_ <;> intro h66
        ·
          refine D1 ?_
          refine SeqK.xw 67 rfl XW.exN ?_
          refine G4 ?_
          exact aR (fin_x (x := .tup [_, _, _]) (H) (.cellL rfl rfl ty37 rfl rfl (.tmp rfl (.tmp rfl .nil))) rfl ((fun j o h => upd_sub (f := upd H ku _) hkt2 j o (upd_sub hku j o h))) (⟨bne (a := (ex0, 0, _)) (by rw [hB, nodeB, if_neg (by assumption), if_pos (by assumption), if_pos (by assumption)]), rfl⟩))
        ·
          refine eL219 ?_
          refine eL255 ?_
          refine G4 ?_
          exact aR (fin_x (x := .tup [_, _, _]) (H) (.cellL rfl rfl ty37 rfl rfl (.tmp rfl (.tmp rfl .nil))) rfl ((fun j o h => upd_sub (f := upd H ku _) hkt2 j o (upd_sub hku j o h))) (⟨bne (a := (((e.wA (e.args.map fun a => (bndE sc a).1))).wI (colS sc (e.wA (e.args.map fun a => (bndE sc a).1))).1, _, 0)) (by rw [hB, nodeB, if_neg (by assumption), if_pos (by assumption), if_neg (by assumption)]), rfl⟩))
      ·
        refine eL219 ?_
        refine sQ (q_call _ rfl fn80 rfl (hop h0' (by assumption) (by assumption)) rfl) ?_
        refine G5 ?_
        refine eL153 ?_
        refine cD ?_ ?_ <;> intro h81
        ·
          refine D1 ?_
          refine SeqK.xw 82 rfl XW.exN ?_
          refine G4 ?_
          exact aR (fin_x (x := .tup [_, _, _]) (H) (.cellL rfl rfl ty37 rfl rfl (.tmp rfl (.tmp rfl .nil))) rfl ((fun j o h => upd_sub (f := upd H ku _) hkt2 j o (upd_sub hku j o h))) (⟨bne (a := (ex0, 0, _)) (by rw [hB, nodeB, if_neg (by assumption), if_neg (by assumption), if_pos (by assumption)]), rfl⟩))
        ·
          refine AW.skip (D5 ?_)
          exact aR (fin_x (x := .tup [_, _, _]) (H) (.cellL rfl rfl ty37 rfl rfl (.tmp rfl (.tmp rfl .nil))) rfl ((fun j o h => upd_sub (f := upd H ku _) hkt2 j o (upd_sub hku j o h))) (⟨bne (a := ((e.wA (e.args.map fun a => (bndE sc a).1)), _, 0)) (by rw [hB, nodeB, if_neg (by assumption), if_neg (by assumption), if_neg (by assumption)]), rfl⟩))
open Q
theorem szS_map {f : Ex → Ex} : ∀ l : List Ex, (∀ a ∈ l, szE (f a) = szE a) → szS (l.map f) = szS l
  | [], _ => rfl
  | a :: r, h => by rw [qL, szS, szS, h a (by simp), szS_map r fun b hb => h b (by simp [hb])]
theorem dpS_map {f : Ex → Ex} : ∀ l : List Ex, (∀ a ∈ l, dpE (f a) = dpE a) → dpS (l.map f) = dpS l
  | [], _ => rfl
  | a :: r, h => by rw [qL, dpS, dpS, h a (by simp), dpS_map r fun b hb => h b (by simp [hb])]
structure gdX (e : Ex) : Prop where
  fm : fmE e
  ts : tsE e
  rg : rgX e
  sz : szE e ≤ 400
  dp : dpE e ≤ 51
theorem gdX.arg {e a : Ex} (h : gdX e) (ha : a ∈ e.args) : gdX a := by
  have h1 := h.sz; have h2 := h.dp
  rw [szE_eq] at h1; rw [dpE_eq] at h2
  have k1 := sz_mem ha; have k2 := dp_mem ha
  exact ⟨((fmE_iff e).1 h.fm).2 a ha, ((tsE_iff e).1 h.ts).2 a ha, ((rgX_iff e).1 h.rg).2 a ha, by omega, by omega⟩
theorem bnd_m {s : Sp} (e : Ex) : (bndE s e).2.2 = 0 → szE (bndE s e).1 = szE e ∧ dpE (bndE s e).1 = dpE e ∧ (rgX e → rgX (bndE s e).1) := by
  induction e using Ex.ind with
  | h e ih =>
    intro h
    have B := bnd_of h
    have hs := szS_map (f := fun a => (bndE s a).1) e.args fun a ha => (ih a ha (B.ok a ha)).1
    have hd := dpS_map (f := fun a => (bndE s a).1) e.args fun a ha => (ih a ha (B.ok a ha)).2.1
    refine ⟨by rw [szE_eq, szE_eq e, B.args, hs], by rw [dpE_eq, dpE_eq e, B.args, hd], fun hr => ?_⟩
    have hr' := (rgX_iff e).1 hr
    refine (rgX_iff _).2 ⟨⟨by rw [B.vn]; exact hr'.1.1, by rw [B.vs]; exact hr'.1.2.1, by rw [B.args, qA]; exact hr'.1.2.2⟩, fun a ha => ?_⟩
    rw [B.args] at ha
    obtain ⟨b, hb, rfl⟩ := jE.1 ha
    exact (ih b hb (B.ok b hb)).2.2 (hr'.2 b hb)
theorem gdX.bnd {s : Sp} {e : Ex} (h : gdX e) (h0 : (bndE s e).2.2 = 0) : gdX (bndE s e).1 := by
  have hm := bnd_m e h0
  exact ⟨bnd_fm e h.fm h0, bnd_ts e h.ts h0, hm.2.2 h.rg, by rw [hm.1]; exact h.sz, by rw [hm.2.1]; exact h.dp⟩
abbrev bdP (sc : Sp) (e : Ex) : Prop := okSp sc → Pu 35 [spC sc, exC e] (bnX (bndE sc e))
abbrev cnX (r : Ex × Int) : X := .tup [exC r.1, iC r.2]
theorem cne {a b : Ex × Int} (h : a = b) : cnX a = cnX b := by rw [h]
theorem condition_any (sc : Sp) (e : Ex) (hs : okSp sc) (hg : ¬ e.op = 0 → bdP sc e) : Pu 67 [spC sc, exC e] (cnX (cndB sc e)) := by
 intro H
 refine Spec.enter Tryz.func67 rfl ?_
 refine AW.wk (wK 31 (l := [(0, .c (spC sc)), (1, .c (exC e))]) (ll := []) (H := (H))) ?_
 refine D4 ?_
 refine eL189 ?_
 refine cD ?_ ?_ <;> intro h11
 ·
  refine D1 ?_
  refine SeqK.xw 12 rfl XW.exN ?_
  refine G2 ?_
  exact aR (f2 (.cellL rfl rfl ty37 rfl rfl (.tmp rfl .nil)) (⟨cne (a := (ex0, 0)) (by rw [cndB, if_pos h11]), rfl⟩))
 refine eL201 ?_
 refine Z16 fn35 (hg h11 hs) ?_
 refine G8 ?_
 refine AW.seq (AW.block (D3 ?_))
 refine cD ?_ ?_ <;> intro h20
 ·
  refine D1 ?_
  refine SeqK.xw 23 rfl XW.exN ?_
  refine G3 ?_
  exact aR (f2 (.cellL rfl rfl ty37 rfl rfl (.tmp rfl .nil)) (⟨cne (a := (ex0, _)) (by rw [cndB, if_neg h11, if_pos h20]), rfl⟩))
 refine D1 ?_
 refine Z16 fn110 (fits_any _ _) ?_
 refine G2 ?_
 refine AW.cond _ rfl (fun h25 => ?_) (fun h25 => ?_)
 ·
  refine D1 ?_
  refine SeqK.xw 29 rfl XW.exN ?_
  refine G2 ?_
  exact aR (f2 (.cellL rfl rfl ty37 rfl rfl (.tmp rfl .nil)) (⟨cne (a := (ex0, 6)) (by rw [cndB, if_neg h11, if_neg h20, if_pos (by simpa using h25)]), rfl⟩))
 refine eL219 ?_
 exact aR (f2 (.cellL rfl rfl ty37 rfl rfl (.tmp rfl .nil)) (⟨cne (a := ((bndE sc e).1, 0)) (by rw [cndB, if_neg h11, if_neg h20, if_neg (by simpa using h25)]), rfl⟩))
open Q
theorem upd_ap2 {α : Type} {H : Nat → Option α} {a k k2 : Nat} {w y x : Option α} (h0 : H a = none) (h1 : k ≠ a) (h2 : k2 ≠ k) : ∀ j o, upd (upd H k2 x) k y j = some o → upd (upd (upd (upd H a w) k y) a none) k2 x j = some o := fun j o h => by
  by_cases e1 : j = k2
  · subst e1; rw [upd_ne _ _ h2, upd_same] at h; rw [upd_same]; exact h
  · rw [upd_ne _ _ e1]
    by_cases e2 : j = k
    · subst e2; rw [upd_same] at h; rw [upd_ne _ _ h1, upd_same]; exact h
    · rw [upd_ne _ _ e2, upd_ne _ _ e1] at h
      by_cases e3 : j = a
      · subst e3; rw [h0] at h; cases h
      · rw [upd_ne _ _ e3, upd_ne _ _ e2, upd_ne _ _ e3]; exact h
theorem upd_lt2 {α : Type} {H : Nat → Option α} {a k k2 : Nat} {w y : α} (h : upd (upd H a (some w)) k (some y) k2 = none) (h0 : H a = none) : k2 ≠ k ∧ H k2 = none := by
  obtain ⟨h1, h2⟩ := upd_lt h
  exact ⟨h1, (upd_lt h2).2⟩
theorem okSp0 : okSp sp0 := ⟨qZ _, qZ _, fun x hx => by simp at hx, fun x hx => by simp at hx⟩
theorem ex_put {es : List Ex} {zs : List (List E.T)} {e : Ex} (h : zs = es.map exT') : zs ++ [exL e] = (es ++ [e]).map exT' := by rw [h, qK, qX, exT_eq]
theorem mp_put {α : Type} {f : α → List E.T} {es : List α} {zs : List (List E.T)} {e : α} (h : zs = es.map f) : zs ++ [f e] = (es ++ [e]).map f := by rw [h, qK, qX]
open Q
theorem okAln {t : Tb} (h : t.cols.length ≤ 1000000) : okSp (alnS t) := by
  refine ⟨by show 1 ≤ _; decide, qZ _, fun x hx => ?_, fun x hx => ?_⟩
  · have hx : x ∈ [(⟨t.nm, t, 0⟩ : Sr)] := hx
    rw [jF.1 hx]; exact h
  · have hx : x ∈ [(⟨t.nm, t, 0⟩ : Sr)] := hx
    rw [jF.1 hx]; exact ⟨Int.le_refl _, by show (0 : Int) ≤ _; decide⟩
open Q
abbrev itX (r : List It × Int) : X := .tup [itsC .un r.1, iC r.2]
theorem ite' {a b : List It × Int} (h : a = b) : itX a = itX b := by rw [h]
section
variable {s : Sp} {l out : List It} {i : Nat} {R : List It × Int}
theorem it_e (hi : i < l.length) (hI : itsB s (l.drop i) out = R) (h : l[i].ag ≠ 1) (h3 : (bndE s l[i].ex).2.2 ≠ 0) : ([], (bndE s l[i].ex).2.2) = R := by
  rw [qH hi, itsB, if_neg h, if_pos h3] at hI; exact hI
theorem it_e6 (hi : i < l.length) (hI : itsB s (l.drop i) out = R) (h : l[i].ag ≠ 1) (h3 : ¬ (bndE s l[i].ex).2.2 ≠ 0) (h4 : (bndE s l[i].ex).2.1 = 3 ∨ (l[i].ag = 3 ∧ fitI (bndE s l[i].ex).2.1 1 = false)) : ([], 6) = R := by
  rw [qH hi, itsB, if_neg h, if_neg h3, if_pos h4] at hI; exact hI
theorem it_st (hi : i < l.length) (hI : itsB s (l.drop i) out = R) (h : l[i].ag ≠ 1) (h3 : ¬ (bndE s l[i].ex).2.2 ≠ 0) (h4 : ¬ ((bndE s l[i].ex).2.1 = 3 ∨ (l[i].ag = 3 ∧ fitI (bndE s l[i].ex).2.1 1 = false))) : itsB s (l.drop (i + 1)) (out ++ [⟨l[i].ag, (bndE s l[i].ex).1⟩]) = R := by
  rw [qH hi, itsB, if_neg h, if_neg h3, if_neg h4] at hI; exact hI
theorem it_st1 (hi : i < l.length) (hI : itsB s (l.drop i) out = R) (h : ¬ l[i].ag ≠ 1) : itsB s (l.drop (i + 1)) (out ++ [l[i]]) = R := by
  rw [qH hi, itsB, if_pos (by omega)] at hI; exact hI
theorem it_en (hI : itsB s (l.drop l.length) out = R) : (out, 0) = R := by rw [List.drop_length, itsB] at hI; exact hI
end
theorem items_any (sc : Sp) (l : List It) (z : Nz) (hs : okSp sc) (hl : l.length ≤ 1000000000) (hg : ∀ x ∈ l, x.ag ≠ 1 → bdP sc x.ex) : Pu 72 [spC sc, itsC z l] (itX (itsB sc l [])) := by
 intro H
 refine Spec.enter Tryz.func72 rfl ?_
 refine AW.wk (wK 52 (l := [(0, .c (spC sc)), (1, .c (itsC z l))]) (ll := []) (H := (H))) ?_
 refine D3 ?_
 refine eL176 ?_
 refine AW.tip 6 58 9 rfl (fun k0 hk0 => ?_)
 refine AW.loop (fun (i : Nat) s => ∃ (kt : Nat) (zs : List (List E.T)) (out : List It), (i ≤ l.length ∧ H kt = none ∧ zs = out.map itT ∧ zs.length = i ∧ itsB sc (l.drop i) out = itsB sc l []) ∧ s = ⟨52, sp [(2, .lp 2 0), (4, .c (.a nA)), (5, .c (iC 0)), (6, .c (.a (.ts kt .ne 9 zs))), (12, .c (itsC z l)), (13, iX .i64 (((l.map itT).length : Nat) : Int)), (14, nX i)], lv [(2, .box (zSp sc))], upd H kt (some (.tip 58 9 zs.length))⟩) (fun i => l.length - i) 0 ⟨_, by exact wK 52, k0, [], [], ⟨qZ _, hk0, rfl, rfl, rfl⟩, rfl⟩ (fun i s hs => ?_)
 obtain ⟨kt, zs, out, ⟨hi0, hkt, hzs, hzl0, hI⟩, rfl⟩ := hs
 refine eL175 ?_
 refine cD ?_ ?_ <;> intro h15
 rotate_left
 ·
  refine eL147 ?_
  refine eL235 ?_
  obtain rfl := oE h15 hi0
  have hE := it_en hI
  refine AW.xw 6 rfl (XW.ts.trans (XW.es hzs)) ?_
  refine B3 ?_
  exact aR (fin_x (x := .tup [_, _]) (H) (.tmp rfl (.tmp rfl .nil)) rfl ((fun j o h => upd_sub hkt j o h)) (⟨ite' (a := (out, 0)) hE, rfl⟩))
 have hi := oI h15
 have hzl : zs.length = i := hzl0
 refine AW.skip (AW.seq (AW.block (sR (Z10 sl32 (idx_map (f := itT) hi) ?_))))
 refine G3 ?_
 refine Z3 (AW.seq (sR (Z1 fl58_0 ?_)))
 refine eL165 ?_
 refine cD ?_ ?_ <;> intro h20
 rotate_left
 ·
  refine eL173 ?_
  refine SeqK.app1 rfl (hkt) rfl el32 rfl rfl (by simp [hzl]; omega) rfl rfl (fun k49 hk49 => ?_)
  refine sB ?_
  refine eL211 ?_
  exact ⟨i + 1, _, by exact wK 52, by omega, k49, zs ++ [itT l[i]], out ++ [l[i]], ⟨hi, hk49, mp_put hzs, by simp [hzl], it_st1 hi hI h20⟩, rfl⟩
 refine D3 ?_
 refine Z16 fn35 (hg _ (qC hi) h20 hs) ?_
 refine G8 ?_
 refine eL153 ?_
 refine cD ?_ ?_ <;> intro h30
 ·
  refine D3 ?_
  refine AW.xw 4 rfl (XW.nilU (sz := 9)) ?_
  exact aR (fin_x (x := .tup [_, _]) (H) (.tmp rfl (.tmp rfl .nil)) rfl ((fun j o h => upd_sub hkt j o h)) (⟨ite' (a := ([], _)) (it_e hi hI h20 h30), rfl⟩))
 refine eL198 ?_
 refine Z22 ?_ ?_ <;> intro g34
 ·
  iterate 4 refine oF ?_
  iterate 3 refine oU ?_
  refine eL157 ?_
  exact cL79
 refine G3 ?_
 refine Z44 ?_ ?_ <;> intro g38
 ·
  refine Z14 ?_
  refine Z43 fn110 (fits_any _ _) ?_
  refine eL191 ?_
  refine AW.cond _ rfl (fun h43 => ?_) (fun h43 => ?_)
  ·
   exact cL79
  refine eL173 ?_
  refine Z3 (AW.reg (sM ?_))
  refine G2 ?_
  refine SeqK.app1 rfl (hkt) rfl el32 rfl rfl (by simp [hzl]; omega) rfl rfl (fun k49 hk49 => ?_)
  refine sB ?_
  refine eL211 ?_
  exact ⟨i + 1, _, by exact wK 52, by omega, k49, zs ++ [itT (⟨l[i].ag, (bndE sc l[i].ex).1⟩ : It)], out ++ [(⟨l[i].ag, (bndE sc l[i].ex).1⟩ : It)], ⟨hi, hk49, mp_put hzs, by simp [hzl], it_st hi hI h20 h30 (by rintro (k | ⟨_, k⟩); exact g34 k; rw [bnf h43] at k; cases k)⟩, rfl⟩
 iterate 3 refine oF ?_
 refine eL164 ?_
 refine eL173 ?_
 refine Z3 (AW.reg (sM ?_))
 refine G2 ?_
 refine SeqK.app1 rfl (hkt) rfl el32 rfl rfl (by simp [hzl]; omega) rfl rfl (fun k49 hk49 => ?_)
 refine sB ?_
 refine eL211 ?_
 exact ⟨i + 1, _, by exact wK 52, by omega, k49, zs ++ [itT (⟨l[i].ag, (bndE sc l[i].ex).1⟩ : It)], out ++ [(⟨l[i].ag, (bndE sc l[i].ex).1⟩ : It)], ⟨hi, hk49, mp_put hzs, by simp [hzl], it_st hi hI h20 h30 (by rintro (k | ⟨k, _⟩); exact g34 k; exact g38 k)⟩, rfl⟩
open Q
theorem plain_any (x : It) : Pu 116 [itC x] (.c (bC (decide (x.ag = 0)))) := by
 intro H
 refine Spec.enter Tryz.func116 rfl ?_
 refine AW.wk (wK 6 (l := [(0, .c (itC x))]) (ll := []) (H := (H))) ?_
 refine D2 ?_
 refine D4 ?_
 exact cL47
theorem notPlain_any (H : Heap) (k1 : Nat) (hp : H k1 = some (.box [.t (.v (.func (Fn.func 116) #[] #[]))])) (x : It) : E.Spec Tryz.prog 118 [itC x, .a (.bp k1 0)] H fun x' H' => x' = .c (bC (!decide (x.ag = 0))) ∧ H' = H := by
 refine Spec.enter Tryz.func118 rfl ?_
 refine AW.wk (wK 8 (l := [(0, .c (itC x)), (1, .c (.a (.bp k1 0)))]) (ll := []) (H := (H))) ?_
 refine eL225 ?_
 refine SeqK.xw 4 rfl XW.fn0 ?_
 refine G1 ?_
 refine SeqK.r (g_callV (f := 116) (cs := []) rfl rfl fn116 rfl (plain_any x _) rfl rfl rfl) rfl ?_
 refine G2 ?_
 exact cL47
abbrev zIt (x : It) : List A := [.t (.v (.int .i64 x.ag)), .t (.v (.int .i64 x.ex.op)), .t (.v (.string x.ex.tb)), .t (.v (.string x.ex.nm)), .t (.v (.int .i64 x.ex.ix)), .t (.v (.int .i64 x.ex.vk)), .t (.v (.int .i64 x.ex.vn)), .t (.v (.string x.ex.vs)), .t (.sl .un 8 (x.ex.args.map exT'))]
theorem sameIx_any (H : Heap) (k1 : Nat) (x : It) (hp : H k1 = some (.box (zIt x))) (e : Ex) : E.Spec Tryz.prog 121 [exC e, .a (.bp k1 0)] H fun x' H' => x' = .c (bC (decide (e.ix = x.ex.ix))) ∧ H' = H := by
 refine Spec.enter Tryz.func121 rfl ?_
 refine AW.wk (wK 10 (l := [(0, .c (exC e)), (1, .c (.a (.bp k1 0)))]) (ll := []) (H := (H))) ?_
 refine D2 ?_
 refine D2 ?_
 refine sQ (q_fieldH _ rfl fl58_1 rfl rfl) ?_
 refine sQ (q_fieldH _ rfl fl37_3 rfl rfl) ?_
 refine G3 ?_
 exact cL47
abbrev zSt (x : St) : List A := [.t (.v (.int .i64 x.k)), .t (.v (.string x.tb)), .t (.sl .un 6 (x.cr.cols.map coT)), .t (.sl .un 1 (x.cr.keys.map sLT)), .t (.sl .un 3 (x.cr.fks.map rfT)), .t (.sl .un 8 (x.cr.chks.map exT')), .t (.sl .un 1 (x.vals.map exLT)), .t (.sl .un 10 (x.sets.map asT)), .t (.sl .un 9 (x.its.map itT)), .t (.sl .un 2 (x.frm.map frT)), .t (.v (.int .i64 x.wh.op)), .t (.v (.string x.wh.tb)), .t (.v (.string x.wh.nm)), .t (.v (.int .i64 x.wh.ix)), .t (.v (.int .i64 x.wh.vk)), .t (.v (.int .i64 x.wh.vn)), .t (.v (.string x.wh.vs)), .t (.sl .un 8 (x.wh.args.map exT')), .t (.sl .un 8 (x.grp.map exT')), .t (.sl .un 2 (x.ord.map odT)), .t (.v (.int .i64 x.lim)), .t (.v (.string x.nm))]
theorem wrong_any (H : Heap) (k1 k2 : Nat) (st : St) (hp : H k1 = some (.box [.t (.v (.func (Fn.func 116) #[] #[]))])) (hp2 : H k2 = some (.box (zSt st))) (hgl : st.grp.length ≤ 1000000000) (x : It) : E.Spec Tryz.prog 119 [itC x, .a (.bp k1 0), .a (.bp k2 0)] H fun x' H' => x' = .c (bC (decide (x.ag = 0) && (!icB x.ex || !(st.grp.any fun e => decide (e.ix = x.ex.ix))))) ∧ H' = H := by
 refine Spec.enter Tryz.func119 rfl ?_
 refine AW.wk (wK 21 (l := [(0, .c (itC x)), (1, .c (.a (.bp k1 0))), (2, .c (.a (.bp k2 0)))]) (ll := []) (H := (H))) ?_
 refine sR (SeqK.newBox (r := [_, _, _, _, _, _, _, _, _]) rfl rfl rfl rfl rfl rfl (fun k3 hk3 => ?_))
 refine sB ?_
 refine sR (SeqK.r (g_load (r := .a _) rfl ty179 rfl (upd_sub hk3 _ _ hp) rfl rfl rfl rfl) rfl ?_)
 refine SeqK.xw 5 rfl XW.fn0 ?_
 refine SeqK.r (g_load (r := .g [_, _, _, _, _, _, _, _, _]) rfl ty58 rfl (by (repeat rw [upd_ne _ _ (by first | assumption | exact Ne.symm (by assumption))]); first | assumption | exact upd_same _ _ _) rfl rfl rfl rfl) rfl ?_
 refine SeqK.r (g_callV (f := 116) (cs := []) rfl rfl fn116 rfl (plain_any x _) rfl rfl rfl) rfl ?_
 refine Z49 ?_ ?_ <;> intro g8
 ·
  refine sO (q_fieldH _ rfl fl58_1 rfl rfl) ?_
  refine SeqK.rOn (g_load (r := .g [_, _, _, _, _, _, _, _]) rfl ty37 rfl (by (repeat rw [upd_ne _ _ (by first | assumption | exact Ne.symm (by assumption))]); first | assumption | exact upd_same _ _ _) rfl rfl rfl rfl) rfl rfl rfl ?_
  refine Z43 fn60 (isColumn_any _) ?_
  refine Z36 ?_
  refine SeqK.onB (q_mvC rfl rfl) rfl rfl rfl rfl rfl (fun g13 => ?_) (fun g13 => ?_)
  ·
   iterate 5 refine oF ?_
   refine G3 ?_
   exact cL65
  refine sO (q_fieldH _ rfl fl40_8 rfl rfl) ?_
  refine SeqK.rOn (g_load (r := .a _) rfl ty27 rfl (upd_sub hk3 _ _ hp2) rfl rfl rfl rfl) rfl rfl rfl ?_
  refine sO (q_mkFn rfl rfl rfl) ?_
  refine SeqK.rOn (g_call rfl fn120 rfl (anyF_ex _ 121 [.bp k3 0] (fun e => decide (e.ix = x.ex.ix)) st.grp .un fn121 (by omega) (fun e he H1 h1 => sameIx_any H1 k3 x (h1 _ _ (upd_same _ _ _)) e)) rfl rfl rfl) rfl rfl rfl ?_
  refine G4 ?_
  exact cL65
 iterate 5 refine oF ?_
 iterate 5 refine oU ?_
 refine G3 ?_
 exact cL65
theorem grd_t {its : List It} {grp : List Ex} (h : grp.length = 0) (h2 : (its.any fun x => !decide (x.ag = 0)) = false) : true = grdB its grp := by rw [grdB, if_pos ⟨h, h2⟩]
theorem grd_f {its : List It} {grp : List Ex} (h : ¬ (grp.length = 0 ∧ (its.any fun x => !decide (x.ag = 0)) = false)) : (decide (0 < its.length) && !(its.any fun x => decide (x.ag = 0) && (!icB x.ex || !(grp.any fun e => decide (e.ix = x.ex.ix))))) = grdB its grp := by rw [grdB, if_neg h]
theorem upd_s2 {α : Type} {H : Nat → Option α} {a k : Nat} {w : α} {y : Option α} {y2 : Option α} (h0 : H a = none) (hk : upd H a (some w) k = none) : ∀ j o, H j = some o → upd (upd (upd H a (some w)) k y) k y2 j = some o := fun j o h => by
  obtain ⟨h1, h2⟩ := upd_lt hk
  have e2 : j ≠ a := fun e => by subst e; rw [h0] at h; cases h
  have e3 : j ≠ k := fun e => by subst e; rw [h2] at h; cases h
  rw [upd_ne _ _ e3, upd_ne _ _ e3, upd_ne _ _ e2]; exact h
theorem grouped_any (st : St) (hgl : st.grp.length ≤ 1000000000) (hil : st.its.length ≤ 1000000000) : Pu 73 [stC st] (.c (bC (grdB st.its st.grp))) := by
 intro H
 refine Spec.enter Tryz.func73 rfl ?_
 refine AW.wk (wK 28 (l := [(0, .c (stC st))]) (ll := []) (H := (H))) ?_
 refine sR (SeqK.newBox (r := [_, _, _, _, _, _, _, _, _, _, _, _, _, _, _, _, _, _, _, _, _, _]) rfl rfl rfl rfl rfl rfl (fun k1 hk1 => ?_))
 refine sB ?_
 refine sR (SeqK.newAlloc (r := [_]) rfl rfl rfl ze179 rfl rfl rfl (fun k3 hk3 => ?_))
 refine SeqK.r (g_store rfl rfl ty179 rfl rfl (by (repeat rw [upd_ne _ _ (by first | assumption | exact Ne.symm (by assumption))]); first | assumption | exact upd_same _ _ _) rfl rfl rfl) rfl ?_
 refine Z3 (AW.seq (AW.seq ?_))
 obtain ⟨hk3n, hk3x⟩ := upd_lt hk3
 refine AW.reg (sQ (q_fieldH _ rfl fl40_8 rfl rfl) ?_)
 refine G3 ?_
 refine Z22 ?_ ?_ <;> intro g9
 ·
  refine sO (q_fieldH _ rfl fl40_5 rfl rfl) ?_
  refine SeqK.rOn (g_load (r := .a _) rfl ty32 rfl (by (repeat rw [upd_ne _ _ (by first | assumption | exact Ne.symm (by assumption))]); first | assumption | exact upd_same _ _ _) rfl rfl rfl rfl) rfl rfl rfl ?_
  refine sO (q_mkFn rfl rfl rfl) ?_
  refine SeqK.rOn (g_call rfl fn117 rfl (anyF_tm _ 118 [.bp k3 0] (fun x => !decide (x.ag = 0)) st.its .un fn118 (by omega) (fun x hx H1 h1 => notPlain_any H1 k3 (h1 _ _ (upd_same _ _ _)) x)) rfl rfl rfl) rfl rfl rfl ?_
  refine eL165 ?_
  refine AW.cond _ rfl (fun h15 => ?_) (fun h15 => ?_)
  ·
   refine D1 ?_
   exact aR (fin_x (x := .c _) (H) (.tmp rfl .nil) rfl ((fun j o h => upd_s2 hk1 hk3 j o h)) (⟨bCe (grd_t (by (try simp only [qA] at g9); omega) (bnt h15)), rfl⟩))
  refine eL282 ?_
  refine Z22 ?_ ?_ <;> intro g21
  ·
   exact cL19
  iterate 5 refine oF ?_
  refine G2 ?_
  exact aR (fin_x (x := .c _) (H) (.tmp rfl .nil) rfl ((fun j o h => upd_s2 hk1 hk3 j o h)) (⟨bCe (by rw [← grd_f (by first | (rintro ⟨k, _⟩; (try simp only [qA] at g9); omega) | (rintro ⟨_, k⟩; rw [k] at h15; cases h15))]; first | (rw [jI (by (try simp only [qA] at g21); omega)]; rfl) | (rw [jJ (by (try simp only [qA] at g21); omega)]; rfl)), rfl⟩))
 iterate 5 refine oF ?_
 refine eL172 ?_
 refine eL282 ?_
 refine Z22 ?_ ?_ <;> intro g21
 ·
  exact cL19
 iterate 5 refine oF ?_
 refine G2 ?_
 exact aR (fin_x (x := .c _) (H) (.tmp rfl .nil) rfl ((fun j o h => upd_s2 hk1 hk3 j o h)) (⟨bCe (by rw [← grd_f (by first | (rintro ⟨k, _⟩; (try simp only [qA] at g9); omega) | (rintro ⟨_, k⟩; rw [k] at h15; cases h15))]; first | (rw [jI (by (try simp only [qA] at g21); omega)]; rfl) | (rw [jJ (by (try simp only [qA] at g21); omega)]; rfl)), rfl⟩))
open Q
theorem map_nil' {α β : Type} {f : α → β} {l : List α} (h : l.map f = []) : l = [] := List.map_eq_nil_iff.1 h
theorem cloneFr_any (l : List Fr) (z : Nz) (hl : l.length ≤ 1000000000) : Pu 70 [frsC z l] (.c (frsC .un l)) := by
 intro H
 refine Spec.enter Tryz.func70 rfl ?_
 refine AW.wk (wK 8 (l := [(0, .c (frsC z l))]) (ll := []) (H := (H))) ?_
 refine D1 ?_
 refine eL161 ?_
 refine SeqK.eqlNZ rfl rfl rfl rfl rfl rfl nk33 (fun b hb1 hb2 => ?_)
 refine Z3 ?_
 refine AW.cond _ rfl (fun h4 => ?_) (fun h4 => ?_)
 ·
  exact cL122
 refine AW.skip (sR (sQ (q_build0 rfl el33) ?_))
 refine sM ?_
 refine sQ (q_app0 rfl el33 rfl rfl (by simp; omega)) ?_
 refine SeqK.xw 7 rfl .un ?_
 refine sB ?_
 exact cL47
theorem cloneOd_any (l : List Od) (z : Nz) (hl : l.length ≤ 1000000000) : Pu 71 [odsC z l] (.c (odsC .un l)) := by
 intro H
 refine Spec.enter Tryz.func71 rfl ?_
 refine AW.wk (wK 8 (l := [(0, .c (odsC z l))]) (ll := []) (H := (H))) ?_
 refine D1 ?_
 refine eL161 ?_
 refine SeqK.eqlNZ rfl rfl rfl rfl rfl rfl nk38 (fun b hb1 hb2 => ?_)
 refine Z3 ?_
 refine AW.cond _ rfl (fun h4 => ?_) (fun h4 => ?_)
 ·
  exact cL122
 refine AW.skip (sR (sQ (q_build0 rfl el38) ?_))
 refine sM ?_
 refine sQ (q_app0 rfl el38 rfl rfl (by simp; omega)) ?_
 refine SeqK.xw 7 rfl .un ?_
 refine sB ?_
 exact cL47
theorem check_any (t : Tb) (e : Ex) (hcl : t.cols.length ≤ 1000000) (hg : bdP (alnS t) e) : Pu 18 [tbC t, exC e] (bnX (bndE (alnS t) e)) := by
 intro H
 refine Spec.enter Tryz.func18 rfl ?_
 refine AW.wk (wK 14 (l := [(0, .c (tbC t)), (1, .c (exC e))]) (ll := []) (H := (H))) ?_
 refine D5 ?_
 refine eL251 ?_
 refine N1 ?_
 refine Z40 fn38 (alone_any t) ?_
 refine N1 ?_
 refine Z40 fn35 (hg (okAln hcl)) ?_
 refine N6 ?_
 refine Z38 ?_
 exact aR (fin_x (x := .tup [_, _, _]) (H) (.cellL rfl rfl ty37 rfl rfl (.tmp rfl (.tmp rfl .nil))) rfl (fun _ _ h => h) (⟨rfl, rfl⟩))
theorem srEq_any (H : Heap) (k1 : Nat) (x : Sr) (hp : H k1 = some (.box [.t (.v (.string x.nm)), .t (.v (.string x.t.nm)), .t (.sl .un 6 (x.t.cols.map coT)), .t (.sl .un 1 (x.t.keys.map iLT)), .t (.sl .un 3 (x.t.fks.map fkT)), .t (.sl .un 8 (x.t.chks.map exT')), .t (.v (.int .i64 x.f0))])) (y : Sr) : E.Spec Tryz.prog 69 [srC y, .a (.bp k1 0)] H fun x' H' => x' = .c (bC (decide (y.nm = x.nm))) ∧ H' = H := by
 refine Spec.enter Tryz.func69 rfl ?_
 refine AW.wk (wK 9 (l := [(0, .c (srC y)), (1, .c (.a (.bp k1 0)))]) (ll := []) (H := (H))) ?_
 refine D2 ?_
 refine D2 ?_
 refine sQ (q_fieldH _ rfl fl143_0 rfl rfl) ?_
 refine G1 ?_
 refine eL200 ?_
 refine sB ?_
 exact cL47
theorem odGt_any (H : Heap) (k1 : Nat) (n : Int) (hp : H k1 = some (.box [.t (.v (.int .i64 n))])) (o : Od) : E.Spec Tryz.prog 75 [odC o, .a (.bp k1 0)] H fun x' H' => x' = .c (bC (decide (n < o.it))) ∧ H' = H := by
 refine Spec.enter Tryz.func75 rfl ?_
 refine AW.wk (wK 8 (l := [(0, .c (odC o)), (1, .c (.a (.bp k1 0)))]) (ll := []) (H := (H))) ?_
 refine D2 ?_
 refine D5 ?_
 exact cL47
open Q
structure okTb (t : Tb) : Prop where
  cl : t.cols.length ≤ 1000000
  ty : ∀ c ∈ t.cols, c.ty = 1 ∨ c.ty = 2
structure okDb (d : List Tb) : Prop where
  len : d.length ≤ 1000000
  tb : ∀ t ∈ d, okTb t
structure okCh (st : St) : Prop where
  vl : st.vals.length ≤ 1000000
  vg : ∀ u ∈ st.vals, ∀ e ∈ u, gdX e
  sl : st.sets.length ≤ 1000000
  sg : ∀ a ∈ st.sets, gdX a.ex
  wg : ¬ st.wh.op = 0 → gdX st.wh
theorem fndI_lt {d : List Tb} {nm : ByteArray} : fndI d nm < d.length := by
  have := ixF_le (p := fun t : Tb => decide (t.nm = nm)) d 0
  simpa using this
abbrev bdX (b : Bd) (e : Int) : X := .tup [bdC b, iC e]
theorem bdXe {b b' : Bd} {e e' : Int} (h : b = b') (h2 : e = e') : bdX b e = bdX b' e' := by rw [h, h2]
end Go.Proofs.YtgnnjebfoffphaaGreatDoor.W
