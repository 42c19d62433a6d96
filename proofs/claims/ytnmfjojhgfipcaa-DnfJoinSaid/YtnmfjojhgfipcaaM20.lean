/- Parts of the proof, one after the other: W53, W54, W55, R3. No condition. -/
import Derived.Test.YtnmfjojhgfipcaaM19
namespace Go.Proofs.Ytnmfjojhgfipcaa.W
open Go.RowKit E
set_option linter.unusedVariables false
set_option linter.unusedSimpArgs false
set_option linter.unusedSectionVars false
/-! the conjunction is valid, and holds exactly if both hold -/
section
variable {n k : Nat} {bs0 bs bs' : List Nat}
theorem bnd_lo' {v : Int} (h1 : v < n + bs.length) : bnd n (bs ++ bs') v = bnd n bs v := by
  unfold bnd
  by_cases hv : (n : Int) ≤ v
  · rw [if_pos hv, if_pos hv, List.getD_eq_getElem?_getD, List.getD_eq_getElem?_getD, List.getElem?_append_left (by omega)]
  · rw [if_neg hv, if_neg hv]
theorem bnd_sh (hk : bs0.length = k) {v : Int} : bnd n (bs0 ++ bs) (sh n k v) = bnd n bs v := by
  unfold bnd sh
  by_cases hv : (n : Int) ≤ v
  · rw [if_pos hv, if_pos (by omega), if_pos hv, List.getD_eq_getElem?_getD, List.getD_eq_getElem?_getD, List.getElem?_append_right (by omega), show (v + (k : Int)).toNat - n - bs0.length = v.toNat - n by omega]
  · rw [if_neg hv, if_neg hv, if_neg hv]
theorem csum_map {gv : Int → Int} : ∀ {cs : List Cf}, (∀ c ∈ cs, bnd n bs' (gv c.v) = bnd n bs c.v) → csum n bs' (cs.map (rnK gv)) = csum n bs cs
  | [], _ => rfl
  | c :: cs, h => by
    rw [List.map_cons, csum, csum, csum_map fun c hc => h c (by simp [hc])]
    show c.n.natAbs * bnd n bs' (gv c.v) + _ = _
    rw [h c (by simp)]
theorem csum_ext {cs : List Cf} (h : ∀ c ∈ cs, c.v < n + bs.length) : csum n (bs ++ bs') cs = csum n bs cs := by
  have := csum_map (gv := fun v => v) (n := n) (bs := bs) (bs' := bs ++ bs') (cs := cs) fun c hc => bnd_lo' (h c hc)
  rw [show cs.map (rnK fun v => v) = cs from List.map_id _] at this
  exact this
theorem sh_mono {v w : Int} (h : v < w) : sh n k v < sh n k w := by
  unfold sh; split <;> split <;> omega
theorem sh_lo {v : Int} (h : v < n) : sh n k v = v := if_neg (by omega)
theorem rnF_sh {f : Lf} (h : sI (f.cs.map (·.v))) : rnF (sh n k) f = ⟨f.c, f.cs.map (rnK (sh n k))⟩ := by
  show (⟨f.c, cofs (f.cs.map (rnK (sh n k)))⟩ : Lf) = _
  rw [cofs_sorted]
  rw [List.map_map]
  exact List.pairwise_map.2 ((List.pairwise_map.1 h).imp fun {a b} h => sh_mono h)
theorem formP_ext {f : Lf} {nn nn' : List Int} {l : List Vr} (hn : ∀ v ∈ nn, v ∈ nn') (h : formP f nn l bs) : formP f nn' l (bs ++ bs') := by
  have hm := cs_nn h
  obtain ⟨h1, h2, h3⟩ := h
  refine ⟨h1, fun j hj => ?_, ?_⟩
  · obtain ⟨a, b, c, d, e⟩ := h2 j hj
    exact ⟨⟨a.1, by rw [List.length_append]; have := a.2; omega⟩, b, c, d, fun hv => ⟨(e hv).1, hn _ (e hv).2⟩⟩
  · unfold fsum at h3 ⊢
    rw [csum_ext fun c hc => (hm c hc).2]; exact h3
theorem formP_sh {f : Lf} {nn nn' : List Int} {l : List Vr} (hn : ∀ v ∈ nn, v < l.length → v ∈ nn') (hk : bs0.length = k) (h : formP f nn l bs) : formP (rnF (sh l.length k) f) nn' l (bs0 ++ bs) := by
  have hm := cs_nn h
  rw [rnF_sh (cs_sI h)]
  obtain ⟨h1, h2, h3⟩ := h
  refine ⟨h1, fun j hj => ?_, ?_⟩
  · have hj' : j < f.cs.length := by simpa using hj
    obtain ⟨a, b, c, d, e⟩ := h2 j hj'
    have ev : ∀ i (hi : i < f.cs.length) (hi2 : i < (f.cs.map (rnK (sh l.length k))).length), (f.cs.map (rnK (sh l.length k)))[i] = rnK (sh l.length k) f.cs[i] := fun i hi hi2 => List.getElem_map _
    have hv0 : ∀ v : Int, 0 ≤ v → v < l.length + bs.length → 0 ≤ sh l.length k v ∧ sh l.length k v < l.length + (bs0 ++ bs).length := fun v g1 g2 => by
      rw [List.length_append]; unfold sh; split <;> omega
    refine ⟨?_, fun h0 => ?_, ?_, ?_, fun hv => ?_⟩
    · show 0 ≤ (f.cs.map (rnK (sh l.length k)))[j].v ∧ (f.cs.map (rnK (sh l.length k)))[j].v < _
      rw [ev j hj']; exact hv0 _ a.1 a.2
    · show (f.cs.map (rnK (sh l.length k)))[j - 1].v < (f.cs.map (rnK (sh l.length k)))[j].v
      rw [ev j hj', ev (j - 1) (by omega)]
      exact sh_mono (b h0)
    · show (f.cs.map (rnK (sh l.length k)))[j].n ≠ 0
      rw [ev j hj']; exact c
    · show _ ≤ (f.cs.map (rnK (sh l.length k)))[j].n ∧ (f.cs.map (rnK (sh l.length k)))[j].n ≤ _
      rw [ev j hj']; exact d
    · have hv : (f.cs.map (rnK (sh l.length k)))[j].v < l.length := hv
      show vty l (f.cs.map (rnK (sh l.length k)))[j].v = 1 ∧ (f.cs.map (rnK (sh l.length k)))[j].v ∈ nn'
      rw [ev j hj'] at hv ⊢
      have hv : sh l.length k f.cs[j].v < l.length := hv
      have hlt : f.cs[j].v < l.length := by unfold sh at hv; split at hv <;> omega
      show vty l (sh l.length k f.cs[j].v) = 1 ∧ sh l.length k f.cs[j].v ∈ nn'
      rw [sh_lo hlt]
      exact ⟨(e hlt).1, hn _ (e hlt).2 hlt⟩
  · unfold fsum at h3 ⊢
    show f.c.natAbs + csum l.length (bs0 ++ bs) (f.cs.map (rnK (sh l.length k))) ≤ _
    rw [csum_map fun c hc => bnd_sh hk]; exact h3
theorem bsF_one (n : Nat) (l : List Ax) (a : Ax) : bsF n (l ++ [a]) = bsF n l ++ [nb n (bsF n l) a] := by
  rw [bsF, List.foldl_append]; rfl
theorem bs_join {A B : List Ax} {l : List Vr} {c : Cl} (hB : ∀ j (h : j < B.length), axQ c l (bsF l.length (B.take j)) B[j]) : ∀ j, j ≤ B.length → bsF l.length (A ++ (B.take j).map (rnA (sh l.length A.length))) = bsF l.length A ++ bsF l.length (B.take j)
  | 0, _ => by simp [bsF]
  | j + 1, h => by
    have ih := bs_join (A := A) hB j (by omega)
    rw [take_put (by omega : j < B.length), List.map_append, List.map_singleton, ← List.append_assoc, bsF_one, ih, bsF_one, List.append_assoc]
    congr 2
    have hk : (bsF l.length A).length = A.length := bsF_len _ _
    show [nb _ _ (⟨rnF _ B[j].f, B[j].b, _⟩ : Ax)] = [nb _ _ B[j]]
    unfold nb
    show [if B[j].b = 0 then 16 else fsum _ _ (rnF (sh l.length A.length) B[j].f) / B[j].b.toNat + 1] = _
    by_cases hb : B[j].b = 0
    · rw [if_pos hb, if_pos hb]
    · rw [if_neg hb, if_neg hb]
      rcases hB j (by omega) with ⟨g, _⟩ | ⟨_, g, _⟩
      · exact absurd g hb
      · rw [rnF_sh (cs_sI g)]
        unfold fsum
        show [(B[j].f.c.natAbs + csum l.length (bsF l.length A ++ bsF l.length (B.take j)) (B[j].f.cs.map (rnK (sh l.length A.length)))) / B[j].b.toNat + 1] = _
        rw [csum_map fun c hc => bnd_sh hk]
end
theorem vld_join {a b : Cl} {l : List Vr} (va : vldP a l) (vb : vldP b l) : vldP (jn a (rnCl (sh l.length a.ax.length) b)) l := by
  obtain ⟨a1, a2, a3, a4, a5, a6, a7⟩ := va
  obtain ⟨b1, b2, b3, b4, b5, b6, b7⟩ := vb
  have hsn : ∀ v ∈ a.nn, v ∈ dd (a.nn ++ dd (b.nn.map (sh l.length a.ax.length))) := fun v h => ((dd_spec _).2 v).2 (List.mem_append.2 (.inl h))
  have hbn : ∀ v ∈ b.nn, v < l.length → v ∈ dd (a.nn ++ dd (b.nn.map (sh l.length a.ax.length))) := fun v h hl => ((dd_spec _).2 v).2 (List.mem_append.2 (.inr (((dd_spec _).2 v).2 (List.mem_map.2 ⟨v, h, sh_lo hl⟩))))
  have asc : ∀ x y : List Int, ascP x (l.length : Int) → ascP y (l.length : Int) → ascP (dd (x ++ dd (y.map (sh l.length a.ax.length)))) (l.length : Int) := fun x y hx hy => by
    refine asc_of (dd_spec _).1 fun v hv => ?_
    rcases List.mem_append.1 (((dd_spec _).2 v).1 hv) with h | h
    · obtain ⟨j, hj, rfl⟩ := List.mem_iff_getElem.1 h
      exact ⟨(hx j hj).1, (hx j hj).2.1⟩
    · obtain ⟨u, hu, rfl⟩ := List.mem_map.1 (((dd_spec _).2 v).1 h)
      obtain ⟨j, hj, rfl⟩ := List.mem_iff_getElem.1 hu
      rw [sh_lo (hy j hj).2.1]
      exact ⟨(hy j hj).1, (hy j hj).2.1⟩
  have txa : ∀ v, txtP v a.nn l → txtP v (dd (a.nn ++ dd (b.nn.map (sh l.length a.ax.length)))) l := fun v h => ⟨h.1, h.2.1, hsn v h.2.2⟩
  have txb : ∀ v, txtP v b.nn l → txtP (sh l.length a.ax.length v) (dd (a.nn ++ dd (b.nn.map (sh l.length a.ax.length)))) l := fun v h => by
    rw [sh_lo h.1.2]
    exact ⟨h.1, h.2.1, hbn v h.2.2 h.1.2⟩
  have hbB := bs_join (A := a.ax) b3
  have hbT : bsF l.length (a.ax ++ b.ax.map (rnA (sh l.length a.ax.length))) = bsF l.length a.ax ++ bsF l.length b.ax := by
    have := hbB b.ax.length (Nat.le_refl _)
    rw [List.take_length] at this; exact this
  have hk : (bsF l.length a.ax).length = a.ax.length := bsF_len _ _
  refine ⟨asc _ _ a1 b1, asc _ _ a2 b2, fun j hj => ?_, ?_, ?_, ?_, ?_⟩
  · have hj0 : j < a.ax.length + b.ax.length := by simpa using hj
    by_cases h : j < a.ax.length
    · have e1 : (a.ax ++ b.ax.map (rnA (sh l.length a.ax.length)))[j]'(by simpa using hj0) = a.ax[j] := List.getElem_append_left h
      have e2 : (a.ax ++ b.ax.map (rnA (sh l.length a.ax.length))).take j = a.ax.take j := List.take_append_of_le_length (by omega)
      show axQ _ l (bsF l.length ((a.ax ++ b.ax.map (rnA (sh l.length a.ax.length))).take j)) ((a.ax ++ b.ax.map (rnA (sh l.length a.ax.length)))[j]'(by simpa using hj0))
      rw [e1, e2]
      rcases a3 j h with ⟨g1, g2, g3, g4⟩ | ⟨g1, g2, g3, g4⟩
      · exact .inl ⟨g1, g2, g3, txa _ g4⟩
      · refine .inr ⟨g1, ?_, g3, g4⟩
        have := formP_ext (bs' := []) hsn g2
        rw [List.append_nil] at this; exact this
    · obtain ⟨i, rfl⟩ : ∃ i, j = a.ax.length + i := ⟨j - a.ax.length, by omega⟩
      have hi : i < b.ax.length := by omega
      have e1 : (a.ax ++ b.ax.map (rnA (sh l.length a.ax.length)))[a.ax.length + i]'(by simpa using hj0) = rnA (sh l.length a.ax.length) b.ax[i] := by
        rw [List.getElem_append_right (by omega), List.getElem_map]
        simp only [Nat.add_sub_cancel_left]
      have e2 : (a.ax ++ b.ax.map (rnA (sh l.length a.ax.length))).take (a.ax.length + i) = a.ax ++ (b.ax.take i).map (rnA (sh l.length a.ax.length)) := by
        rw [List.take_append, List.take_of_length_le (by omega), Nat.add_sub_cancel_left, List.map_take]
      show axQ _ l (bsF l.length ((a.ax ++ b.ax.map (rnA (sh l.length a.ax.length))).take (a.ax.length + i))) ((a.ax ++ b.ax.map (rnA (sh l.length a.ax.length)))[a.ax.length + i]'(by simpa using hj0))
      rw [e1, e2, hbB i (by omega)]
      rcases b3 i hi with ⟨g1, g2, g3, g4⟩ | ⟨g1, g2, g3, g4⟩
      · refine .inl ⟨g1, ?_, g3, ?_⟩
        · show (cofs (b.ax[i].f.cs.map _)).length = 0
          have := cofs_len (b.ax[i].f.cs.map (rnK (sh l.length a.ax.length))); rw [List.length_map] at this; omega
        · show txtP (if b.ax[i].b = 0 then sh l.length a.ax.length b.ax[i].t else b.ax[i].t) _ l
          rw [if_pos g1]; exact txb _ g4
      · refine .inr ⟨g1, formP_sh hbn hk g2, g3, ?_⟩
        show (if b.ax[i].b = 0 then sh l.length a.ax.length b.ax[i].t else b.ax[i].t) = 0
        rw [if_neg g1]; exact g4
  · refine (all_mem (l := a.is ++ b.is.map (rnI (sh l.length a.ax.length))) (Q := fun x => formP x.f (dd (a.nn ++ dd (b.nn.map (sh l.length a.ax.length)))) l (bsF l.length (a.ax ++ b.ax.map (rnA (sh l.length a.ax.length)))))).2 fun x hx => ?_
    rw [hbT]
    rcases List.mem_append.1 hx with h | h
    · obtain ⟨j, hj, rfl⟩ := List.mem_iff_getElem.1 h
      exact formP_ext hsn (a4 j hj)
    · obtain ⟨y, hy, rfl⟩ := List.mem_map.1 h
      obtain ⟨j, hj, rfl⟩ := List.mem_iff_getElem.1 hy
      exact formP_sh hbn hk (b4 j hj)
  · refine (all_mem (l := a.ts ++ b.ts.map (rnT (sh l.length a.ax.length))) (Q := fun t => tstP t ∧ txtP t.v (dd (a.nn ++ dd (b.nn.map (sh l.length a.ax.length)))) l)).2 fun x hx => ?_
    rcases List.mem_append.1 hx with h | h
    · obtain ⟨j, hj, rfl⟩ := List.mem_iff_getElem.1 h
      exact ⟨(a5 j hj).1, txa _ (a5 j hj).2⟩
    · obtain ⟨y, hy, rfl⟩ := List.mem_map.1 h
      obtain ⟨j, hj, rfl⟩ := List.mem_iff_getElem.1 hy
      exact ⟨(b5 j hj).1, txb _ (b5 j hj).2⟩
  all_goals
    refine (all_mem (Q := fun p : Int × Int => txtP p.1 (dd (a.nn ++ dd (b.nn.map (sh l.length a.ax.length)))) l ∧ txtP p.2 (dd (a.nn ++ dd (b.nn.map (sh l.length a.ax.length)))) l ∧ p.1 < p.2)).2 fun x hx => ?_
    rcases List.mem_append.1 hx with h | h
    · obtain ⟨j, hj, rfl⟩ := List.mem_iff_getElem.1 h
      first
        | exact ⟨txa _ (a6 j hj).1, txa _ (a6 j hj).2.1, (a6 j hj).2.2⟩
        | exact ⟨txa _ (a7 j hj).1, txa _ (a7 j hj).2.1, (a7 j hj).2.2⟩
    · obtain ⟨y, hy, rfl⟩ := List.mem_map.1 h
      obtain ⟨j, hj, rfl⟩ := List.mem_iff_getElem.1 hy
      have key : ∀ p : Int × Int, txtP p.1 b.nn l ∧ txtP p.2 b.nn l ∧ p.1 < p.2 → txtP (rnP (sh l.length a.ax.length) p).1 (dd (a.nn ++ dd (b.nn.map (sh l.length a.ax.length)))) l ∧ txtP (rnP (sh l.length a.ax.length) p).2 (dd (a.nn ++ dd (b.nn.map (sh l.length a.ax.length)))) l ∧ (rnP (sh l.length a.ax.length) p).1 < (rnP (sh l.length a.ax.length) p).2 := fun p hp => by
        have e : rnP (sh l.length a.ax.length) p = (sh l.length a.ax.length p.1, sh l.length a.ax.length p.2) := by
          have := sh_mono (n := l.length) (k := a.ax.length) hp.2.2
          show (min _ _, max _ _) = _
          rw [Int.min_eq_left (by omega), Int.max_eq_right (by omega)]
        rw [e]
        exact ⟨txb _ hp.1, txb _ hp.2.1, sh_mono hp.2.2⟩
      first
        | exact key _ (b6 j hj)
        | exact key _ (b7 j hj)
end Go.Proofs.Ytnmfjojhgfipcaa.W
namespace Go.Proofs.Ytnmfjojhgfipcaa.W
open Go.RowKit E
set_option linter.unusedVariables false
set_option linter.unusedSimpArgs false
set_option linter.unusedSectionVars false
theorem cmpV_map2 {r : List RV} {au au' : List Int} {gv : Int → Int} : ∀ {l : List Cf}, (∀ k ∈ l, itV r au' (gv k.v) = itV r au k.v) → ∀ s, cmpV r au' (l.map (rnK gv)) s = cmpV r au l s
  | [], _, s => rfl
  | a :: l, h, s => by
    rw [List.map_cons, cmpV, cmpV]
    have h1 : itV r au' (rnK gv a).v = itV r au a.v := h a (by simp)
    rw [h1]
    split
    · exact cmpV_map2 (fun k hk => h k (by simp [hk])) _
    · rfl
theorem lfV_rn2 {r : List RV} {au au' : List Int} {gv : Int → Int} {V : Int → Prop} {f : Lf} (h : nmF V gv f) (hi : ∀ k ∈ f.cs, itV r au' (gv k.v) = itV r au k.v) : lfV r au' (rnF gv f) = lfV r au f := by
  rw [lfV, lfV, cmpV_perm (cofs_perm h)]
  exact cmpV_map2 hi _
theorem lfV_ext {r : List RV} {au au' : List Int} {f : Lf} (hi : ∀ k ∈ f.cs, itV r au' k.v = itV r au k.v) : lfV r au' f = lfV r au f := by
  have := cmpV_map2 (gv := fun v => v) hi f.c
  rw [show f.cs.map (rnK fun v => v) = f.cs from List.map_id _] at this
  exact this
theorem it_sh {r : List RV} {o0 out : List Int} {n k : Nat} (hn : r.length = n) (hk : o0.length = k) {v : Int} : itV r (o0 ++ out) (sh n k v) = itV r out v := by
  unfold itV sh
  by_cases hv : (n : Int) ≤ v
  · rw [if_pos hv, if_pos (by omega), if_pos (by omega), List.getD_eq_getElem?_getD, List.getD_eq_getElem?_getD, List.getElem?_append_right (by omega), show (v + (k : Int)).toNat - r.length - o0.length = v.toNat - r.length by omega]
  · rw [if_neg hv, if_neg (by omega), if_neg (by omega)]
theorem it_ext {r : List RV} {o0 out : List Int} {v : Int} (hv : v < r.length + o0.length) : itV r (o0 ++ out) v = itV r o0 v := by
  unfold itV
  by_cases h : (r.length : Int) ≤ v
  · rw [if_pos h, if_pos h, List.getD_eq_getElem?_getD, List.getD_eq_getElem?_getD, List.getElem?_append_left (by omega)]
  · rw [if_neg h, if_neg h]
theorem auV_app {r : List RV} : ∀ {A B : List Ax} {out : List Int}, auV r (A ++ B) out = if (auV r A out).2 = true then auV r B (auV r A out).1 else ([], false)
  | [], B, out => by simp [auV]
  | a :: A, B, out => by
    rw [List.cons_append, auV, auV]
    split
    · split
      · exact auV_app
      · simp
    · split
      · exact auV_app
      · simp
theorem auV_sh {r : List RV} {n k : Nat} {o0 : List Int} (hn : r.length = n) (hk : o0.length = k) : ∀ {B : List Ax} {out : List Int}, (∀ a ∈ B, (a.b = 0 → a.t < n) ∧ nmF VV (sh n k) a.f) →
    (auV r (B.map (rnA (sh n k))) (o0 ++ out)).2 = (auV r B out).2 ∧ ((auV r B out).2 = true → (auV r (B.map (rnA (sh n k))) (o0 ++ out)).1 = o0 ++ (auV r B out).1)
  | [], out, _ => by simp [auV]
  | a :: B, out, h => by
    have ih : ∀ x, (auV r (B.map (rnA (sh n k))) (o0 ++ out ++ [x])).2 = (auV r B (out ++ [x])).2 ∧ ((auV r B (out ++ [x])).2 = true → (auV r (B.map (rnA (sh n k))) (o0 ++ out ++ [x])).1 = o0 ++ (auV r B (out ++ [x])).1) := fun x => by
      rw [List.append_assoc]; exact auV_sh hn hk fun b hb => h b (by simp [hb])
    have h1 := h a (by simp)
    rw [List.map_cons, auV, auV]
    by_cases hb : a.b = 0
    · rw [if_pos (show (rnA (sh n k) a).b = 0 from hb), if_pos hb, show (rnA (sh n k) a).t = a.t from (if_pos hb).trans (sh_lo (h1.1 hb))]
      split
      · exact ih _
      · simp
    · rw [if_neg (show ¬ (rnA (sh n k) a).b = 0 from hb), if_neg hb, show lfV r (o0 ++ out) (rnA (sh n k) a).f = lfV r out a.f from lfV_rn2 h1.2 fun c hc => it_sh hn hk]
      split
      · exact ih _
      · simp
theorem all_app {α β : Type} {X : List α} {Y : List β} {f : β → α} {Q : α → Prop} {R : α → Prop} {T : β → Prop} (h1 : ∀ x ∈ X, Q x ↔ R x) (h2 : ∀ y ∈ Y, Q (f y) ↔ T y) :
    (∀ j (h : j < (X ++ Y.map f).length), Q (X ++ Y.map f)[j]) ↔ (∀ j (h : j < X.length), R X[j]) ∧ ∀ j (h : j < Y.length), T Y[j] := by
  rw [all_mem, all_mem (Q := R), all_mem (Q := T)]
  constructor
  · exact fun h => ⟨fun x hx => (h1 x hx).1 (h x (List.mem_append.2 (.inl hx))), fun y hy => (h2 y hy).1 (h _ (List.mem_append.2 (.inr (List.mem_map.2 ⟨y, hy, rfl⟩))))⟩
  · rintro ⟨a, b⟩ x hx
    rcases List.mem_append.1 hx with h | h
    · exact (h1 x h).2 (a x h)
    · obtain ⟨y, hy, rfl⟩ := List.mem_map.1 h
      exact (h2 y hy).2 (b y hy)
theorem all_dd2 {X Y : List Int} {f : Int → Int} {Q : Int → Prop} (h2 : ∀ y ∈ Y, f y = y) :
    (∀ j (h : j < (dd (X ++ dd (Y.map f))).length), Q (dd (X ++ dd (Y.map f)))[j]) ↔ (∀ j (h : j < X.length), Q X[j]) ∧ ∀ j (h : j < Y.length), Q Y[j] := by
  rw [all_mem, all_mem (l := X) (Q := Q), all_mem (l := Y) (Q := Q)]
  constructor
  · exact fun h => ⟨fun x hx => h x (((dd_spec _).2 x).2 (List.mem_append.2 (.inl hx))), fun y hy => h y (((dd_spec _).2 y).2 (List.mem_append.2 (.inr (((dd_spec _).2 y).2 (List.mem_map.2 ⟨y, hy, h2 y hy⟩)))))⟩
  · rintro ⟨a, b⟩ x hx
    rcases List.mem_append.1 (((dd_spec _).2 x).1 hx) with h | h
    · exact a x h
    · obtain ⟨y, hy, rfl⟩ := List.mem_map.1 (((dd_spec _).2 x).1 h)
      rw [h2 y hy]; exact b y hy
theorem sm_sh {r : List RV} {n k : Nat} {p : Int × Int} (h1 : p.1 < n) (h2 : p.2 < n) : smQ r (rnP (sh n k) p) ↔ smQ r p := by
  unfold smQ
  rcases mnx (gv := sh n k) (p := p) with ⟨a, b⟩ | ⟨a, b⟩ <;> rw [a, b, sh_lo h1, sh_lo h2]
  exact ⟨fun ⟨x, y, z⟩ => ⟨y, x, z.symm⟩, fun ⟨x, y, z⟩ => ⟨y, x, z.symm⟩⟩
theorem df_sh {r : List RV} {n k : Nat} {p : Int × Int} (h1 : p.1 < n) (h2 : p.2 < n) : dfQ r (rnP (sh n k) p) ↔ dfQ r p := by
  unfold dfQ
  rcases mnx (gv := sh n k) (p := p) with ⟨a, b⟩ | ⟨a, b⟩ <;> rw [a, b, sh_lo h1, sh_lo h2]
  exact ⟨fun ⟨x, y, z⟩ => ⟨y, x, z.symm⟩, fun ⟨x, y, z⟩ => ⟨y, x, z.symm⟩⟩
theorem hol_join {a b : Cl} {r : List RV} {n : Nat} (hn : r.length = n) (oa : okC a r) (ob : okC b r) (hb : nmC VV (sh n a.ax.length) b) : holP (jn a (rnCl (sh n a.ax.length) b)) r ↔ holP a r ∧ holP b r := by
  have hB : ∀ x ∈ b.ax, (x.b = 0 → x.t < n) ∧ nmF VV (sh n a.ax.length) x.f := fun x hx => by
    obtain ⟨j, hj, rfl⟩ := List.mem_iff_getElem.1 hx
    exact ⟨fun h => by have := ((ob.ax j hj).1 h).2; omega, hb.ax _ hx⟩
  have e0 : auV r (jn a (rnCl (sh n a.ax.length) b)).ax [] = if (auV r a.ax []).2 = true then auV r (b.ax.map (rnA (sh n a.ax.length))) (auV r a.ax []).1 else ([], false) := auV_app
  by_cases fa : (auV r a.ax []).2 = true
  · rw [if_pos fa] at e0
    have hk : (auV r a.ax []).1.length = a.ax.length := by have := auV_len fa; simpa using this
    have hs := auV_sh (out := []) hn hk hB
    rw [List.append_nil] at hs
    by_cases fb : (auV r b.ax []).2 = true
    · have e1 := hs.2 fb
      have e2 := hs.1.trans fb
      unfold holP
      rw [e0, e1, e2]
      have q1 := all_dd2 (X := a.nl) (Y := b.nl) (f := sh n a.ax.length) (Q := fun v => (at' r v).k = 0) fun y hy => by
        obtain ⟨j, hj, rfl⟩ := List.mem_iff_getElem.1 hy
        exact sh_lo (by have := (ob.nl j hj).2; omega)
      have q2 := all_dd2 (X := a.nn) (Y := b.nn) (f := sh n a.ax.length) (Q := fun v => (at' r v).k ≠ 0) fun y hy => by
        obtain ⟨j, hj, rfl⟩ := List.mem_iff_getElem.1 hy
        exact sh_lo (by have := (ob.nn j hj).2; omega)
      have q3 := all_app (X := a.is) (Y := b.is) (f := rnI (sh n a.ax.length)) (Q := inQ r ((auV r a.ax []).1 ++ (auV r b.ax []).1)) (R := inQ r (auV r a.ax []).1) (T := inQ r (auV r b.ax []).1) (fun x hx => by
        obtain ⟨j, hj, rfl⟩ := List.mem_iff_getElem.1 hx
        unfold inQ
        rw [lfV_ext fun c hc => by
          obtain ⟨i, hi, rfl⟩ := List.mem_iff_getElem.1 hc
          have := (oa.is j hj i hi).2
          exact it_ext (by omega)]) (fun y hy => by
        unfold inQ
        rw [show lfV r ((auV r a.ax []).1 ++ (auV r b.ax []).1) (rnI (sh n a.ax.length) y).f = lfV r (auV r b.ax []).1 y.f from lfV_rn2 (hb.is y hy) fun c hc => it_sh hn hk])
      have q4 := all_app (X := a.ts) (Y := b.ts) (f := rnT (sh n a.ax.length)) (Q := tsQ r) (R := tsQ r) (T := tsQ r) (fun x hx => Iff.rfl) (fun y hy => by
        obtain ⟨j, hj, rfl⟩ := List.mem_iff_getElem.1 hy
        unfold tsQ
        rw [show (rnT (sh n a.ax.length) b.ts[j]).v = b.ts[j].v from sh_lo (by have := (ob.ts j hj).2; omega)]
        exact Iff.rfl)
      have q5 := all_app (X := a.sm) (Y := b.sm) (f := rnP (sh n a.ax.length)) (Q := smQ r) (R := smQ r) (T := smQ r) (fun x hx => Iff.rfl) (fun y hy => by
        obtain ⟨j, hj, rfl⟩ := List.mem_iff_getElem.1 hy
        exact sm_sh (by have := (ob.sm j hj).1.2; omega) (by have := (ob.sm j hj).2.2; omega))
      have q6 := all_app (X := a.df) (Y := b.df) (f := rnP (sh n a.ax.length)) (Q := dfQ r) (R := dfQ r) (T := dfQ r) (fun x hx => Iff.rfl) (fun y hy => by
        obtain ⟨j, hj, rfl⟩ := List.mem_iff_getElem.1 hy
        exact df_sh (by have := (ob.df j hj).1.2; omega) (by have := (ob.df j hj).2.2; omega))
      constructor
      · rintro ⟨h1, h2, _, h4, h5, h6, h7⟩
        have g1 := q1.1 h1; have g2 := q2.1 h2; have g4 := q3.1 h4; have g5 := q4.1 h5; have g6 := q5.1 h6; have g7 := q6.1 h7
        exact ⟨⟨g1.1, g2.1, fa, g4.1, g5.1, g6.1, g7.1⟩, g1.2, g2.2, fb, g4.2, g5.2, g6.2, g7.2⟩
      · rintro ⟨⟨h1, h2, _, h4, h5, h6, h7⟩, g1, g2, _, g4, g5, g6, g7⟩
        exact ⟨q1.2 ⟨h1, g1⟩, q2.2 ⟨h2, g2⟩, rfl, q3.2 ⟨h4, g4⟩, q4.2 ⟨h5, g5⟩, q5.2 ⟨h6, g6⟩, q6.2 ⟨h7, g7⟩⟩
    · refine ⟨fun h => ?_, fun h => absurd h.2.2.2.1 fb⟩
      have h3 := h.2.2.1
      rw [e0, hs.1] at h3
      exact absurd h3 fb
  · rw [if_neg fa] at e0
    refine ⟨fun h => ?_, fun h => absurd h.1.2.2.1 fa⟩
    have h3 := h.2.2.1
    rw [e0] at h3
    cases h3
theorem rgC_jn {a b : Cl} (la : lenN a ≤ 1000) (lb : lenN b ≤ 1000) (ra : rgC a) (rb : rgC b) : rgC (jn a b) := by
  unfold lenN at la lb
  have ap : ∀ x y : List Int, (dd (x ++ y)).length ≤ x.length + y.length := fun x y => by have := dd_len (x ++ y); rwa [List.length_append] at this
  refine ⟨?_, ?_, ?_, ?_, ?_, ?_, ?_, fun x hx => ?_, fun x hx => ?_, fun x hx => ?_⟩
  · have := ap a.nl b.nl; show (dd _).length ≤ _; omega
  · have := ap a.nn b.nn; show (dd _).length ≤ _; omega
  · show (_ ++ _ : List _).length ≤ _; rw [List.length_append]; omega
  · show (_ ++ _ : List _).length ≤ _; rw [List.length_append]; omega
  · show (_ ++ _ : List _).length ≤ _; rw [List.length_append]; omega
  · show (_ ++ _ : List _).length ≤ _; rw [List.length_append]; omega
  · show (_ ++ _ : List _).length ≤ _; rw [List.length_append]; omega
  · exact (List.mem_append.1 hx).elim (ra.axf x) (rb.axf x)
  · exact (List.mem_append.1 hx).elim (ra.isf x) (rb.isf x)
  · exact (List.mem_append.1 hx).elim (ra.tss x) (rb.tss x)
theorem lenN_rn {gv : Int → Int} {c : Cl} : lenN (rnCl gv c) ≤ lenN c := by
  have h1 := dd_len (c.nl.map gv)
  have h2 := dd_len (c.nn.map gv)
  rw [List.length_map] at h1 h2
  show (dd _).length + (dd _).length + (List.map _ _).length + (List.map _ _).length + (List.map _ _).length + (List.map _ _).length + (List.map _ _).length ≤ lenN c
  simp only [List.length_map, lenN]; omega
theorem join_l (a b : Cl) (l : List Vr) (ha : nmC VV (fun v => v) a) (hid : rnCl (fun v => v) a = a) (hb : nmC VV (sh l.length a.ax.length) b) (la : lenN a ≤ 80) (lb : lenN b ≤ 80) : Pure Try.prog 18 [clC a, clC b, iC (((l.map vrT).length : Nat) : Int)] (.c (clC (jn a (rnCl (sh l.length a.ax.length) b)))) := by
  rw [List.length_map]; exact join_any a b l.length ha hid hb la lb
theorem rjoin_l (a b : Cl) (l : List Vr) (hn : l.length ≤ 1000) (hb : nmC VV (sh l.length a.ax.length) b) (hb2 : nmC VV (ren (rgI l.length) ((l.length + a.ax.length : Nat) : Int)) b) (la : lenN a ≤ 80) (lb : lenN b ≤ 80) : Pure Try.prog 19 [clC a, clC b, iC (((l.map vrT).length : Nat) : Int)] (.c (clC (jn a (rnCl (sh l.length a.ax.length) b)))) := by
  rw [List.length_map, rnCl_congr (fun v hv => sh_ren hv) hb]; exact rjoin_any a b l.length hn hb2 la lb
theorem valid_true (c : Cl) (l : List Vr) (z : Nz) (hc : rgC c) (hl : l.length ≤ 17592186044000) (h : vldP c l) : Pure Try.prog 20 [clC c, vsC z l] (.c (bC true)) := by
  have := rvalid_any c l z hc hl
  rw [decide_eq_true h] at this; exact this
end Go.Proofs.Ytnmfjojhgfipcaa.W
namespace Go.Proofs.Ytnmfjojhgfipcaa.W
open Go.RowKit E
set_option linter.unusedVariables false
set_option linter.unusedSimpArgs false
set_option linter.unusedSectionVars false
structure Pa where (a b : Cl) (l : List Vr) (r : List RV)
abbrev paT (x : Pa) : List E.T := [.sl .un 1 (x.a.nl.map i64T), .sl .un 1 (x.a.nn.map i64T), .sl .un 4 (x.a.ax.map axT), .sl .un 3 (x.a.is.map ctT), .sl .un 4 (x.a.ts.map tsT), .sl .un 2 (x.a.sm.map prT), .sl .un 2 (x.a.df.map prT), .sl .un 1 (x.b.nl.map i64T), .sl .un 1 (x.b.nn.map i64T), .sl .un 4 (x.b.ax.map axT), .sl .un 3 (x.b.is.map ctT), .sl .un 4 (x.b.ts.map tsT), .sl .un 2 (x.b.sm.map prT), .sl .un 2 (x.b.df.map prT), .sl .un 5 (x.l.map vrT), .sl .un 3 (x.r.map rvT)]
abbrev paC (a b : Cl) (l : List Vr) (r : List RV) : C := .g [.t (.sl .un 1 (a.nl.map i64T)), .t (.sl .un 1 (a.nn.map i64T)), .t (.sl .un 4 (a.ax.map axT)), .t (.sl .un 3 (a.is.map ctT)), .t (.sl .un 4 (a.ts.map tsT)), .t (.sl .un 2 (a.sm.map prT)), .t (.sl .un 2 (a.df.map prT)), .t (.sl .un 1 (b.nl.map i64T)), .t (.sl .un 1 (b.nn.map i64T)), .t (.sl .un 4 (b.ax.map axT)), .t (.sl .un 3 (b.is.map ctT)), .t (.sl .un 4 (b.ts.map tsT)), .t (.sl .un 2 (b.sm.map prT)), .t (.sl .un 2 (b.df.map prT)), .t (.sl .un 5 (l.map vrT)), .t (.sl .un 3 (r.map rvT))]

set_option maxHeartbeats 8000000 in
set_option maxRecDepth 20000 in
theorem join_law (a b : Cl) (l : List Vr) (r : List RV) (hca : rgC a) (hcb : rgC b) (hl : l.length ≤ 17592186044000) (hr : r.length ≤ 17592186044000) (hs : ∀ v ∈ r, v.s.size ≤ 1000000000000000) (H : Heap) : E.Spec Try.prog 6 [paC a b l r] H fun x H' => x = bX true := by
  refine Spec.enter Try.func6 rfl ?_
  refine AW.wk (Wk.keep 70 [(0, .c (paC a b l r))] [] (H) rfl ⟨rfl, trivial⟩ trivial (fun _ _ h => h) rfl) ?_
  refine sR ?_
  refine SeqK.r (b_box (r := [_, _, _, _, _, _, _, _, _, _, _, _, _, _, _, _]) rfl rfl rfl rfl rfl rfl) rfl ?_
  refine sA ?_
  refine SeqK.nil ?_
  refine AW.seq ?_
  refine sR ?_
  refine SeqK.q (q_call _ rfl Fx.fn8 rfl (awake_any) rfl) rfl rfl rfl ?_
  refine SeqK.q (q_not rfl rfl) rfl rfl rfl ?_
  refine sM ?_
  refine SeqK.on (q_fieldL _ rfl Fx.fl46_0 rfl rfl) rfl rfl rfl rfl rfl ?_
  refine SeqK.rOn (b_load (r := .g [_, _, _, _, _, _, _]) rfl Fx.ty28 rfl rfl rfl rfl rfl rfl) rfl rfl rfl ?_
  refine SeqK.on (q_fieldL _ rfl Fx.fl46_2 rfl rfl) rfl rfl rfl rfl rfl ?_
  refine SeqK.rOn (b_load (r := .a _) rfl Fx.ty29 rfl rfl rfl rfl rfl rfl) rfl rfl rfl ?_
  refine SeqK.on (q_fieldL _ rfl Fx.fl46_3 rfl rfl) rfl rfl rfl rfl rfl ?_
  refine SeqK.rOn (b_load (r := .a _) rfl Fx.ty31 rfl rfl rfl rfl rfl rfl) rfl rfl rfl ?_
  refine SeqK.on (q_call _ rfl Fx.fn9 rfl (fits_any a l r .un .un hca hl hr hs) rfl) rfl rfl rfl rfl rfl ?_
  refine SeqK.on (q_not rfl rfl) rfl rfl rfl rfl rfl ?_
  refine SeqK.q (q_pkF rfl rfl rfl) rfl rfl rfl ?_
  refine SeqK.qB (q_mvC rfl rfl) rfl rfl rfl (fun g16 => ?_) (fun g16 => ?_)
  ·
    refine SeqK.off rfl rfl rfl rfl rfl rfl ?_
    refine SeqK.off rfl rfl rfl rfl rfl rfl ?_
    refine SeqK.off rfl rfl rfl rfl rfl rfl ?_
    refine SeqK.off rfl rfl rfl rfl rfl rfl ?_
    refine SeqK.off rfl rfl rfl rfl rfl rfl ?_
    refine SeqK.off rfl rfl rfl rfl rfl rfl ?_
    refine SeqK.off rfl rfl rfl rfl rfl rfl ?_
    refine SeqK.off rfl rfl rfl rfl rfl rfl ?_
    refine SeqK.q (q_pkT rfl rfl rfl) rfl rfl rfl ?_
    refine SeqK.nil ?_
    refine AW.condT rfl ?_
    refine sR ?_
    refine SeqK.q (q_call _ rfl Fx.fn8 rfl (awake_any) rfl) rfl rfl rfl ?_
    refine sA ?_
    refine SeqK.nil ?_
    refine AW.ret ?_
    exact fin_x (x := .c _) (H) (.tmp rfl .nil) rfl (fun _ _ h => h) (rfl)
  ·
    refine SeqK.on (q_fieldL _ rfl Fx.fl46_1 rfl rfl) rfl rfl rfl rfl rfl ?_
    refine SeqK.rOn (b_load (r := .g [_, _, _, _, _, _, _]) rfl Fx.ty28 rfl rfl rfl rfl rfl rfl) rfl rfl rfl ?_
    refine SeqK.on (q_fieldL _ rfl Fx.fl46_2 rfl rfl) rfl rfl rfl rfl rfl ?_
    refine SeqK.rOn (b_load (r := .a _) rfl Fx.ty29 rfl rfl rfl rfl rfl rfl) rfl rfl rfl ?_
    refine SeqK.on (q_fieldL _ rfl Fx.fl46_3 rfl rfl) rfl rfl rfl rfl rfl ?_
    refine SeqK.rOn (b_load (r := .a _) rfl Fx.ty31 rfl rfl rfl rfl rfl rfl) rfl rfl rfl ?_
    refine SeqK.on (q_call _ rfl Fx.fn9 rfl (fits_any b l r .un .un hcb hl hr hs) rfl) rfl rfl rfl rfl rfl ?_
    refine SeqK.on (q_not rfl rfl) rfl rfl rfl rfl rfl ?_
    refine SeqK.q (q_pkF rfl rfl rfl) rfl rfl rfl ?_
    refine SeqK.nil ?_
    refine AW.cond _ rfl (fun h25 => ?_) (fun h25 => ?_)
    ·
      refine sR ?_
      refine SeqK.q (q_call _ rfl Fx.fn8 rfl (awake_any) rfl) rfl rfl rfl ?_
      refine sA ?_
      refine SeqK.nil ?_
      refine AW.ret ?_
      exact fin_x (x := .c _) (H) (.tmp rfl .nil) rfl (fun _ _ h => h) (rfl)
    ·
      obtain ⟨hd, hfa, va, hi⟩ := fits_iff (by simpa using g16 : fitsB a l r = true)
      obtain ⟨_, hfb, vb, _⟩ := fits_iff (by simpa using h25 : fitsB b l r = true)
      have hvv : ∀ v ∈ r, vvP v := fun v hm => by
        obtain ⟨j, hj, rfl⟩ := List.mem_iff_getElem.1 hm
        exact (hi.2 j hj).1
      have hta : ∀ t ∈ a.ts, tstP t := fun t hm => by
        obtain ⟨j, hj, rfl⟩ := List.mem_iff_getElem.1 hm
        exact (va.2.2.2.2.1 j hj).1
      have htb : ∀ t ∈ b.ts, tstP t := fun t hm => by
        obtain ⟨j, hj, rfl⟩ := List.mem_iff_getElem.1 hm
        exact (vb.2.2.2.2.1 j hj).1
      have hl10 : l.length ≤ 10 := by have := hd; simp [domB] at this; exact this.2
      have hna := nmC_inj (gv := fun v => v) (fun v w _ _ h => h) hl10 hfa va
      have hid := rnCl_id va
      have hnb := nmC_inj (gv := sh l.length a.ax.length) sh_inj hl10 hfb vb
      have hnb2 := nmC_inj (gv := ren (rgI l.length) ((l.length + a.ax.length : Nat) : Int)) (fun v w h0 h1 h => by
        by_cases k1 : VV v
        · by_cases k2 : VV w
          · rw [← sh_ren k1, ← sh_ren k2] at h; exact sh_inj v w h0 h1 h
          · have hw : ((rgI l.length).length : Int) ≤ w := by rw [rgI_len]; rcases Int.lt_or_le 1000000000000000 w with q | q; omega; exact absurd ⟨h1, q⟩ k2
            rw [← sh_ren k1, ren_hi hw, rgI_len] at h; unfold sh at h; split at h <;> omega
        · have hv : ((rgI l.length).length : Int) ≤ v := by rw [rgI_len]; rcases Int.lt_or_le 1000000000000000 v with q | q; omega; exact absurd ⟨h0, q⟩ k1
          by_cases k2 : VV w
          · rw [← sh_ren k2, ren_hi hv, rgI_len] at h; unfold sh at h; split at h <;> omega
          · have hw : ((rgI l.length).length : Int) ≤ w := by rw [rgI_len]; rcases Int.lt_or_le 1000000000000000 w with q | q; omega; exact absurd ⟨h1, q⟩ k2
            rw [ren_hi hv, ren_hi hw] at h; omega) hl10 hfb vb
      have hvj := vld_join va vb
      have oa := okC_of va hi.1
      have ob := okC_of vb hi.1
      have oj := okC_of hvj hi.1
      have hJ := hol_join hi.1 oa ob hnb
      have hrb := rgC_rn hnb hcb
      have hrj := rgC_jn (by have := hfa.1; omega) (by have := hfb.1; have := lenN_rn (gv := sh l.length a.ax.length) (c := b); omega) hca hrb
      refine AW.skip ?_
      refine sR ?_
      refine SeqK.q (q_fieldL _ rfl Fx.fl46_0 rfl rfl) rfl rfl rfl ?_
      refine SeqK.r (b_load (r := .g [_, _, _, _, _, _, _]) rfl Fx.ty28 rfl rfl rfl rfl rfl rfl) rfl ?_
      refine SeqK.q (q_fieldL _ rfl Fx.fl46_1 rfl rfl) rfl rfl rfl ?_
      refine SeqK.r (b_load (r := .g [_, _, _, _, _, _, _]) rfl Fx.ty28 rfl rfl rfl rfl rfl rfl) rfl ?_
      refine SeqK.q (q_fieldL _ rfl Fx.fl46_2 rfl rfl) rfl rfl rfl ?_
      refine SeqK.r (b_load (r := .a _) rfl Fx.ty29 rfl rfl rfl rfl rfl rfl) rfl ?_
      refine SeqK.q (q_len rfl Fx.un29 rfl) rfl rfl rfl ?_
      refine SeqK.q (q_call _ rfl Fx.fn18 rfl (join_l a b l hna hid hnb hfa.1 hfb.1) rfl) rfl rfl rfl ?_
      refine SeqK.r (b_alloc (r := [_, _, _, _, _, _, _]) rfl rfl Fx.ze28 rfl rfl rfl rfl) rfl ?_
      refine SeqK.r (b_store (r := [_, _, _, _, _, _, _]) rfl rfl Fx.ty28 rfl rfl rfl rfl rfl rfl) rfl ?_
      refine SeqK.nil ?_
      refine AW.seq ?_
      refine AW.draw Fx.mo ?_
      refine LexK.r (b_load (r := .g [_, _, _, _, _, _, _]) rfl Fx.ty28 rfl rfl rfl rfl rfl rfl) rfl ?_
      refine LexK.q (q_fieldL _ rfl Fx.fl46_0 rfl rfl) rfl rfl rfl ?_
      refine LexK.r (b_load (r := .g [_, _, _, _, _, _, _]) rfl Fx.ty28 rfl rfl rfl rfl rfl rfl) rfl ?_
      refine LexK.q (q_fieldL _ rfl Fx.fl46_1 rfl rfl) rfl rfl rfl ?_
      refine LexK.r (b_load (r := .g [_, _, _, _, _, _, _]) rfl Fx.ty28 rfl rfl rfl rfl rfl rfl) rfl ?_
      refine LexK.q (q_fieldL _ rfl Fx.fl46_2 rfl rfl) rfl rfl rfl ?_
      refine LexK.r (b_load (r := .a _) rfl Fx.ty29 rfl rfl rfl rfl rfl rfl) rfl ?_
      refine LexK.q (q_len rfl Fx.un29 rfl) rfl rfl rfl ?_
      refine LexK.q (q_call _ rfl Fx.fn19 rfl (rjoin_l a b l (by omega) hnb hnb2 hfa.1 hfb.1) rfl) rfl rfl rfl ?_
      refine LexK.q (q_call _ rfl Fx.fn16 rfl (same_self _ hrj) rfl) rfl rfl rfl ?_
      refine LexK.q (q_mvC rfl rfl) rfl rfl rfl ?_
      refine LexK.rOn (b_load (r := .g [_, _, _, _, _, _, _]) rfl Fx.ty28 rfl rfl rfl rfl rfl rfl) rfl rfl rfl ?_
      refine LexK.on (q_fieldL _ rfl Fx.fl46_2 rfl rfl) rfl rfl rfl rfl rfl ?_
      refine LexK.rOn (b_load (r := .a _) rfl Fx.ty29 rfl rfl rfl rfl rfl rfl) rfl rfl rfl ?_
      refine LexK.on (q_call _ rfl Fx.fn20 rfl (valid_true _ l .un hrj hl hvj) rfl) rfl rfl rfl rfl rfl ?_
      refine LexK.q (q_pkT rfl rfl rfl) rfl rfl rfl ?_
      refine LexK.q (q_mvC rfl rfl) rfl rfl rfl ?_
      refine LexK.rOn (b_load (r := .g [_, _, _, _, _, _, _]) rfl Fx.ty28 rfl rfl rfl rfl rfl rfl) rfl rfl rfl ?_
      refine LexK.on (q_fieldL _ rfl Fx.fl46_3 rfl rfl) rfl rfl rfl rfl rfl ?_
      refine LexK.rOn (b_load (r := .a _) rfl Fx.ty31 rfl rfl rfl rfl rfl rfl) rfl rfl rfl ?_
      refine LexK.on (q_call _ rfl Fx.fn10 rfl (holds_any _ r .un hrj hr hs oj (fun t ht u hu => passes_any _ u hu (by rcases List.mem_append.1 ht with h | h; (have := (hta t h).2.2; omega); (obtain ⟨t2, ht2, rfl⟩ := List.mem_map.1 h; have := (htb t2 ht2).2.2; show t2.s.size ≤ _; omega)))) rfl) rfl rfl rfl rfl rfl ?_
      refine LexK.on (q_fieldL _ rfl Fx.fl46_0 rfl rfl) rfl rfl rfl rfl rfl ?_
      refine LexK.rOn (b_load (r := .g [_, _, _, _, _, _, _]) rfl Fx.ty28 rfl rfl rfl rfl rfl rfl) rfl rfl rfl ?_
      refine LexK.on (q_fieldL _ rfl Fx.fl46_3 rfl rfl) rfl rfl rfl rfl rfl ?_
      refine LexK.rOn (b_load (r := .a _) rfl Fx.ty31 rfl rfl rfl rfl rfl rfl) rfl rfl rfl ?_
      refine LexK.on (q_call _ rfl Fx.fn11 rfl (rholds_any a r .un hca hr hs hvv oa (fun t ht u hu => rpasses_any t u hu (by have := (hta t ht).2.2; omega) (hta t ht).2.1)) rfl) rfl rfl rfl rfl rfl ?_
      refine LexK.onB (q_mvC rfl rfl) rfl rfl rfl rfl rfl (fun g61 => ?_) (fun g61 => ?_)
      ·
        have hEQ : decide (holP (jn a (rnCl (sh l.length a.ax.length) b)) r) = decide (holP b r) := decide_eq_decide.2 (hJ.trans (and_iff_right (of_decide_eq_true g61)))
        refine LexK.on (q_fieldL _ rfl Fx.fl46_1 rfl rfl) rfl rfl rfl rfl rfl ?_
        refine LexK.rOn (b_load (r := .g [_, _, _, _, _, _, _]) rfl Fx.ty28 rfl rfl rfl rfl rfl rfl) rfl rfl rfl ?_
        refine LexK.on (q_fieldL _ rfl Fx.fl46_3 rfl rfl) rfl rfl rfl rfl rfl ?_
        refine LexK.rOn (b_load (r := .a _) rfl Fx.ty31 rfl rfl rfl rfl rfl rfl) rfl rfl rfl ?_
        refine LexK.on (q_call _ rfl Fx.fn11 rfl (rholds_any b r .un hcb hr hs hvv ob (fun t ht u hu => rpasses_any t u hu (by have := (htb t ht).2.2; omega) (htb t ht).2.1)) rfl) rfl rfl rfl rfl rfl ?_
        refine LexK.on (q_pkT rfl rfl rfl) rfl rfl rfl rfl rfl ?_
        refine LexK.on (q_eqlB rfl Fx.un4 rfl rfl) rfl rfl rfl rfl rfl ?_
        refine LexK.q (q_pkT rfl rfl rfl) rfl rfl rfl ?_
        refine LexK.q (q_asC rfl rfl) rfl rfl rfl ?_
        refine LexK.nil (by kernel_rfl) ?_
        refine AW.ret ?_
        exact fin_x (x := .c _) (H) (.tmp rfl .nil) rfl (fun _ _ h => h) (by show bX (decide (decide (holP _ _) = decide (holP _ _))) = bX true; rw [hEQ]; simp)
      ·
        have hEQ : decide (holP (jn a (rnCl (sh l.length a.ax.length) b)) r) = false := decide_eq_false (fun h => (of_decide_eq_false g61) (hJ.1 h).1)
        refine LexK.off rfl rfl rfl rfl rfl rfl ?_
        refine LexK.off rfl rfl rfl rfl rfl rfl ?_
        refine LexK.off rfl rfl rfl rfl rfl rfl ?_
        refine LexK.off rfl rfl rfl rfl rfl rfl ?_
        refine LexK.off rfl rfl rfl rfl rfl rfl ?_
        refine LexK.on (q_pkF rfl rfl rfl) rfl rfl rfl rfl rfl ?_
        refine LexK.on (q_eqlB rfl Fx.un4 rfl rfl) rfl rfl rfl rfl rfl ?_
        refine LexK.q (q_pkT rfl rfl rfl) rfl rfl rfl ?_
        refine LexK.q (q_asC rfl rfl) rfl rfl rfl ?_
        refine LexK.nil (by kernel_rfl) ?_
        refine AW.ret ?_
        exact fin_x (x := .c _) (H) (.tmp rfl .nil) rfl (fun _ _ h => h) (by show bX (decide (decide (holP _ _) = false)) = bX true; rw [hEQ]; rfl)

end Go.Proofs.Ytnmfjojhgfipcaa.W
/- The readers of the laws' arguments: data to trees. -/
namespace Go.Proofs.Ytnmfjojhgfipcaa.W
open Go.RowKit E
set_option linter.unusedVariables false
abbrev ok46 (s : Pa) : Prop := ok28 s.a ∧ ok28 s.b ∧ ok29 s.l ∧ ok31 s.r ∧ True
theorem rd46 (N : Nat) : Reads Try.prog N 46 16 paT ok46 :=
  (Reads.struct Try.underlying46 (ReadsF.cons rfl (by kernel_rfl) (fun M _ => (rd28 M)) (ReadsF.cons rfl (by kernel_rfl) (fun M _ => (rd28 M)) (ReadsF.cons rfl (by kernel_rfl) (fun M _ => (rd29 M)) (ReadsF.cons rfl (by kernel_rfl) (fun M _ => (rd31 M)) .nil))))).conv (fun p => (⟨p.1, p.2.1, p.2.2.1, p.2.2.2.1⟩ : Pa)) (fun _ _ => rfl) (fun _ h => h)
end Go.Proofs.Ytnmfjojhgfipcaa.W
