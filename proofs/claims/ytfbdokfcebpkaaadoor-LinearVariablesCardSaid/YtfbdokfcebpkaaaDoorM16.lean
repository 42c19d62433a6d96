/- Parts of the proof, one after the other: W35, W36, W37. No condition. -/
import Derived.Test.YtfbdokfcebpkaaaDoorM15
namespace Go.Proofs.YtfbdokfcebpkaaaDoor.W
open Go.RowKit E M
set_option linter.unusedVariables false
set_option linter.unusedSimpArgs false
set_option linter.unusedSectionVars false
/-- the elements in order, each of them once -/
def dd (l : List Int) : List Int := Lib.compact (l.mergeSort fun x y => decide (x ≤ y))
abbrev sI (l : List Int) : Prop := l.Pairwise (· < ·)
theorem sI_ext : ∀ {l m : List Int}, sI l → sI m → (∀ x, x ∈ l ↔ x ∈ m) → l = m
  | [], [], _, _, _ => rfl
  | [], y :: m, _, _, h => absurd ((h y).2 (by simp)) (by simp)
  | x :: l, [], _, _, h => absurd ((h x).1 (by simp)) (by simp)
  | x :: l, y :: m, hl, hm, h => by
    have h1 := List.pairwise_cons.1 hl
    have h2 := List.pairwise_cons.1 hm
    have hxy : x = y := by
      have a := (h x).1 (by simp)
      have b := (h y).2 (by simp)
      rcases List.mem_cons.1 a with e | e
      · exact e
      · rcases List.mem_cons.1 b with f | f
        · exact f.symm
        · have := h2.1 x e; have := h1.1 y f; omega
    subst hxy
    rw [sI_ext h1.2 h2.2 fun z => ?_]
    constructor
    · intro hz
      rcases List.mem_cons.1 ((h z).1 (List.mem_cons_of_mem _ hz)) with e | e
      · have := h1.1 z hz; omega
      · exact e
    · intro hz
      rcases List.mem_cons.1 ((h z).2 (List.mem_cons_of_mem _ hz)) with e | e
      · have := h2.1 z hz; omega
      · exact e
theorem cm_len (l : List Int) : (Lib.compact l).length ≤ l.length := Lib.compact_length_le l
theorem cm_upTo (d : Array Int) (hd : ∀ i j, i ≤ j → j < d.size → d[i]! ≤ d[j]!) : ∀ m, m ≤ d.size → sI (Lib.compactUpTo d m) ∧ (∀ x, x ∈ Lib.compactUpTo d m ↔ ∃ j, j < m ∧ d[j]! = x)
  | 0, _ => ⟨by simp [Lib.compactUpTo, sI], by simp [Lib.compactUpTo]⟩
  | m + 1, h => by
    obtain ⟨h1, h2⟩ := cm_upTo d hd m (by omega)
    rw [Lib.compactUpTo_succ]
    by_cases hk : Lib.keeps d m = true
    · rw [if_pos hk]
      refine ⟨List.pairwise_append.2 ⟨h1, by simp, fun a ha b hb => ?_⟩, fun x => ?_⟩
      · obtain ⟨j, hj, rfl⟩ := (h2 a).1 ha
        simp at hb; subst hb
        have hne : d[m]! ≠ d[m - 1]! := by
          have : m = 0 ∨ d[m]! ≠ d[m - 1]! := by simpa [Lib.keeps] using hk
          rcases this with e | e
          · omega
          · exact e
        have e1 := hd j (m - 1) (by omega) (by omega)
        have e2 := hd (m - 1) m (by omega) (by omega)
        omega
      · rw [List.mem_append, h2]
        constructor
        · rintro (⟨j, hj, e⟩ | e)
          · exact ⟨j, by omega, e⟩
          · exact ⟨m, by omega, (List.mem_singleton.1 e).symm⟩
        · rintro ⟨j, hj, e⟩
          by_cases hjm : j = m
          · subst hjm; exact .inr (by simp [e])
          · exact .inl ⟨j, by omega, e⟩
    · rw [if_neg hk, List.append_nil]
      refine ⟨h1, fun x => ?_⟩
      have hk2 : m ≠ 0 ∧ d[m]! = d[m - 1]! := by
        have : ¬ (m = 0 ∨ d[m]! ≠ d[m - 1]!) := by simpa [Lib.keeps] using hk
        omega
      rw [h2]
      constructor
      · rintro ⟨j, hj, e⟩; exact ⟨j, by omega, e⟩
      · rintro ⟨j, hj, e⟩
        by_cases hjm : j = m
        · subst hjm; exact ⟨j - 1, by omega, by rw [← hk2.2]; exact e⟩
        · exact ⟨j, by omega, e⟩
theorem cm_sorted {l : List Int} (h : l.Pairwise (· ≤ ·)) : sI (Lib.compact l) ∧ ∀ x, x ∈ Lib.compact l ↔ x ∈ l := by
  have hd : ∀ i j, i ≤ j → j < l.toArray.size → l.toArray[i]! ≤ l.toArray[j]! := fun i j hij hj => by
    have hj : j < l.length := by simpa using hj
    rw [getElem!_pos l.toArray i (by simp; omega), getElem!_pos l.toArray j (by simp; omega)]
    by_cases e : i = j
    · subst e; exact Int.le_refl _
    · exact List.pairwise_iff_getElem.1 h i j (by omega) hj (by omega)
  obtain ⟨h1, h2⟩ := cm_upTo l.toArray hd l.length (by simp)
  refine ⟨h1, fun x => (h2 x).trans ?_⟩
  constructor
  · rintro ⟨j, hj, rfl⟩
    rw [getElem!_pos l.toArray j (by simp; omega)]; simp
  · intro hx
    obtain ⟨j, hj, rfl⟩ := List.mem_iff_getElem.1 hx
    exact ⟨j, hj, by rw [getElem!_pos l.toArray j (by simp; omega)]; simp⟩
theorem dd_spec (l : List Int) : sI (dd l) ∧ ∀ x, x ∈ dd l ↔ x ∈ l := by
  have h : (l.mergeSort fun x y => decide (x ≤ y)).Pairwise (· ≤ ·) := (List.pairwise_mergeSort (le := fun x y : Int => decide (x ≤ y)) (fun a b c => by simp; omega) (fun a b => by simp; omega) l).imp fun {a b} h => by simpa using h
  obtain ⟨h1, h2⟩ := cm_sorted h
  exact ⟨h1, fun x => (h2 x).trans (List.mem_mergeSort ..)⟩
theorem dd_len (l : List Int) : (dd l).length ≤ l.length := by
  have := cm_len (l.mergeSort fun x y => decide (x ≤ y))
  rw [List.length_mergeSort] at this; exact this
theorem dd_eq {l m : List Int} (h : sI m) (hm : ∀ x, x ∈ m ↔ x ∈ l) : m = dd l := sI_ext h (dd_spec l).1 fun x => (hm x).trans ((dd_spec l).2 x).symm
theorem dd_of {l m : List Int} (h : ∀ x, x ∈ l ↔ x ∈ m) : dd l = dd m := dd_eq (dd_spec l).1 fun x => ((dd_spec l).2 x).trans (h x)
theorem dd_self {l : List Int} (h : sI l) : dd l = l := (dd_eq h fun _ => Iff.rfl).symm
theorem dd_app (l m : List Int) : dd (dd l ++ m) = dd (l ++ m) := dd_of fun x => by rw [List.mem_append, List.mem_append, (dd_spec l).2]
theorem dd_app2 (l m : List Int) : dd (l ++ dd m) = dd (l ++ m) := dd_of fun x => by rw [List.mem_append, List.mem_append, (dd_spec m).2]
/-! the columns of a term -/
mutual
def colT : Tm → List Int
  | .mk _ ps => colPs ps
def colPs : List Pt → List Int
  | [] => []
  | p :: r => colP p ++ colPs r
def colP : Pt → List Int
  | .mk _ k v _ of => if k = 2 then colO of else [v]
def colO : List Tm → List Int
  | [] => []
  | t :: _ => colT t
end
theorem colT_eq (t : Tm) : colT t = colPs t.ps := by cases t; rw [colT]
theorem colP_eq (p : Pt) : colP p = if p.kind = 2 then colO p.of else [p.var] := by cases p; rw [colP]
theorem colO_eq {l : List Tm} (h : 0 < l.length) : colO l = colT l[0] := by
  cases l with
  | nil => simp at h
  | cons o r => rw [colO]; rfl
theorem colPs_app (a b : List Pt) : colPs (a ++ b) = colPs a ++ colPs b := by
  induction a with
  | nil => rw [List.nil_append, colPs]; rfl
  | cons p r ih => rw [List.cons_append, colPs, colPs, ih, List.append_assoc]
theorem colPs_take {l : List Pt} {i : Nat} (h : i < l.length) : colPs (l.take (i + 1)) = colPs (l.take i) ++ colP l[i] := by
  rw [List.take_succ_eq_append_getElem h, colPs_app, colPs, colPs, List.append_nil]
theorem colP_div {p : Pt} (h : p.kind = 2) (h0 : 0 < p.of.length) : colP p = colT p.of[0] := by rw [colP_eq, if_pos h, colO_eq h0]
theorem colP_var {p : Pt} (h : ¬ p.kind = 2) : colP p = [p.var] := by rw [colP_eq, if_neg h]
theorem col_len (t : Tm) : (colT t).length ≤ t.cnt := by
  induction t using Tm.ind with
  | h t ih =>
    rw [colT_eq, Tm.cnt_eq]
    have : ∀ l : List Pt, (∀ p ∈ l, ∀ o ∈ p.of, (colT o).length ≤ o.cnt) → (colPs l).length ≤ cntPs l := by
      intro l
      induction l with
      | nil => intro _; simp [colPs]
      | cons p r ih2 =>
        intro h
        have h1 := ih2 fun q hq => h q (by simp [hq])
        have h2 : (colP p).length ≤ 1 + p.cnt := by
          rw [colP_eq]
          split
          · cases ho : p.of with
            | nil => simp [colO]
            | cons o s =>
              have h3 := h p (by simp) o (by simp [ho])
              have h4 := cntTs_mem (show o ∈ p.of by simp [ho])
              rw [colO, Pt.cnt_eq]; omega
          · simp
        simp only [colPs, List.length_append, cntPs]; omega
    have := this t.ps ih
    omega
abbrev vars (t : Tm) : List Int := dd (colT t)
theorem vars_len (t : Tm) : (vars t).length ≤ t.cnt := Nat.le_trans (dd_len _) (col_len t)
abbrev iA (n : Int) : A := .t (.v (.int .i64 n))
theorem flatI (l : List Int) : (l.map i64T).flatten.map A.t = l.map iA := by
  induction l with
  | nil => rfl
  | cons n r ih => simp only [List.map_cons, List.flatten_cons, List.map_append, ih]; rfl
theorem sortV (H : Heap) (k : Nat) (l : List Int) (hk : H k = some (.row 3 1 (l.map iA))) (hl : l.length ≤ 1000000) :
    E.Spec Tryd.prog 74 [.a (.os k 0 l.length 1)] H fun x H' => x = .tup [] ∧ H' = upd H k (some (.row 3 1 ((l.mergeSort fun x y => decide (x ≤ y)).map iA))) :=
  E.Spec.sort (Value.int .i64) (fun _ => rfl) (fun l => l.mergeSort fun x y => decide (x ≤ y)) (fun l => List.length_mergeSort l) (fun blk off cap zs w => Tryd.slices_Sort_int blk off cap zs w) (fun p cap w => Tryd.slices_Sort_int_none p cap w) H k 3 l hk (by omega)
theorem cm_nil : Lib.compact ([] : List Int) = [] := rfl
theorem cm_pos (l : List Int) (h : l ≠ []) : 0 < (Lib.compact l).length := by
  cases l with
  | nil => exact absurd rfl h
  | cons x r =>
    have : Lib.compactUpTo (x :: r).toArray (r.length + 1) ≠ [] := by
      unfold Lib.compactUpTo
      rw [List.range_succ_eq_map]
      simp [Lib.keeps]
    exact List.length_pos_iff.2 this
theorem compactV (H : Heap) (k : Nat) (l : List Int) (hk : H k = some (.row 3 1 (l.map iA))) (hl : l.length ≤ 1000000) :
    E.Spec Tryd.prog 75 [.a (.os k 0 l.length 1)] H fun x H' => x = .c (.a (.os k 0 (Lib.compact l).length 1)) ∧ H' = upd H k (some (.row 3 1 ((Lib.compact l).map iA))) :=
  E.Spec.compact (Value.int .i64) (fun _ => rfl) Lib.compact 0 cm_len cm_pos cm_nil (fun blk off cap zs w => Tryd.slices_Compact_int blk off cap zs w) (fun p cap w => Tryd.slices_Compact_int_empty p cap w) H k 3 l hk (by omega)

set_option maxRecDepth 20000 in
theorem vars_of (H : Heap) (t : Tm) (hv : vldT t = true) (hN : t.cnt ≤ 100000) (ih : ∀ p ∈ t.ps, ∀ o ∈ p.of, vldT o = true → Pure Tryd.prog 35 [tmC o] (.c (iL .un (vars o)))) : E.Spec Tryd.prog 35 [tmC t] H fun x H' => ∃ k, H k = none ∧ x = .c (.a (.os k 0 (vars t).length 1)) ∧ H' = upd H k (some (.row 3 1 ((vars t).map iA))) := by
  refine Spec.enter Tryd.func35 rfl ?_
  refine AW.wk (Wk.keep 33 [(0, .c (tmC t))] [] (H) rfl ⟨rfl, trivial⟩ trivial (fun _ _ h => h) rfl) ?_
  refine AW.seq ?_
  refine AW.reg ?_
  refine SeqK.r (b_box (r := [_, _]) rfl rfl rfl rfl rfl rfl) rfl ?_
  refine SeqK.q (q_asC rfl rfl) rfl rfl rfl ?_
  refine SeqK.nil ?_
  refine AW.seq ?_
  have hlt := len_ps t
  have hvp := vld_parts hv
  refine AW.reg ?_
  refine SeqK.q (q_asC rfl rfl) rfl rfl rfl ?_
  refine SeqK.nil ?_
  refine AW.seq ?_
  refine AW.seq ?_
  refine AW.reg ?_
  refine SeqK.q (q_fieldL _ rfl Fx.fl24_1 rfl rfl) rfl rfl rfl ?_
  refine SeqK.r (b_load (r := .a _) rfl Fx.ty22 rfl rfl rfl rfl rfl rfl) rfl ?_
  refine SeqK.q (q_len rfl Fx.un22 rfl) rfl rfl rfl ?_
  refine SeqK.q (q_mvC rfl rfl) rfl rfl rfl ?_
  refine SeqK.nil ?_
  refine AW.block ?_
  refine AW.row 3 3 1 rfl (fun k0 hk0 => ?_)
  refine AW.loop (fun (i : Nat) s => ∃ (k : Nat) (xs : List Int), (i ≤ t.ps.length ∧ H k = none ∧ xs.length ≤ cntPs (t.ps.take i) ∧ dd xs = dd (colPs (t.ps.take i))) ∧ s = ⟨33, sp [(1, .lp 1 0), (2, .c (.a (.t (.v (.slice none 0 0))))), (3, .c (.a (.os k 0 xs.length 1))), (7, .c (.a (.t (.sl .un 5 (t.ps.map ptT))))), (8, iX .i64 (((t.ps.map ptT).length : Nat) : Int)), (9, iX .i64 ((i : Nat) : Int))], lv [(1, .box [.t (.v (.int .i64 t.c)), .t (.sl .un 5 (t.ps.map ptT))])], upd H k (some (.row 3 1 (xs.map iA)))⟩) (fun i => t.ps.length - i) 0 ⟨_, Wk.keep 33 [(1, .lp 1 0), (2, .c (.a (.t (.v (.slice none 0 0))))), (3, .c (.a (.os (k0) 0 ([]).length 1))), (7, .c (.a (.t (.sl .un 5 (t.ps.map ptT))))), (8, iX .i64 (((t.ps.map ptT).length : Nat) : Int)), (9, iX .i64 ((((0 : Nat)) : Nat) : Int))] [(1, .box [.t (.v (.int .i64 t.c)), .t (.sl .un 5 (t.ps.map ptT))])] (upd H (k0) (some (.row 3 1 (([]).map iA)))) rfl ⟨rfl, rfl, rfl, rfl, rfl, rfl, trivial⟩ ⟨rfl, trivial⟩ (fun _ _ h => h) rfl, k0, [], ⟨Nat.zero_le _, hk0, by simp, rfl⟩, rfl⟩ (fun i s hs => ?_)
  obtain ⟨k, xs, ⟨hi0, hk, hxl, hI⟩, rfl⟩ := hs
  refine AW.seq ?_
  refine AW.reg ?_
  refine SeqK.q (q_lss rfl rfl rfl) rfl rfl rfl ?_
  refine SeqK.nil ?_
  refine AW.seq ?_
  refine AW.condD rfl (fun h10 => ?_) (fun h10 => ?_)
  ·
    have hi : i < t.ps.length := by rw [List.length_map] at h10; omega
    have hvk := vldP_vok (hvp _ (List.getElem_mem hi))
    refine AW.skip ?_
    refine AW.seq ?_
    refine AW.block ?_
    refine AW.seq ?_
    refine AW.reg ?_
    refine SeqK.q (q_index _ rfl Fx.sl22 rfl rfl (by omega) (idx_map (f := ptT) hi)) rfl rfl rfl ?_
    refine SeqK.q (q_load (.g [_, _, _, _, _]) rfl Fx.ty62 rfl rfl rfl) rfl rfl rfl ?_
    refine SeqK.r (b_alloc (r := [_, _, _, _, _]) rfl rfl Fx.ze62 rfl rfl rfl rfl) rfl ?_
    refine SeqK.r (b_store (r := [_, _, _, _, _]) rfl rfl Fx.ty62 rfl rfl rfl rfl rfl rfl) rfl ?_
    refine SeqK.nil ?_
    refine AW.seq ?_
    refine AW.reg ?_
    refine SeqK.q (q_fieldL _ rfl Fx.fl62_1 rfl rfl) rfl rfl rfl ?_
    refine SeqK.r (b_load (r := .a _) rfl Fx.ty3 rfl rfl rfl rfl rfl rfl) rfl ?_
    refine SeqK.q (q_eql rfl rfl rfl) rfl rfl rfl ?_
    refine SeqK.nil ?_
    refine AW.condD rfl (fun h15 => ?_) (fun h15 => ?_)
    ·
      obtain ⟨hd, hp0, hvo⟩ : 1 ≤ t.ps[i].dv ∧ ∃ h : 0 < t.ps[i].of.length, vldT t.ps[i].of[0] = true := hvk.dv h15
      refine AW.reg ?_
      refine SeqK.q (q_mvC rfl rfl) rfl rfl rfl ?_
      refine SeqK.q (q_fieldL _ rfl Fx.fl62_4 rfl rfl) rfl rfl rfl ?_
      refine SeqK.r (b_load (r := .a _) rfl Fx.ty60 rfl rfl rfl rfl rfl rfl) rfl ?_
      refine SeqK.q (q_index _ rfl Fx.sl60 rfl rfl (by omega) (idx_tm hp0)) rfl rfl rfl ?_
      refine SeqK.q (q_load (.g [_, _]) rfl Fx.ty24 rfl rfl rfl) rfl rfl rfl ?_
      refine SeqK.q (q_call _ rfl Fx.fn35 rfl (ih _ (List.getElem_mem hi) _ (List.getElem_mem hp0) hvo) rfl) rfl rfl rfl ?_
      refine SeqK.appR1 rfl (by assumption) rfl Fx.el54 rfl (by simp) rfl (by have := vars_len t.ps[i].of[0]; have := cnt_of (List.getElem_mem hi) (List.getElem_mem hp0); have := cntPs_take_le t.ps i; have := Tm.cnt_eq t; simp; omega) rfl rfl (fun k22 hk22 => ?_)
      rw [flatI, ← List.map_append, show xs.length + ((vars t.ps[i].of[0]).map i64T).length = (xs ++ vars t.ps[i].of[0]).length by simp]
      refine SeqK.q (q_asC rfl rfl) rfl rfl rfl ?_
      refine SeqK.nil ?_
      refine AW.reg ?_
      refine SeqK.q (q_add _ rfl rfl rfl (w64 (by omega) (by omega))) rfl rfl rfl ?_
      refine SeqK.q (q_mvC rfl rfl) rfl rfl rfl ?_
      refine SeqK.nil ?_
      exact ⟨i + 1, _, Wk.keep 33 [(1, .lp 1 0), (2, .c (.a (.t (.v (.slice none 0 0))))), (3, .c (.a (.os (k22) 0 (xs ++ vars t.ps[i].of[0]).length 1))), (7, .c (.a (.t (.sl .un 5 (t.ps.map ptT))))), (8, iX .i64 (((t.ps.map ptT).length : Nat) : Int)), (9, iX .i64 (((i + 1) : Nat) : Int))] [(1, .box [.t (.v (.int .i64 t.c)), .t (.sl .un 5 (t.ps.map ptT))])] (upd H (k22) (some (.row 3 1 ((xs ++ vars t.ps[i].of[0]).map iA)))) rfl ⟨rfl, rfl, rfl, rfl, rfl, rfl, trivial⟩ ⟨rfl, trivial⟩ (fun _ _ h => h) rfl, by omega, k22, xs ++ vars t.ps[i].of[0], ⟨by omega, hk22, by have := vars_len t.ps[i].of[0]; have := cntTs_mem (List.getElem_mem hp0); have := cntPs_take hi; simp; omega, by rw [dd_app2, ← dd_app, hI, dd_app, colPs_take hi, colP_div h15 hp0]⟩, rfl⟩
    ·
      refine AW.reg ?_
      refine SeqK.q (q_mvC rfl rfl) rfl rfl rfl ?_
      refine SeqK.q (q_fieldL _ rfl Fx.fl62_2 rfl rfl) rfl rfl rfl ?_
      refine SeqK.r (b_load (r := .a _) rfl Fx.ty3 rfl rfl rfl rfl rfl rfl) rfl ?_
      refine SeqK.q (q_buildSlice _ rfl Fx.el54 rfl (by decide) rfl) rfl rfl rfl ?_
      refine SeqK.appR1 rfl (by assumption) rfl Fx.el54 rfl (by simp) rfl (by have := cntPs_take_le t.ps i; have := Tm.cnt_eq t; simp; omega) rfl rfl (fun k27 hk27 => ?_)
      rw [show List.map iA xs ++ List.map A.t (List.flatten [[E.T.v (.int .i64 t.ps[i].var)]]) = (xs ++ [t.ps[i].var]).map iA by simp, show xs.length + [[E.T.v (.int .i64 t.ps[i].var)]].length = (xs ++ [t.ps[i].var]).length by simp]
      refine SeqK.q (q_asC rfl rfl) rfl rfl rfl ?_
      refine SeqK.nil ?_
      refine AW.reg ?_
      refine SeqK.q (q_add _ rfl rfl rfl (w64 (by omega) (by omega))) rfl rfl rfl ?_
      refine SeqK.q (q_mvC rfl rfl) rfl rfl rfl ?_
      refine SeqK.nil ?_
      exact ⟨i + 1, _, Wk.keep 33 [(1, .lp 1 0), (2, .c (.a (.t (.v (.slice none 0 0))))), (3, .c (.a (.os (k27) 0 (xs ++ [t.ps[i].var]).length 1))), (7, .c (.a (.t (.sl .un 5 (t.ps.map ptT))))), (8, iX .i64 (((t.ps.map ptT).length : Nat) : Int)), (9, iX .i64 (((i + 1) : Nat) : Int))] [(1, .box [.t (.v (.int .i64 t.c)), .t (.sl .un 5 (t.ps.map ptT))])] (upd H (k27) (some (.row 3 1 ((xs ++ [t.ps[i].var]).map iA)))) rfl ⟨rfl, rfl, rfl, rfl, rfl, rfl, trivial⟩ ⟨rfl, trivial⟩ (fun _ _ h => h) rfl, by omega, k27, xs ++ [t.ps[i].var], ⟨by omega, hk27, by have := cntPs_take hi; simp; omega, by rw [← dd_app, hI, dd_app, colPs_take hi, colP_var h15]⟩, rfl⟩
  ·
    refine AW.exit ?_
    refine eth_e ?_
    refine eth_e ?_
    refine exit_here ?_
    refine AW.seq ?_
    have hx1 := cntPs_take_le t.ps i
    have hx2 := Tm.cnt_eq t
    have hxb : xs.length ≤ 1000000 := by omega
    have hil : i = t.ps.length := by rw [List.length_map] at h10; omega
    subst hil
    rw [List.take_length] at hI
    have hvx : vars t = dd xs := by rw [vars, colT_eq, hI]
    refine AW.reg ?_
    refine SeqK.q (q_mvC rfl rfl) rfl rfl rfl ?_
    refine SeqK.callE rfl rfl rfl rfl Fx.fn74 rfl (sortV _ k xs (upd_same _ _ _) (by omega)) (fun _ _ ⟨h, _⟩ => by rw [h]; rfl) (fun x30 H30 q30 => ?_)
    obtain ⟨rfl, hHs⟩ := q30
    rw [upd_upd] at hHs
    subst hHs
    have hml : (xs.mergeSort fun x y => decide (x ≤ y)).length = xs.length := List.length_mergeSort xs
    rw [← hml]
    refine SeqK.nil ?_
    refine AW.seq ?_
    refine AW.reg ?_
    refine SeqK.q (q_mvC rfl rfl) rfl rfl rfl ?_
    refine SeqK.callE rfl rfl rfl rfl Fx.fn75 rfl (compactV _ k _ (upd_same _ _ _) (by omega)) (fun _ _ ⟨h, _⟩ => by rw [h]; rfl) (fun x32 H32 q32 => ?_)
    obtain ⟨rfl, hHs⟩ := q32
    rw [upd_upd] at hHs
    subst hHs
    refine SeqK.q (q_asC rfl rfl) rfl rfl rfl ?_
    refine SeqK.nil ?_
    refine AW.ret ?_
    exact fin_x (x := .c _) (_) (.tmp rfl .nil) rfl (fun _ _ h => h) (⟨k, hk, by rw [hvx]; rfl, by rw [hvx]; rfl⟩)

end Go.Proofs.YtfbdokfcebpkaaaDoor.W
namespace Go.Proofs.YtfbdokfcebpkaaaDoor.W
open Go.RowKit E M
set_option linter.unusedVariables false
set_option linter.unusedSimpArgs false
set_option linter.unusedSectionVars false
theorem vars_any (t : Tm) : vldT t = true → t.cnt ≤ 100000 → Pure Tryd.prog 35 [tmC t] (.c (iL .un (vars t))) := by
  induction t using Tm.ind with
  | h t ih =>
    intro hv hN H
    refine E.Spec.freeze (vars_of H t hv hN fun p hp o ho hvo => ih p hp o ho hvo (by have := cnt_of hp ho; omega)) fun x H' ⟨k, hk, hx, hH⟩ => ?_
    subst hx hH
    refine ⟨k, 1, 3, (vars t).map i64T, by rw [upd_same, flatI], fun e he => by obtain ⟨p, _, rfl⟩ := List.mem_map.1 he; rfl, by decide, ?_, upd_back hk⟩
    simp [fzX, fzC, fzA]
def insF : Bool → List Int → Int → List Int
  | b, [], v => if b then [] else [v]
  | true, x :: r, v => x :: insF true r v
  | false, x :: r, v => if v ≤ x then (if v < x then v :: x :: insF true r v else x :: insF true r v) else x :: insF false r v
theorem insF_true : ∀ (l : List Int) (v : Int), insF true l v = l
  | [], v => rfl
  | x :: r, v => by rw [insF, insF_true r v]
theorem insF_mem : ∀ (l : List Int) (v x : Int), x ∈ insF false l v ↔ x ∈ l ∨ x = v
  | [], v, x => by simp [insF]
  | y :: r, v, x => by
    rw [insF, insF_true]
    split
    · split
      · simp; constructor
        · rintro (h | h | h) <;> simp [h]
        · rintro ((h | h) | h) <;> simp [h]
      · have : v = y := by omega
        subst this
        simp; intro h; exact .inl h
    · simp only [List.mem_cons, insF_mem r v x]; constructor
      · rintro (h | h | h) <;> simp [h]
      · rintro ((h | h) | h) <;> simp [h]
theorem insF_sI : ∀ {l : List Int} {v : Int}, sI l → sI (insF false l v)
  | [], v, _ => by simp [insF, sI]
  | y :: r, v, h => by
    have h1 := List.pairwise_cons.1 h
    rw [insF, insF_true]
    split
    · split
      · refine List.pairwise_cons.2 ⟨fun z hz => ?_, h⟩
        rcases List.mem_cons.1 hz with rfl | hz
        · assumption
        · have := h1.1 z hz; omega
      · exact h
    · refine List.pairwise_cons.2 ⟨fun z hz => ?_, insF_sI h1.2⟩
      rcases (insF_mem r v z).1 hz with hz | rfl
      · exact h1.1 z hz
      · omega
theorem insF_dd {l : List Int} {v : Int} (h : sI l) : insF false l v = dd (l ++ [v]) := dd_eq (insF_sI h) fun x => by rw [insF_mem]; simp
theorem insF_ge {l : List Int} {j : Nat} {v : Int} (hj : j < l.length) (h : v ≤ l[j]) (h2 : v < l[j]) : insF false (l.drop j) v = [v, l[j]] ++ insF true (l.drop (j + 1)) v := by
  rw [List.drop_eq_getElem_cons hj, insF, if_pos h, if_pos h2]; rfl
theorem insF_eq {l : List Int} {j : Nat} {v : Int} (hj : j < l.length) (h : v ≤ l[j]) (h2 : ¬ v < l[j]) : insF false (l.drop j) v = [l[j]] ++ insF true (l.drop (j + 1)) v := by
  rw [List.drop_eq_getElem_cons hj, insF, if_pos h, if_neg h2]; rfl
theorem insF_lt {l : List Int} {j : Nat} {v : Int} (hj : j < l.length) (h : ¬ v ≤ l[j]) : insF false (l.drop j) v = [l[j]] ++ insF false (l.drop (j + 1)) v := by
  rw [List.drop_eq_getElem_cons hj, insF, if_neg h]; rfl
theorem insF_on {l : List Int} {j : Nat} {v : Int} (hj : j < l.length) : insF true (l.drop j) v = [l[j]] ++ insF true (l.drop (j + 1)) v := by
  rw [List.drop_eq_getElem_cons hj, insF]; rfl
theorem put_ap {out r full m e : List Int} (h : m = e ++ r) (hI : out ++ m = full) : (out ++ e) ++ r = full := by
  rw [← hI, h]; simp
theorem put_i {zs : List (List E.T)} {out : List Int} {v : Int} (h : zs = out.map i64T) : zs ++ [i64T v] = (out ++ [v]).map i64T := by rw [h]; simp
theorem colPs_len : ∀ l : List Pt, (colPs l).length ≤ cntPs l
  | [] => by simp [colPs]
  | p :: r => by
    have h1 := colPs_len r
    have h2 : (colP p).length ≤ 1 + p.cnt := by
      rw [colP_eq]
      split
      · cases ho : p.of with
        | nil => simp [colO]
        | cons o s =>
          have h3 := col_len o
          have h4 := cntTs_mem (show o ∈ p.of by simp [ho])
          rw [colO, Pt.cnt_eq]; omega
      · simp
    simp only [colPs, List.length_append, cntPs]; omega
theorem ilApp (out : List Int) (v : Int) : X.c (iL .un (out ++ [v])) = .c (.a (.t (.sl .un 1 (out.map i64T ++ [[.v (.int .i64 v)]])))) := by rw [iL, List.map_append]; rfl
theorem XW.nilI : XW (.c (.a (.t (.v (.slice none 0 0))))) (.c (iL .un [])) := XW.nilU (sz := 1)

set_option maxHeartbeats 4000000 in
set_option maxRecDepth 20000 in
theorem mark_of (t : Tm) (l : List Int) (x : C) (hs : sI l) (hv : vldT t = true) (hN : t.cnt + l.length ≤ 100000) (hx : XW (.c x) (.c (iL .un l))) (ih : ∀ p ∈ t.ps, ∀ o ∈ p.of, vldT o = true → ∀ (m : List Int) (y : C), sI m → o.cnt + m.length ≤ 100000 → XW (.c y) (.c (iL .un m)) → Pure Tryd.prog 76 [tmC o, y] (.c (iL .un (dd (m ++ colT o))))) : Pure Tryd.prog 76 [tmC t, x] (.c (iL .un (dd (l ++ colT t)))) := by
  intro H
  refine Spec.enter Tryd.func76 rfl ?_
  refine AW.wk (Wk.keep 76 [(0, .c (tmC t)), (1, .c (x))] [] (H) rfl ⟨rfl, rfl, trivial⟩ trivial (fun _ _ h => h) rfl) ?_
  refine AW.seq ?_
  refine AW.reg ?_
  refine SeqK.r (b_box (r := [_, _]) rfl rfl rfl rfl rfl rfl) rfl ?_
  refine SeqK.q (q_asC rfl rfl) rfl rfl rfl ?_
  refine SeqK.nil ?_
  refine AW.seq ?_
  refine AW.seq ?_
  have hlt := len_ps t
  have hvp := vld_parts hv
  have hct := Tm.cnt_eq t
  refine AW.xw 1 rfl hx ?_
  refine AW.reg ?_
  refine SeqK.q (q_asC rfl rfl) rfl rfl rfl ?_
  refine SeqK.nil ?_
  refine AW.block ?_
  refine AW.wk (Wk.keep 76 [(1, .c (iL .un (dd (l ++ colPs (t.ps.take 0))))), (2, .lp 2 0), (4, .c (.a (.t (.v (.slice none 0 0))))), (5, iX .i64 ((0 : Nat) : Int))] [(2, .box [.t (.v (.int .i64 t.c)), .t (.sl .un 5 (t.ps.map ptT))])] (H) rfl ⟨by rw [List.take_zero, colPs, List.append_nil, dd_self hs]; rfl, rfl, rfl, rfl, trivial⟩ ⟨rfl, trivial⟩ (fun _ _ h => h) rfl) ?_
  refine AW.loop (fun (i : Nat) s => (i ≤ t.ps.length) ∧ s = ⟨76, sp [(1, .c (iL .un (dd (l ++ colPs (t.ps.take i))))), (2, .lp 2 0), (4, .c (.a (.t (.v (.slice none 0 0))))), (5, iX .i64 ((i : Nat) : Int))], lv [(2, .box [.t (.v (.int .i64 t.c)), .t (.sl .un 5 (t.ps.map ptT))])], H⟩) (fun i => t.ps.length - i) 0 ⟨_, Wk.keep 76 [(1, .c (iL .un (dd (l ++ colPs (t.ps.take ((0 : Nat))))))), (2, .lp 2 0), (4, .c (.a (.t (.v (.slice none 0 0))))), (5, iX .i64 ((((0 : Nat)) : Nat) : Int))] [(2, .box [.t (.v (.int .i64 t.c)), .t (.sl .un 5 (t.ps.map ptT))])] (H) rfl ⟨rfl, rfl, rfl, rfl, trivial⟩ ⟨rfl, trivial⟩ (fun _ _ h => h) rfl, Nat.zero_le _, rfl⟩ (fun i s hs => ?_)
  obtain ⟨hi0, rfl⟩ := hs
  refine AW.seq ?_
  refine AW.seq ?_
  refine AW.reg ?_
  refine SeqK.q (q_mvC rfl rfl) rfl rfl rfl ?_
  refine SeqK.q (q_fieldL _ rfl Fx.fl24_1 rfl rfl) rfl rfl rfl ?_
  refine SeqK.r (b_load (r := .a _) rfl Fx.ty22 rfl rfl rfl rfl rfl rfl) rfl ?_
  refine SeqK.q (q_len rfl Fx.un22 rfl) rfl rfl rfl ?_
  refine SeqK.q (q_lss rfl rfl rfl) rfl rfl rfl ?_
  refine SeqK.nil ?_
  refine AW.condD rfl (fun h14 => ?_) (fun h14 => ?_)
  ·
    have hi : i < t.ps.length := by rw [List.length_map] at h14; omega
    have hvk := vldP_vok (hvp _ (List.getElem_mem hi))
    have hcl := dd_len (l ++ colPs (t.ps.take i))
    have hct1 := cntPs_take hi
    have hct2 := cntPs_take_le t.ps (i + 1)
    have hcp := colPs_len (t.ps.take i)
    rw [List.length_append] at hcl
    refine AW.skip ?_
    refine AW.seq ?_
    refine AW.block ?_
    refine AW.seq ?_
    refine AW.reg ?_
    refine SeqK.q (q_fieldL _ rfl Fx.fl24_1 rfl rfl) rfl rfl rfl ?_
    refine SeqK.r (b_load (r := .a _) rfl Fx.ty22 rfl rfl rfl rfl rfl rfl) rfl ?_
    refine SeqK.q (q_mvC rfl rfl) rfl rfl rfl ?_
    refine SeqK.q (q_index _ rfl Fx.sl22 rfl rfl (by omega) (idx_map (f := ptT) hi)) rfl rfl rfl ?_
    refine SeqK.q (q_load (.g [_, _, _, _, _]) rfl Fx.ty62 rfl rfl rfl) rfl rfl rfl ?_
    refine SeqK.r (b_alloc (r := [_, _, _, _, _]) rfl rfl Fx.ze62 rfl rfl rfl rfl) rfl ?_
    refine SeqK.r (b_store (r := [_, _, _, _, _]) rfl rfl Fx.ty62 rfl rfl rfl rfl rfl rfl) rfl ?_
    refine SeqK.nil ?_
    refine AW.seq ?_
    refine AW.seq ?_
    refine AW.reg ?_
    refine SeqK.q (q_fieldL _ rfl Fx.fl62_1 rfl rfl) rfl rfl rfl ?_
    refine SeqK.r (b_load (r := .a _) rfl Fx.ty3 rfl rfl rfl rfl rfl rfl) rfl ?_
    refine SeqK.q (q_eql rfl rfl rfl) rfl rfl rfl ?_
    refine SeqK.nil ?_
    refine AW.condD rfl (fun h24 => ?_) (fun h24 => ?_)
    ·
      obtain ⟨hd, hp0, hvo⟩ : 1 ≤ t.ps[i].dv ∧ ∃ h : 0 < t.ps[i].of.length, vldT t.ps[i].of[0] = true := hvk.dv h24
      refine AW.seq ?_
      refine AW.reg ?_
      refine SeqK.q (q_fieldL _ rfl Fx.fl62_4 rfl rfl) rfl rfl rfl ?_
      refine SeqK.r (b_load (r := .a _) rfl Fx.ty60 rfl rfl rfl rfl rfl rfl) rfl ?_
      refine SeqK.q (q_index _ rfl Fx.sl60 rfl rfl (by omega) (idx_tm hp0)) rfl rfl rfl ?_
      refine SeqK.q (q_load (.g [_, _]) rfl Fx.ty24 rfl rfl rfl) rfl rfl rfl ?_
      refine SeqK.q (q_mvC rfl rfl) rfl rfl rfl ?_
      refine SeqK.q (q_call _ rfl Fx.fn76 rfl (ih _ (List.getElem_mem hi) _ (List.getElem_mem hp0) hvo (dd (l ++ colPs (t.ps.take i))) _ (dd_spec _).1 (by have := cntTs_mem (List.getElem_mem hp0); have := cntPs_take hi; omega) ⟨rfl, fun _ _ h => h⟩) rfl) rfl rfl rfl ?_
      refine SeqK.q (q_asC rfl rfl) rfl rfl rfl ?_
      refine SeqK.nil ?_
      refine AW.wk (Wk.keep 76 [(1, .c (iL .un (dd (l ++ colPs (t.ps.take (i + 1)))))), (2, .lp 2 0), (4, .c (.a (.t (.v (.slice none 0 0))))), (5, iX .i64 ((i : Nat) : Int))] [(2, .box [.t (.v (.int .i64 t.c)), .t (.sl .un 5 (t.ps.map ptT))])] (H) rfl ⟨by rw [show colPs (t.ps.take (i + 1)) = colPs (t.ps.take i) ++ colT t.ps[i].of[0] by rw [colPs_take hi, colP_div h24 hp0], ← List.append_assoc, ← dd_app (l ++ _)]; rfl, rfl, rfl, rfl, trivial⟩ ⟨rfl, trivial⟩ (fun _ _ h => h) rfl) ?_
      refine AW.exit ?_
      refine eth_e ?_
      refine exit_here ?_
      refine AW.reg ?_
      refine SeqK.q (q_mvC rfl rfl) rfl rfl rfl ?_
      refine SeqK.q (q_add _ rfl rfl rfl (w64 (by omega) (by omega))) rfl rfl rfl ?_
      refine SeqK.q (q_asC rfl rfl) rfl rfl rfl ?_
      refine SeqK.nil ?_
      exact ⟨i + 1, _, Wk.keep 76 [(1, .c (iL .un (dd (l ++ colPs (t.ps.take (i + 1)))))), (2, .lp 2 0), (4, .c (.a (.t (.v (.slice none 0 0))))), (5, iX .i64 (((i + 1) : Nat) : Int))] [(2, .box [.t (.v (.int .i64 t.c)), .t (.sl .un 5 (t.ps.map ptT))])] (H) rfl ⟨rfl, rfl, rfl, rfl, trivial⟩ ⟨rfl, trivial⟩ (fun _ _ h => h) rfl, by omega, hi, rfl⟩
    ·
      obtain ⟨L, hL⟩ : ∃ L, L = dd (l ++ colPs (t.ps.take i)) := ⟨_, rfl⟩
      rw [← hL]
      have hsL : sI L := by rw [hL]; exact (dd_spec _).1
      have hLl : L.length ≤ 100000 := by rw [hL]; omega
      refine AW.skip ?_
      refine AW.seq ?_
      refine AW.reg ?_
      refine SeqK.q (q_asC rfl rfl) rfl rfl rfl ?_
      refine SeqK.nil ?_
      refine AW.seq ?_
      refine AW.reg ?_
      refine SeqK.q (q_asC rfl rfl) rfl rfl rfl ?_
      refine SeqK.nil ?_
      refine AW.seq ?_
      refine AW.seq ?_
      refine AW.reg ?_
      refine SeqK.q (q_asC rfl rfl) rfl rfl rfl ?_
      refine SeqK.nil ?_
      refine AW.block ?_
      refine AW.tip 7 3 1 rfl (fun k0 hk0 => ?_)
      refine AW.loop (fun (j : Nat) s => ∃ (kt : Nat) (out : List Int) (zs : List (List E.T)) (pb : Bool), (j ≤ L.length ∧ H kt = none ∧ out.length ≤ j + pb.toNat ∧ zs = out.map i64T ∧ out ++ insF pb (L.drop j) t.ps[i].var = insF false L t.ps[i].var) ∧ s = ⟨76, sp [(1, .c (iL .un L)), (2, .lp 2 0), (4, .c (.a (.t (.v (.slice none 0 0))))), (5, iX .i64 ((i : Nat) : Int)), (6, .lp 6 0), (7, .c (.a (.ts kt .ne 1 zs))), (8, bX pb), (9, iX .i64 ((j : Nat) : Int))], lv [(2, .box [.t (.v (.int .i64 t.c)), .t (.sl .un 5 (t.ps.map ptT))]), (6, .box [.t (.v (.int .i64 t.ps[i].coef)), .t (.v (.int .i64 t.ps[i].kind)), .t (.v (.int .i64 t.ps[i].var)), .t (.v (.int .i64 t.ps[i].dv)), .t (.sl .un 2 (t.ps[i].of.map tmT))])], upd H kt (some (.tip 3 1 zs.length))⟩) (fun j => L.length - j) 0 ⟨_, Wk.keep 76 [(1, .c (iL .un L)), (2, .lp 2 0), (4, .c (.a (.t (.v (.slice none 0 0))))), (5, iX .i64 ((i : Nat) : Int)), (6, .lp 6 0), (7, .c (.a (.ts (k0) .ne 1 ([])))), (8, bX (false)), (9, iX .i64 ((((0 : Nat)) : Nat) : Int))] [(2, .box [.t (.v (.int .i64 t.c)), .t (.sl .un 5 (t.ps.map ptT))]), (6, .box [.t (.v (.int .i64 t.ps[i].coef)), .t (.v (.int .i64 t.ps[i].kind)), .t (.v (.int .i64 t.ps[i].var)), .t (.v (.int .i64 t.ps[i].dv)), .t (.sl .un 2 (t.ps[i].of.map tmT))])] (upd H (k0) (some (.tip 3 1 ([]).length))) rfl ⟨rfl, rfl, rfl, rfl, rfl, rfl, rfl, rfl, trivial⟩ ⟨rfl, rfl, trivial⟩ (fun _ _ h => h) rfl, k0, [], [], false, ⟨Nat.zero_le _, hk0, by simp, rfl, rfl⟩, rfl⟩ (fun j s hs => ?_)
      obtain ⟨kt, out, zs, pb, ⟨hj0, hkt, hol, hzs, hI2⟩, rfl⟩ := hs
      refine AW.seq ?_
      refine AW.seq ?_
      refine AW.reg ?_
      refine SeqK.q (q_mvC rfl rfl) rfl rfl rfl ?_
      refine SeqK.q (q_mvC rfl rfl) rfl rfl rfl ?_
      refine SeqK.q (q_len rfl Fx.un54 rfl) rfl rfl rfl ?_
      refine SeqK.q (q_lss rfl rfl rfl) rfl rfl rfl ?_
      refine SeqK.nil ?_
      refine AW.condD rfl (fun h34 => ?_) (fun h34 => ?_)
      ·
        have hj : j < L.length := by rw [List.length_map] at h34; omega
        refine AW.skip ?_
        refine AW.seq ?_
        refine AW.block ?_
        refine AW.seq ?_
        refine AW.seq ?_
        refine AW.draw Fx.mo ?_
        refine LexK.q (q_mvC rfl rfl) rfl rfl rfl ?_
        refine LexK.q (q_not rfl rfl) rfl rfl rfl ?_
        refine LexK.qB (q_mvC rfl rfl) rfl rfl rfl (fun g39 => ?_) (fun g39 => ?_)
        ·
          have hpb : pb = false := by simpa using g39
          have hIf : out ++ insF false (L.drop j) t.ps[i].var = insF false L t.ps[i].var := by rw [hpb] at hI2; exact hI2
          have hol2 : out.length ≤ j := by rw [hpb] at hol; simpa using hol
          refine LexK.on (q_mvC rfl rfl) rfl rfl rfl rfl rfl ?_
          refine LexK.on (q_mvC rfl rfl) rfl rfl rfl rfl rfl ?_
          refine LexK.on (q_index _ rfl Fx.sl54 rfl rfl (by omega) (idx_map (f := i64T) hj)) rfl rfl rfl rfl rfl ?_
          refine LexK.on (q_load (.a _) rfl Fx.ty3 rfl rfl rfl) rfl rfl rfl rfl rfl ?_
          refine LexK.on (q_fieldL _ rfl Fx.fl62_2 rfl rfl) rfl rfl rfl rfl rfl ?_
          refine LexK.rOn (b_load (r := .a _) rfl Fx.ty3 rfl rfl rfl rfl rfl rfl) rfl rfl rfl ?_
          refine LexK.on (q_geq rfl rfl rfl) rfl rfl rfl rfl rfl ?_
          refine LexK.q (q_pkT rfl rfl rfl) rfl rfl rfl ?_
          refine LexK.nil (by kernel_rfl) ?_
          refine AW.condD rfl (fun h47 => ?_) (fun h47 => ?_)
          ·
            refine AW.seq ?_
            refine AW.reg ?_
            refine SeqK.q (q_asC rfl rfl) rfl rfl rfl ?_
            refine SeqK.nil ?_
            refine AW.seq ?_
            refine AW.draw Fx.mo ?_
            refine LexK.q (q_mvC rfl rfl) rfl rfl rfl ?_
            refine LexK.q (q_mvC rfl rfl) rfl rfl rfl ?_
            refine LexK.q (q_index _ rfl Fx.sl54 rfl rfl (by omega) (idx_map (f := i64T) hj)) rfl rfl rfl ?_
            refine LexK.q (q_load (.a _) rfl Fx.ty3 rfl rfl rfl) rfl rfl rfl ?_
            refine LexK.q (q_fieldL _ rfl Fx.fl62_2 rfl rfl) rfl rfl rfl ?_
            refine LexK.r (b_load (r := .a _) rfl Fx.ty3 rfl rfl rfl rfl rfl rfl) rfl ?_
            refine LexK.q (q_gtr rfl rfl rfl) rfl rfl rfl ?_
            refine LexK.nil (by kernel_rfl) ?_
            refine AW.condD rfl (fun h54 => ?_) (fun h54 => ?_)
            ·
              refine AW.reg ?_
              refine SeqK.q (q_mvC rfl rfl) rfl rfl rfl ?_
              refine SeqK.q (q_fieldL _ rfl Fx.fl62_2 rfl rfl) rfl rfl rfl ?_
              refine SeqK.r (b_load (r := .a _) rfl Fx.ty3 rfl rfl rfl rfl rfl rfl) rfl ?_
              refine SeqK.q (q_buildSlice _ rfl Fx.el54 rfl (by decide) rfl) rfl rfl rfl ?_
              refine SeqK.app1 rfl (hkt) rfl Fx.el54 rfl rfl (by have hzl : zs.length = out.length := (by rw [hzs, List.length_map]); have := Bool.toNat_le pb; simp; omega) rfl rfl (fun k59 hk59 => ?_)
              refine SeqK.q (q_asC rfl rfl) rfl rfl rfl ?_
              refine SeqK.nil ?_
              refine AW.reg ?_
              refine SeqK.q (q_mvC rfl rfl) rfl rfl rfl ?_
              refine SeqK.q (q_mvC rfl rfl) rfl rfl rfl ?_
              refine SeqK.q (q_mvC rfl rfl) rfl rfl rfl ?_
              refine SeqK.q (q_index _ rfl Fx.sl54 rfl rfl (by omega) (idx_map (f := i64T) hj)) rfl rfl rfl ?_
              refine SeqK.q (q_load (.a _) rfl Fx.ty3 rfl rfl rfl) rfl rfl rfl ?_
              refine SeqK.q (q_buildSlice _ rfl Fx.el54 rfl (by decide) rfl) rfl rfl rfl ?_
              refine SeqK.app1 rfl (by assumption) rfl Fx.el54 rfl rfl (by have hzl : zs.length = out.length := (by rw [hzs, List.length_map]); have := Bool.toNat_le pb; simp; omega) rfl rfl (fun k66 hk66 => ?_)
              refine SeqK.q (q_asC rfl rfl) rfl rfl rfl ?_
              refine SeqK.nil ?_
              refine AW.reg ?_
              refine SeqK.q (q_mvC rfl rfl) rfl rfl rfl ?_
              refine SeqK.q (q_add _ rfl rfl rfl (w64 (by omega) (by omega))) rfl rfl rfl ?_
              refine SeqK.q (q_asC rfl rfl) rfl rfl rfl ?_
              refine SeqK.nil ?_
              exact ⟨j + 1, _, Wk.keep 76 [(1, .c (iL .un L)), (2, .lp 2 0), (4, .c (.a (.t (.v (.slice none 0 0))))), (5, iX .i64 ((i : Nat) : Int)), (6, .lp 6 0), (7, .c (.a (.ts (k66) .ne 1 (zs ++ [i64T (t.ps[i].var)] ++ [i64T (L[j])])))), (8, bX (true)), (9, iX .i64 (((j + 1) : Nat) : Int))] [(2, .box [.t (.v (.int .i64 t.c)), .t (.sl .un 5 (t.ps.map ptT))]), (6, .box [.t (.v (.int .i64 t.ps[i].coef)), .t (.v (.int .i64 t.ps[i].kind)), .t (.v (.int .i64 t.ps[i].var)), .t (.v (.int .i64 t.ps[i].dv)), .t (.sl .un 2 (t.ps[i].of.map tmT))])] (upd H (k66) (some (.tip 3 1 (zs ++ [i64T (t.ps[i].var)] ++ [i64T (L[j])]).length))) rfl ⟨rfl, rfl, rfl, rfl, rfl, rfl, rfl, rfl, trivial⟩ ⟨rfl, rfl, trivial⟩ (fun _ _ h => h) rfl, by omega, k66, out ++ [t.ps[i].var] ++ [L[j]], zs ++ [i64T (t.ps[i].var)] ++ [i64T (L[j])], true, ⟨by omega, hk66, by first | (simp; omega) | (rw [hpb]; simp; omega), (put_i (put_i hzs)), put_ap (e := [t.ps[i].var, L[j]]) (insF_ge hj (by omega) (by omega)) hIf |> (fun h => by rw [← h]; simp)⟩, rfl⟩
            ·
              refine AW.skip ?_
              refine AW.reg ?_
              refine SeqK.q (q_mvC rfl rfl) rfl rfl rfl ?_
              refine SeqK.q (q_mvC rfl rfl) rfl rfl rfl ?_
              refine SeqK.q (q_mvC rfl rfl) rfl rfl rfl ?_
              refine SeqK.q (q_index _ rfl Fx.sl54 rfl rfl (by omega) (idx_map (f := i64T) hj)) rfl rfl rfl ?_
              refine SeqK.q (q_load (.a _) rfl Fx.ty3 rfl rfl rfl) rfl rfl rfl ?_
              refine SeqK.q (q_buildSlice _ rfl Fx.el54 rfl (by decide) rfl) rfl rfl rfl ?_
              refine SeqK.app1 rfl (by assumption) rfl Fx.el54 rfl rfl (by have hzl : zs.length = out.length := (by rw [hzs, List.length_map]); have := Bool.toNat_le pb; simp; omega) rfl rfl (fun k66 hk66 => ?_)
              refine SeqK.q (q_asC rfl rfl) rfl rfl rfl ?_
              refine SeqK.nil ?_
              refine AW.reg ?_
              refine SeqK.q (q_mvC rfl rfl) rfl rfl rfl ?_
              refine SeqK.q (q_add _ rfl rfl rfl (w64 (by omega) (by omega))) rfl rfl rfl ?_
              refine SeqK.q (q_asC rfl rfl) rfl rfl rfl ?_
              refine SeqK.nil ?_
              exact ⟨j + 1, _, Wk.keep 76 [(1, .c (iL .un L)), (2, .lp 2 0), (4, .c (.a (.t (.v (.slice none 0 0))))), (5, iX .i64 ((i : Nat) : Int)), (6, .lp 6 0), (7, .c (.a (.ts (k66) .ne 1 (zs ++ [i64T (L[j])])))), (8, bX (true)), (9, iX .i64 (((j + 1) : Nat) : Int))] [(2, .box [.t (.v (.int .i64 t.c)), .t (.sl .un 5 (t.ps.map ptT))]), (6, .box [.t (.v (.int .i64 t.ps[i].coef)), .t (.v (.int .i64 t.ps[i].kind)), .t (.v (.int .i64 t.ps[i].var)), .t (.v (.int .i64 t.ps[i].dv)), .t (.sl .un 2 (t.ps[i].of.map tmT))])] (upd H (k66) (some (.tip 3 1 (zs ++ [i64T (L[j])]).length))) rfl ⟨rfl, rfl, rfl, rfl, rfl, rfl, rfl, rfl, trivial⟩ ⟨rfl, rfl, trivial⟩ (fun _ _ h => h) rfl, by omega, k66, out ++ [L[j]], zs ++ [i64T (L[j])], true, ⟨by omega, hk66, by first | (simp; omega) | (rw [hpb]; simp; omega), (put_i hzs), put_ap (e := [L[j]]) (insF_eq hj (by omega) (by omega)) hIf⟩, rfl⟩
          ·
            refine AW.skip ?_
            refine AW.reg ?_
            refine SeqK.q (q_mvC rfl rfl) rfl rfl rfl ?_
            refine SeqK.q (q_mvC rfl rfl) rfl rfl rfl ?_
            refine SeqK.q (q_mvC rfl rfl) rfl rfl rfl ?_
            refine SeqK.q (q_index _ rfl Fx.sl54 rfl rfl (by omega) (idx_map (f := i64T) hj)) rfl rfl rfl ?_
            refine SeqK.q (q_load (.a _) rfl Fx.ty3 rfl rfl rfl) rfl rfl rfl ?_
            refine SeqK.q (q_buildSlice _ rfl Fx.el54 rfl (by decide) rfl) rfl rfl rfl ?_
            refine SeqK.app1 rfl (by assumption) rfl Fx.el54 rfl rfl (by have hzl : zs.length = out.length := (by rw [hzs, List.length_map]); have := Bool.toNat_le pb; simp; omega) rfl rfl (fun k66 hk66 => ?_)
            refine SeqK.q (q_asC rfl rfl) rfl rfl rfl ?_
            refine SeqK.nil ?_
            refine AW.reg ?_
            refine SeqK.q (q_mvC rfl rfl) rfl rfl rfl ?_
            refine SeqK.q (q_add _ rfl rfl rfl (w64 (by omega) (by omega))) rfl rfl rfl ?_
            refine SeqK.q (q_asC rfl rfl) rfl rfl rfl ?_
            refine SeqK.nil ?_
            exact ⟨j + 1, _, Wk.keep 76 [(1, .c (iL .un L)), (2, .lp 2 0), (4, .c (.a (.t (.v (.slice none 0 0))))), (5, iX .i64 ((i : Nat) : Int)), (6, .lp 6 0), (7, .c (.a (.ts (k66) .ne 1 (zs ++ [i64T (L[j])])))), (8, bX (pb)), (9, iX .i64 (((j + 1) : Nat) : Int))] [(2, .box [.t (.v (.int .i64 t.c)), .t (.sl .un 5 (t.ps.map ptT))]), (6, .box [.t (.v (.int .i64 t.ps[i].coef)), .t (.v (.int .i64 t.ps[i].kind)), .t (.v (.int .i64 t.ps[i].var)), .t (.v (.int .i64 t.ps[i].dv)), .t (.sl .un 2 (t.ps[i].of.map tmT))])] (upd H (k66) (some (.tip 3 1 (zs ++ [i64T (L[j])]).length))) rfl ⟨rfl, rfl, rfl, rfl, rfl, rfl, rfl, rfl, trivial⟩ ⟨rfl, rfl, trivial⟩ (fun _ _ h => h) rfl, by omega, k66, out ++ [L[j]], zs ++ [i64T (L[j])], pb, ⟨by omega, hk66, by first | (simp; omega) | (rw [hpb]; simp; omega), (put_i hzs), (by rw [hpb]; exact put_ap (e := [L[j]]) (insF_lt hj (by omega)) hIf)⟩, rfl⟩
        ·
          have hpb : pb = true := by simpa using g39
          have hIt : out ++ insF true (L.drop j) t.ps[i].var = insF false L t.ps[i].var := by rw [hpb] at hI2; exact hI2
          have hol2 : out.length ≤ j + 1 := by rw [hpb] at hol; simpa using hol
          refine LexK.off rfl rfl rfl rfl rfl rfl ?_
          refine LexK.off rfl rfl rfl rfl rfl rfl ?_
          refine LexK.off rfl rfl rfl rfl rfl rfl ?_
          refine LexK.off rfl rfl rfl rfl rfl rfl ?_
          refine LexK.off rfl rfl rfl rfl rfl rfl ?_
          refine LexK.off rfl rfl rfl rfl rfl rfl ?_
          refine LexK.off rfl rfl rfl rfl rfl rfl ?_
          refine LexK.q (q_pkF rfl rfl rfl) rfl rfl rfl ?_
          refine LexK.nil (by kernel_rfl) ?_
          refine AW.condF rfl ?_
          refine AW.skip ?_
          refine AW.reg ?_
          refine SeqK.q (q_mvC rfl rfl) rfl rfl rfl ?_
          refine SeqK.q (q_mvC rfl rfl) rfl rfl rfl ?_
          refine SeqK.q (q_mvC rfl rfl) rfl rfl rfl ?_
          refine SeqK.q (q_index _ rfl Fx.sl54 rfl rfl (by omega) (idx_map (f := i64T) hj)) rfl rfl rfl ?_
          refine SeqK.q (q_load (.a _) rfl Fx.ty3 rfl rfl rfl) rfl rfl rfl ?_
          refine SeqK.q (q_buildSlice _ rfl Fx.el54 rfl (by decide) rfl) rfl rfl rfl ?_
          refine SeqK.app1 rfl (by assumption) rfl Fx.el54 rfl rfl (by have hzl : zs.length = out.length := (by rw [hzs, List.length_map]); have := Bool.toNat_le pb; simp; omega) rfl rfl (fun k66 hk66 => ?_)
          refine SeqK.q (q_asC rfl rfl) rfl rfl rfl ?_
          refine SeqK.nil ?_
          refine AW.reg ?_
          refine SeqK.q (q_mvC rfl rfl) rfl rfl rfl ?_
          refine SeqK.q (q_add _ rfl rfl rfl (w64 (by omega) (by omega))) rfl rfl rfl ?_
          refine SeqK.q (q_asC rfl rfl) rfl rfl rfl ?_
          refine SeqK.nil ?_
          exact ⟨j + 1, _, Wk.keep 76 [(1, .c (iL .un L)), (2, .lp 2 0), (4, .c (.a (.t (.v (.slice none 0 0))))), (5, iX .i64 ((i : Nat) : Int)), (6, .lp 6 0), (7, .c (.a (.ts (k66) .ne 1 (zs ++ [i64T (L[j])])))), (8, bX (pb)), (9, iX .i64 (((j + 1) : Nat) : Int))] [(2, .box [.t (.v (.int .i64 t.c)), .t (.sl .un 5 (t.ps.map ptT))]), (6, .box [.t (.v (.int .i64 t.ps[i].coef)), .t (.v (.int .i64 t.ps[i].kind)), .t (.v (.int .i64 t.ps[i].var)), .t (.v (.int .i64 t.ps[i].dv)), .t (.sl .un 2 (t.ps[i].of.map tmT))])] (upd H (k66) (some (.tip 3 1 (zs ++ [i64T (L[j])]).length))) rfl ⟨rfl, rfl, rfl, rfl, rfl, rfl, rfl, rfl, trivial⟩ ⟨rfl, rfl, trivial⟩ (fun _ _ h => h) rfl, by omega, k66, out ++ [L[j]], zs ++ [i64T (L[j])], pb, ⟨by omega, hk66, by first | (simp; omega) | (rw [hpb]; simp; omega), (put_i hzs), (by rw [hpb]; exact put_ap (e := [L[j]]) (insF_on hj) hIt)⟩, rfl⟩
      ·
        refine AW.exit ?_
        refine eth_e ?_
        refine eth_e ?_
        refine exit_here ?_
        refine AW.seq ?_
        refine AW.seq ?_
        have hjl : j = L.length := by rw [List.length_map] at h34; omega
        subst hjl
        rw [List.drop_length] at hI2
        refine AW.reg ?_
        refine SeqK.q (q_mvC rfl rfl) rfl rfl rfl ?_
        refine SeqK.q (q_not rfl rfl) rfl rfl rfl ?_
        refine SeqK.nil ?_
        refine AW.cond _ rfl (fun h68 => ?_) (fun h68 => ?_)
        ·
          have hpb : pb = false := by simpa using h68
          refine AW.reg ?_
          refine SeqK.q (q_mvC rfl rfl) rfl rfl rfl ?_
          refine SeqK.q (q_fieldL _ rfl Fx.fl62_2 rfl rfl) rfl rfl rfl ?_
          refine SeqK.r (b_load (r := .a _) rfl Fx.ty3 rfl rfl rfl rfl rfl rfl) rfl ?_
          refine SeqK.q (q_buildSlice _ rfl Fx.el54 rfl (by decide) rfl) rfl rfl rfl ?_
          refine SeqK.app1 rfl (hkt) rfl Fx.el54 rfl rfl (by have hzl : zs.length = out.length := (by rw [hzs, List.length_map]); have := Bool.toNat_le pb; simp; omega) rfl rfl (fun k73 hk73 => ?_)
          refine SeqK.q (q_asC rfl rfl) rfl rfl rfl ?_
          refine SeqK.nil ?_
          refine AW.reg ?_
          refine SeqK.q (q_mvC rfl rfl) rfl rfl rfl ?_
          refine SeqK.q (q_asC rfl rfl) rfl rfl rfl ?_
          refine SeqK.nil ?_
          refine AW.xw 1 rfl XW.ts ?_
          refine AW.xw 1 rfl XW.un ?_
          refine AW.wk (Wk.keep 76 [(1, .c (iL .un (dd (l ++ colPs (t.ps.take (i + 1)))))), (2, .lp 2 0), (4, .c (.a (.t (.v (.slice none 0 0))))), (5, iX .i64 ((i : Nat) : Int))] [(2, .box [.t (.v (.int .i64 t.c)), .t (.sl .un 5 (t.ps.map ptT))])] (H) rfl ⟨by rw [show colPs (t.ps.take (i + 1)) = colPs (t.ps.take i) ++ [t.ps[i].var] by rw [colPs_take hi, colP_var h24], ← List.append_assoc, ← dd_app (l ++ _), ← hL, ← insF_dd hsL, ← hI2, hpb, hzs]; simp [insF]; first | rfl | exact (ilApp _ _).symm, rfl, rfl, rfl, trivial⟩ ⟨rfl, trivial⟩ (fun q o h => by show upd H _ _ q = _; rw [upd_ne _ _ (fun e => by subst e; simp_all)]; exact h) rfl) ?_
          refine AW.reg ?_
          refine SeqK.q (q_mvC rfl rfl) rfl rfl rfl ?_
          refine SeqK.q (q_add _ rfl rfl rfl (w64 (by omega) (by omega))) rfl rfl rfl ?_
          refine SeqK.q (q_asC rfl rfl) rfl rfl rfl ?_
          refine SeqK.nil ?_
          exact ⟨i + 1, _, Wk.keep 76 [(1, .c (iL .un (dd (l ++ colPs (t.ps.take (i + 1)))))), (2, .lp 2 0), (4, .c (.a (.t (.v (.slice none 0 0))))), (5, iX .i64 (((i + 1) : Nat) : Int))] [(2, .box [.t (.v (.int .i64 t.c)), .t (.sl .un 5 (t.ps.map ptT))])] (H) rfl ⟨rfl, rfl, rfl, rfl, trivial⟩ ⟨rfl, trivial⟩ (fun _ _ h => h) rfl, by omega, hi, rfl⟩
        ·
          have hpb : pb = true := by simpa using h68
          refine AW.skip ?_
          refine AW.reg ?_
          refine SeqK.q (q_mvC rfl rfl) rfl rfl rfl ?_
          refine SeqK.q (q_asC rfl rfl) rfl rfl rfl ?_
          refine SeqK.nil ?_
          refine AW.xw 1 rfl XW.ts ?_
          refine AW.xw 1 rfl XW.un ?_
          refine AW.wk (Wk.keep 76 [(1, .c (iL .un (dd (l ++ colPs (t.ps.take (i + 1)))))), (2, .lp 2 0), (4, .c (.a (.t (.v (.slice none 0 0))))), (5, iX .i64 ((i : Nat) : Int))] [(2, .box [.t (.v (.int .i64 t.c)), .t (.sl .un 5 (t.ps.map ptT))])] (H) rfl ⟨by rw [show colPs (t.ps.take (i + 1)) = colPs (t.ps.take i) ++ [t.ps[i].var] by rw [colPs_take hi, colP_var h24], ← List.append_assoc, ← dd_app (l ++ _), ← hL, ← insF_dd hsL, ← hI2, hpb, hzs]; simp [insF]; first | rfl | exact (ilApp _ _).symm, rfl, rfl, rfl, trivial⟩ ⟨rfl, trivial⟩ (fun q o h => by show upd H _ _ q = _; rw [upd_ne _ _ (fun e => by subst e; simp_all)]; exact h) rfl) ?_
          refine AW.reg ?_
          refine SeqK.q (q_mvC rfl rfl) rfl rfl rfl ?_
          refine SeqK.q (q_add _ rfl rfl rfl (w64 (by omega) (by omega))) rfl rfl rfl ?_
          refine SeqK.q (q_asC rfl rfl) rfl rfl rfl ?_
          refine SeqK.nil ?_
          exact ⟨i + 1, _, Wk.keep 76 [(1, .c (iL .un (dd (l ++ colPs (t.ps.take (i + 1)))))), (2, .lp 2 0), (4, .c (.a (.t (.v (.slice none 0 0))))), (5, iX .i64 (((i + 1) : Nat) : Int))] [(2, .box [.t (.v (.int .i64 t.c)), .t (.sl .un 5 (t.ps.map ptT))])] (H) rfl ⟨rfl, rfl, rfl, rfl, trivial⟩ ⟨rfl, trivial⟩ (fun _ _ h => h) rfl, by omega, hi, rfl⟩
  ·
    refine AW.exit ?_
    refine eth_e ?_
    refine eth_e ?_
    refine exit_here ?_
    refine AW.seq ?_
    have hil : i = t.ps.length := by rw [List.length_map] at h14; omega
    subst hil
    rw [List.take_length, ← colT_eq]
    refine AW.reg ?_
    refine SeqK.q (q_mvC rfl rfl) rfl rfl rfl ?_
    refine SeqK.q (q_asC rfl rfl) rfl rfl rfl ?_
    refine SeqK.nil ?_
    refine AW.ret ?_
    exact fin_x (x := .c _) (H) (.tmp rfl .nil) rfl (fun _ _ h => h) (⟨rfl, rfl⟩)

theorem mark_any (t : Tm) : vldT t = true → ∀ (m : List Int) (y : C), sI m → t.cnt + m.length ≤ 100000 → XW (.c y) (.c (iL .un m)) → Pure Tryd.prog 76 [tmC t, y] (.c (iL .un (dd (m ++ colT t)))) := by
  induction t using Tm.ind with
  | h t ih =>
    intro hv m y hs hN hx
    exact mark_of t m y hs hv hN hx fun p hp o ho hvo m y hs hN hx => ih p hp o ho hvo m y hs hN hx

set_option maxRecDepth 20000 in
theorem rvars_any (t : Tm) (hv : vldT t = true) (hN : t.cnt ≤ 100000) : Pure Tryd.prog 36 [tmC t] (.c (iL .un (vars t))) := by
  intro H
  refine Spec.enter Tryd.func36 rfl ?_
  refine AW.wk (Wk.keep 5 [(0, .c (tmC t))] [] (H) rfl ⟨rfl, trivial⟩ trivial (fun _ _ h => h) rfl) ?_
  refine AW.seq ?_
  refine AW.reg ?_
  refine SeqK.r (b_box (r := [_, _]) rfl rfl rfl rfl rfl rfl) rfl ?_
  refine SeqK.q (q_asC rfl rfl) rfl rfl rfl ?_
  refine SeqK.nil ?_
  refine AW.seq ?_
  refine AW.reg ?_
  refine SeqK.r (b_load (r := .g [_, _]) rfl Fx.ty24 rfl rfl rfl rfl rfl rfl) rfl ?_
  refine SeqK.q (q_call _ rfl Fx.fn76 rfl (mark_any t hv [] _ (by simp [sI]) (by simp; omega) XW.nilI) rfl) rfl rfl rfl ?_
  refine SeqK.q (q_asC rfl rfl) rfl rfl rfl ?_
  refine SeqK.nil ?_
  refine AW.ret ?_
  exact fin_x (x := .c _) (H) (.tmp rfl .nil) rfl (fun _ _ h => h) (⟨rfl, rfl⟩)

end Go.Proofs.YtfbdokfcebpkaaaDoor.W
namespace Go.Proofs.YtfbdokfcebpkaaaDoor.W
open Go.RowKit E M
set_option linter.unusedVariables false
set_option linter.unusedSimpArgs false
set_option linter.unusedSectionVars false
theorem valV_set {r : List RV} {m : Nat} {v0 : RV} {k v : Int} (h0 : 0 ≤ v) (h : v ≠ (m : Int)) : valV (r.set m v0) k v = valV r k v := by
  have e : (r.set m v0).getD v.toNat ⟨0, 0, ⟨#[]⟩⟩ = r.getD v.toNat ⟨0, 0, ⟨#[]⟩⟩ := by
    simp only [List.getD_eq_getElem?_getD, List.getElem?_set]
    rw [if_neg (by omega)]
  unfold valV
  rw [e, List.length_set]
theorem valPs_congr {r r' : List RV} : ∀ {l : List Pt} {s : Int}, (∀ p ∈ l, valP r' p = valP r p) → valPs r' l s = valPs r l s
  | [], s, _ => by rw [valPs, valPs]
  | p :: l, s, h => by
    rw [valPs, valPs, h p (by simp), valPs_congr fun q hq => h q (by simp [hq])]
theorem mem_colPs {p : Pt} {x : Int} : ∀ {l : List Pt}, p ∈ l → x ∈ colP p → x ∈ colPs l
  | q :: r, h, hx => by
    rw [colPs, List.mem_append]
    rcases List.mem_cons.1 h with rfl | h
    · exact .inl hx
    · exact .inr (mem_colPs h hx)
theorem valT_set (r : List RV) (m : Nat) (v0 : RV) (t : Tm) : vldT t = true → (m : Int) ∉ colT t → valT (r.set m v0) t = valT r t := by
  induction t using Tm.ind with
  | h t ih =>
    intro hv hm
    rw [valT_eq, valT_eq]
    refine valPs_congr fun p hp => ?_
    have hk := vldP_vok (vld_parts hv p hp)
    have hn : (m : Int) ∉ colP p := fun h => hm (by rw [colT_eq]; exact mem_colPs hp h)
    rw [valP_eq, valP_eq]
    by_cases h2 : p.kind = 2
    · obtain ⟨_, h0, hvo⟩ := hk.dv h2
      rw [colP_div h2 h0] at hn
      rw [if_pos h2, if_pos h2, valO_eq h0, valO_eq h0, ih p hp _ (List.getElem_mem h0) hvo hn]
    · rw [colP_var h2] at hn
      rw [if_neg h2, if_neg h2, valV_set (hk.var h2) (fun e => hn (by simp [e]))]
theorem rvT_len (v : RV) : (rvT v).length = 3 := rfl
abbrev v7 : RV := ⟨1, 7, ⟨#[]⟩⟩
theorem tk_stepI {l : List Int} {i : Nat} {k : Int} (hi : i < l.length) (h : ∀ x ∈ l.take i, x ≠ k) (hp : ¬ l[i] = k) : ∀ x ∈ l.take (i + 1), x ≠ k := by
  rw [List.take_succ_eq_append_getElem hi]
  intro x hx
  rcases List.mem_append.1 hx with h1 | h1
  · exact h x h1
  · simp at h1; rw [h1]; exact hp

set_option maxRecDepth 20000 in
theorem vars_law (t : Tm) (rt : rgT t) (r : List RV) (z : Nz) (hL : r.length ≤ 4398046511104) (k : Int) (H : Heap) : E.Spec Tryd.prog 11 [tmC t, rowC z r, iC k] H fun x H' => x = bX true := by
  have hL : r.length ≤ 1000000000000000000 := by omega
  refine Spec.enter Tryd.func11 rfl ?_
  refine AW.wk (Wk.keep 93 [(0, .c (tmC t)), (1, .c (rowC z r)), (2, .c (iC k))] [] (H) rfl ⟨rfl, rfl, rfl, trivial⟩ trivial (fun _ _ h => h) rfl) ?_
  refine AW.seq ?_
  refine AW.reg ?_
  refine SeqK.r (b_box (r := [_, _]) rfl rfl rfl rfl rfl rfl) rfl ?_
  refine SeqK.q (q_asC rfl rfl) rfl rfl rfl ?_
  refine SeqK.nil ?_
  refine AW.seq ?_
  refine AW.seq ?_
  refine AW.reg ?_
  refine SeqK.q (q_call _ rfl Fx.fn12 rfl (awake_any) rfl) rfl rfl rfl ?_
  refine SeqK.q (q_not rfl rfl) rfl rfl rfl ?_
  refine SeqK.q (q_mvC rfl rfl) rfl rfl rfl ?_
  refine SeqK.rOn (b_load (r := .g [_, _]) rfl Fx.ty24 rfl rfl rfl rfl rfl rfl) rfl rfl rfl ?_
  refine SeqK.on (q_call _ rfl Fx.fn13 rfl (lsmall_any t rt) rfl) rfl rfl rfl rfl rfl ?_
  refine SeqK.on (q_not rfl rfl) rfl rfl rfl rfl rfl ?_
  refine SeqK.q (q_pkF rfl rfl rfl) rfl rfl rfl ?_
  refine SeqK.qB (q_mvC rfl rfl) rfl rfl rfl (fun g22 => ?_) (fun g22 => ?_)
  ·
    refine SeqK.off rfl rfl rfl rfl rfl rfl ?_
    refine SeqK.off rfl rfl rfl rfl rfl rfl ?_
    refine SeqK.off rfl rfl rfl rfl rfl rfl ?_
    refine SeqK.q (q_pkT rfl rfl rfl) rfl rfl rfl ?_
    refine SeqK.nil ?_
    refine AW.condT rfl ?_
    refine AW.seq ?_
    refine AW.reg ?_
    refine SeqK.q (q_call _ rfl Fx.fn12 rfl (awake_any) rfl) rfl rfl rfl ?_
    refine SeqK.q (q_asC rfl rfl) rfl rfl rfl ?_
    refine SeqK.nil ?_
    refine AW.ret ?_
    exact fin_x (x := .c _) (_) (.tmp rfl .nil) rfl (fun _ _ h => h) (by first | rfl | simp)
  ·
    refine SeqK.on (q_mvC rfl rfl) rfl rfl rfl rfl rfl ?_
    refine SeqK.on (q_call _ rfl Fx.fn22 rfl (row_any r z hL) rfl) rfl rfl rfl rfl rfl ?_
    refine SeqK.on (q_not rfl rfl) rfl rfl rfl rfl rfl ?_
    refine SeqK.q (q_pkF rfl rfl rfl) rfl rfl rfl ?_
    refine SeqK.nil ?_
    refine AW.cond _ rfl (fun h26 => ?_) (fun h26 => ?_)
    ·
      refine AW.seq ?_
      refine AW.reg ?_
      refine SeqK.q (q_call _ rfl Fx.fn12 rfl (awake_any) rfl) rfl rfl rfl ?_
      refine SeqK.q (q_asC rfl rfl) rfl rfl rfl ?_
      refine SeqK.nil ?_
      refine AW.ret ?_
      exact fin_x (x := .c _) (_) (.tmp rfl .nil) rfl (fun _ _ h => h) (by first | rfl | simp)
    ·
      refine AW.skip ?_
      refine AW.seq ?_
      have kt := sm_iff' (by simpa using g22 : smB t = true)
      have hvl := vars_len t
      refine AW.draw Fx.mo ?_
      refine LexK.r (b_load (r := .g [_, _]) rfl Fx.ty24 rfl rfl rfl rfl rfl rfl) rfl ?_
      refine LexK.q (q_call _ rfl Fx.fn35 rfl (vars_any t kt.2 (by have := kt.1; omega)) rfl) rfl rfl rfl ?_
      refine LexK.r (b_load (r := .g [_, _]) rfl Fx.ty24 rfl rfl rfl rfl rfl rfl) rfl ?_
      refine LexK.q (q_call _ rfl Fx.fn36 rfl (rvars_any t kt.2 (by have := kt.1; omega)) rfl) rfl rfl rfl ?_
      refine LexK.q (q_asC rfl rfl) rfl rfl rfl ?_
      refine LexK.q (q_asC rfl rfl) rfl rfl rfl ?_
      refine LexK.nil (by kernel_rfl) ?_
      refine AW.seq ?_
      refine AW.seq ?_
      refine AW.reg ?_
      refine SeqK.q (q_mvC rfl rfl) rfl rfl rfl ?_
      refine SeqK.q (q_len rfl Fx.un54 rfl) rfl rfl rfl ?_
      refine SeqK.q (q_mvC rfl rfl) rfl rfl rfl ?_
      refine SeqK.q (q_len rfl Fx.un54 rfl) rfl rfl rfl ?_
      refine SeqK.q (q_neq rfl rfl rfl) rfl rfl rfl ?_
      refine SeqK.nil ?_
      refine AW.condD rfl (fun h36 => ?_) (fun h36 => ?_)
      ·
        exact absurd rfl h36
      ·
        refine AW.skip ?_
        refine AW.seq ?_
        refine AW.seq ?_
        refine AW.reg ?_
        refine SeqK.q (q_mvC rfl rfl) rfl rfl rfl ?_
        refine SeqK.q (q_len rfl Fx.un54 rfl) rfl rfl rfl ?_
        refine SeqK.q (q_mvC rfl rfl) rfl rfl rfl ?_
        refine SeqK.nil ?_
        refine AW.block ?_
        refine AW.loop (fun (i : Nat) s => (i ≤ (vars t).length ∧ ∀ x ∈ (vars t).take i, x ≠ k) ∧ s = ⟨93, sp [(1, .c (rowC z r)), (2, .c (iC k)), (3, .lp 3 0), (6, bX false), (7, .c (iL .un (vars t))), (8, .c (iL .un (vars t))), (38, iX .i64 ((((vars t).map i64T).length : Nat) : Int)), (39, iX .i64 ((i : Nat) : Int))], lv [(3, .box [.t (.v (.int .i64 t.c)), .t (.sl .un 5 (t.ps.map ptT))])], H⟩) (fun i => (vars t).length - i) 0 ⟨_, Wk.keep 93 [(1, .c (rowC z r)), (2, .c (iC k)), (3, .lp 3 0), (6, bX false), (7, .c (iL .un (vars t))), (8, .c (iL .un (vars t))), (38, iX .i64 ((((vars t).map i64T).length : Nat) : Int)), (39, iX .i64 ((((0 : Nat)) : Nat) : Int))] [(3, .box [.t (.v (.int .i64 t.c)), .t (.sl .un 5 (t.ps.map ptT))])] (H) rfl ⟨rfl, rfl, rfl, rfl, rfl, rfl, rfl, rfl, trivial⟩ ⟨rfl, trivial⟩ (fun _ _ h => h) rfl, ⟨Nat.zero_le _, by simp⟩, rfl⟩ (fun i s hs => ?_)
        obtain ⟨⟨hi0, hnk⟩, rfl⟩ := hs
        refine AW.seq ?_
        refine AW.reg ?_
        refine SeqK.q (q_lss rfl rfl rfl) rfl rfl rfl ?_
        refine SeqK.nil ?_
        refine AW.seq ?_
        refine AW.condD rfl (fun h40 => ?_) (fun h40 => ?_)
        ·
          have hi : i < (vars t).length := by rw [List.length_map] at h40; omega
          refine AW.skip ?_
          refine AW.seq ?_
          refine AW.block ?_
          refine AW.seq ?_
          refine AW.reg ?_
          refine SeqK.q (q_mvC rfl rfl) rfl rfl rfl ?_
          refine SeqK.q (q_asC rfl rfl) rfl rfl rfl ?_
          refine SeqK.nil ?_
          refine AW.seq ?_
          refine AW.seq ?_
          refine AW.draw Fx.mo ?_
          refine LexK.q (q_mvC rfl rfl) rfl rfl rfl ?_
          refine LexK.q (q_mvC rfl rfl) rfl rfl rfl ?_
          refine LexK.q (q_index _ rfl Fx.sl54 rfl rfl (by omega) (idx_map (f := i64T) hi)) rfl rfl rfl ?_
          refine LexK.q (q_load (.a _) rfl Fx.ty3 rfl rfl rfl) rfl rfl rfl ?_
          refine LexK.q (q_mvC rfl rfl) rfl rfl rfl ?_
          refine LexK.q (q_mvC rfl rfl) rfl rfl rfl ?_
          refine LexK.q (q_index _ rfl Fx.sl54 rfl rfl (by omega) (idx_map (f := i64T) hi)) rfl rfl rfl ?_
          refine LexK.q (q_load (.a _) rfl Fx.ty3 rfl rfl rfl) rfl rfl rfl ?_
          refine LexK.q (q_neq rfl rfl rfl) rfl rfl rfl ?_
          refine LexK.nil (by kernel_rfl) ?_
          refine AW.condD rfl (fun h50 => ?_) (fun h50 => ?_)
          ·
            exact absurd rfl h50
          ·
            refine AW.skip ?_
            refine AW.seq ?_
            refine AW.reg ?_
            refine SeqK.q (q_mvC rfl rfl) rfl rfl rfl ?_
            refine SeqK.q (q_mvC rfl rfl) rfl rfl rfl ?_
            refine SeqK.q (q_index _ rfl Fx.sl54 rfl rfl (by omega) (idx_map (f := i64T) hi)) rfl rfl rfl ?_
            refine SeqK.q (q_load (.a _) rfl Fx.ty3 rfl rfl rfl) rfl rfl rfl ?_
            refine SeqK.q (q_mvC rfl rfl) rfl rfl rfl ?_
            refine SeqK.q (q_eql rfl rfl rfl) rfl rfl rfl ?_
            refine SeqK.nil ?_
            refine AW.condD rfl (fun h56 => ?_) (fun h56 => ?_)
            ·
              refine AW.seq ?_
              refine AW.reg ?_
              refine SeqK.q (q_asC rfl rfl) rfl rfl rfl ?_
              refine SeqK.nil ?_
              refine AW.ret ?_
              exact fin_x (x := .c _) (_) (.tmp rfl .nil) rfl (fun _ _ h => h) (by first | rfl | simp)
            ·
              refine AW.skip ?_
              refine AW.reg ?_
              refine SeqK.q (q_add _ rfl rfl rfl (w64 (by omega) (by omega))) rfl rfl rfl ?_
              refine SeqK.q (q_mvC rfl rfl) rfl rfl rfl ?_
              refine SeqK.nil ?_
              exact ⟨i + 1, _, Wk.keep 93 [(1, .c (rowC z r)), (2, .c (iC k)), (3, .lp 3 0), (6, bX false), (7, .c (iL .un (vars t))), (8, .c (iL .un (vars t))), (38, iX .i64 ((((vars t).map i64T).length : Nat) : Int)), (39, iX .i64 (((i + 1) : Nat) : Int))] [(3, .box [.t (.v (.int .i64 t.c)), .t (.sl .un 5 (t.ps.map ptT))])] (H) rfl ⟨rfl, rfl, rfl, rfl, rfl, rfl, rfl, rfl, trivial⟩ ⟨rfl, trivial⟩ (fun _ _ h => h) rfl, by omega, ⟨hi, tk_stepI hi hnk h56⟩, rfl⟩
        ·
          refine AW.exit ?_
          refine eth_e ?_
          refine eth_e ?_
          refine exit_here ?_
          refine AW.seq ?_
          refine AW.seq ?_
          have hil : i = (vars t).length := by rw [List.length_map] at h40; omega
          subst hil
          rw [List.take_length] at hnk
          have hnc : k ∉ colT t := fun h => hnk k (((dd_spec _).2 k).2 h) rfl
          refine AW.reg ?_
          refine SeqK.q (q_mvC rfl rfl) rfl rfl rfl ?_
          refine SeqK.q (q_lss rfl rfl rfl) rfl rfl rfl ?_
          refine SeqK.qD (q_mvC rfl rfl) rfl rfl rfl (fun g60 => ?_) (fun g60 => ?_)
          ·
            refine SeqK.off rfl rfl rfl rfl rfl rfl ?_
            refine SeqK.off rfl rfl rfl rfl rfl rfl ?_
            refine SeqK.off rfl rfl rfl rfl rfl rfl ?_
            refine SeqK.off rfl rfl rfl rfl rfl rfl ?_
            refine SeqK.q (q_pkT rfl rfl rfl) rfl rfl rfl ?_
            refine SeqK.nil ?_
            refine AW.condT rfl ?_
            refine AW.seq ?_
            refine AW.reg ?_
            refine SeqK.q (q_asC rfl rfl) rfl rfl rfl ?_
            refine SeqK.nil ?_
            refine AW.ret ?_
            exact fin_x (x := .c _) (_) (.tmp rfl .nil) rfl (fun _ _ h => h) (by first | rfl | simp)
          ·
            refine SeqK.on (q_mvC rfl rfl) rfl rfl rfl rfl rfl ?_
            refine SeqK.on (q_mvC rfl rfl) rfl rfl rfl rfl rfl ?_
            refine SeqK.on (q_len rfl Fx.un38 rfl) rfl rfl rfl rfl rfl ?_
            refine SeqK.on (q_geq rfl rfl rfl) rfl rfl rfl rfl rfl ?_
            refine SeqK.q (q_pkF rfl rfl rfl) rfl rfl rfl ?_
            refine SeqK.nil ?_
            refine AW.condD rfl (fun h65 => ?_) (fun h65 => ?_)
            ·
              refine AW.seq ?_
              refine AW.reg ?_
              refine SeqK.q (q_asC rfl rfl) rfl rfl rfl ?_
              refine SeqK.nil ?_
              refine AW.ret ?_
              exact fin_x (x := .c _) (_) (.tmp rfl .nil) rfl (fun _ _ h => h) (by first | rfl | simp)
            ·
              refine AW.skip ?_
              refine AW.seq ?_
              obtain ⟨m, rfl⟩ := Int.eq_ofNat_of_zero_le (show 0 ≤ k by omega)
              have hm : m < r.length := by rw [List.length_map] at h65; omega
              refine AW.reg ?_
              refine SeqK.q (q_build0 rfl Fx.el38) rfl rfl rfl ?_
              refine SeqK.q (q_mvC rfl rfl) rfl rfl rfl ?_
              refine SeqK.appZR (es := r.map rvT) rfl rfl Fx.el38 rfl rfl (by simp; omega) rfl rfl (fun k68 hk68 => ?_)
              refine SeqK.q (q_asC rfl rfl) rfl rfl rfl ?_
              refine SeqK.nil ?_
              refine AW.seq ?_
              refine AW.reg ?_
              refine SeqK.q (q_mvC rfl rfl) rfl rfl rfl ?_
              refine SeqK.q (q_mvC rfl rfl) rfl rfl rfl ?_
              refine SeqK.q (q_build2 (zs := [_, _, _]) (r := [_, _, _]) [(0, 1), (1, 1), (2, 1)] _ rfl Fx.ze33 rfl Fx.bp33 rfl rfl rfl rfl) rfl rfl rfl ?_
              refine SeqK.q (q_indexOs _ rfl Fx.sl38 rfl rfl (by omega) (by omega) rfl) rfl rfl rfl ?_
              refine SeqK.r (g_storeR rfl rfl Fx.ty33 rfl rfl (upd_same _ _ _) ((row_st rvT_len hm v7)) rfl (row_in0 rvT_len hm) (by decide)) rfl ?_
              refine SeqK.nil ?_
              refine AW.gh (Gh.freeze k68 3 33 ((r.set m v7).map rvT) (upd_same _ _ _) (fun e he => by obtain ⟨p, _, rfl⟩ := List.mem_map.1 he; rfl) (by decide)) ?_
              rintro s1 rfl
              refine AW.wk (Wk.keep 93 [(1, .c (rowC z r)), (3, .lp 3 0), (6, bX false), (10, .c (rowC .un (r.set m v7)))] [(3, .box [.t (.v (.int .i64 t.c)), .t (.sl .un 5 (t.ps.map ptT))])] (H) rfl ⟨rfl, rfl, rfl, by show fzX _ _ _ (.c (.a (.os k68 0 (r.map rvT).length 3))) = _; rw [show (r.map rvT).length = ((r.set m v7).map rvT).length by simp]; simp [fzX, fzC, fzA], trivial⟩ ⟨rfl, trivial⟩ (fun j o h => by show upd (upd (upd H k68 _) k68 _) k68 none j = _; rw [upd_upd', upd_back hk68]; exact h) rfl) ?_
              refine AW.seq ?_
              refine AW.reg ?_
              refine SeqK.r (b_load (r := .g [_, _]) rfl Fx.ty24 rfl rfl rfl rfl rfl rfl) rfl ?_
              refine SeqK.q (q_mvC rfl rfl) rfl rfl rfl ?_
              refine SeqK.q (q_call _ rfl Fx.fn25 rfl (value_any r z t kt.2 (by have := kt.1; omega)) rfl) rfl rfl rfl ?_
              refine SeqK.q (q_mvT rfl rfl) rfl rfl rfl ?_
              refine SeqK.q (q_extract _ rfl rfl rfl) rfl rfl rfl ?_
              refine SeqK.q (q_extract _ rfl rfl rfl) rfl rfl rfl ?_
              refine SeqK.q (q_asC rfl rfl) rfl rfl rfl ?_
              refine SeqK.q (q_asC rfl rfl) rfl rfl rfl ?_
              refine SeqK.nil ?_
              refine AW.seq ?_
              refine AW.reg ?_
              refine SeqK.r (b_load (r := .g [_, _]) rfl Fx.ty24 rfl rfl rfl rfl rfl rfl) rfl ?_
              refine SeqK.q (q_mvC rfl rfl) rfl rfl rfl ?_
              refine SeqK.q (q_call _ rfl Fx.fn25 rfl ((valT_set r m v7 t kt.2 hnc) ▸ value_any (r.set m v7) .un t kt.2 (by have := kt.1; omega)) rfl) rfl rfl rfl ?_
              refine SeqK.q (q_mvT rfl rfl) rfl rfl rfl ?_
              refine SeqK.q (q_extract _ rfl rfl rfl) rfl rfl rfl ?_
              refine SeqK.q (q_extract _ rfl rfl rfl) rfl rfl rfl ?_
              refine SeqK.q (q_asC rfl rfl) rfl rfl rfl ?_
              refine SeqK.q (q_asC rfl rfl) rfl rfl rfl ?_
              refine SeqK.nil ?_
              refine AW.seq ?_
              refine AW.reg ?_
              refine SeqK.q (q_mvC rfl rfl) rfl rfl rfl ?_
              refine SeqK.q (q_mvC rfl rfl) rfl rfl rfl ?_
              refine SeqK.q (q_eql rfl rfl rfl) rfl rfl rfl ?_
              refine SeqK.qD (q_mvC rfl rfl) rfl rfl rfl (fun g88 => ?_) (fun g88 => ?_)
              ·
                refine SeqK.on (q_mvC rfl rfl) rfl rfl rfl rfl rfl ?_
                refine SeqK.on (q_mvC rfl rfl) rfl rfl rfl rfl rfl ?_
                refine SeqK.on (q_eqlB rfl Fx.un4 rfl rfl) rfl rfl rfl rfl rfl ?_
                refine SeqK.q (q_pkT rfl rfl rfl) rfl rfl rfl ?_
                refine SeqK.q (q_asC rfl rfl) rfl rfl rfl ?_
                refine SeqK.nil ?_
                refine AW.ret ?_
                exact fin_x (x := .c _) (_) (.tmp rfl .nil) rfl (fun _ _ h => h) (by first | rfl | simp)
              ·
                exact absurd rfl g88

end Go.Proofs.YtfbdokfcebpkaaaDoor.W
