import Derived.Test.YtgnnjebfoffphaaGreatDoorM16
set_option maxRecDepth 20000
set_option maxHeartbeats 16000000
set_option linter.unusedSectionVars false
set_option linter.unusedSimpArgs false
set_option linter.unusedVariables false
namespace Go.Proofs.YtgnnjebfoffphaaGreatDoor.Q
open Fx
open Go.RowKit E W M
abbrev sT (s : ByteArray) : List E.T := [.v (.string s)]
abbrev iLT (l : List Int) : List E.T := [.sl .un 1 (l.map i64T)]
abbrev sL (z : Nz) (l : List ByteArray) : C := .a (.t (.sl z 1 (l.map sT)))
theorem iCe {a b : Int} (h : a = b) : X.c (iC a) = X.c (iC b) := by rw [h]
theorem sCe {a b : ByteArray} (h : a = b) : X.c (sC a) = X.c (sC b) := by rw [h]
theorem nd_t {p : Prop} [Decidable p] (h : (!decide p) = true) : ¬ p := by simpa using h
theorem nd_f {p : Prop} [Decidable p] (h : (!decide p) = false) : p := by simpa using h
theorem take_put {α : Type} {l : List α} {i : Nat} (hi : i < l.length) : l.take (i + 1) = l.take i ++ [l[i]] := qJ hi
theorem ba_len (s : ByteArray) : s.data.toList.length = s.size := by rw [Array.length_toList]; rfl
abbrev exsC (z : Nz) (l : List Ex) : C := .a (.t (.sl z 8 (l.map exT')))
theorem args_lt {e a : Ex} (h : a ∈ e.args) : SizeOf.sizeOf a < SizeOf.sizeOf e := by
  cases e with | mk op tb nm ix vk vn vs args =>
  have : SizeOf.sizeOf a < SizeOf.sizeOf args := List.sizeOf_lt_of_mem h
  simp only [Ex.mk.sizeOf_spec]; omega
structure Co where (nm : ByteArray) (ty lo hi mx : Int) (nn : Bool)
structure Fk where (cols : List Int) (tab key : Int)
structure Tb where (nm : ByteArray) (cols : List Co) (keys : List (List Int)) (fks : List Fk) (chks : List Ex)
structure Vr where (ty lo hi mx : Int) (nu : Bool)
structure Rf where (cols : List ByteArray) (tab : ByteArray) (tgt : List ByteArray)
abbrev coT (c : Co) : List E.T := [.v (.string c.nm), .v (.int .i64 c.ty), .v (.int .i64 c.lo), .v (.int .i64 c.hi), .v (.int .i64 c.mx), .v (.bool c.nn)]
abbrev fkT (f : Fk) : List E.T := [.sl .un 1 (f.cols.map i64T), .v (.int .i64 f.tab), .v (.int .i64 f.key)]
abbrev tbT (t : Tb) : List E.T := [.v (.string t.nm), .sl .un 6 (t.cols.map coT), .sl .un 1 (t.keys.map iLT), .sl .un 3 (t.fks.map fkT), .sl .un 8 (t.chks.map exT')]
abbrev vrT (v : Vr) : List E.T := [.v (.int .i64 v.ty), .v (.int .i64 v.lo), .v (.int .i64 v.hi), .v (.int .i64 v.mx), .v (.bool v.nu)]
abbrev sLT (l : List ByteArray) : List E.T := [.sl .un 1 (l.map sT)]
abbrev rfT (f : Rf) : List E.T := [.sl .un 1 (f.cols.map sT), .v (.string f.tab), .sl .un 1 (f.tgt.map sT)]
abbrev coC (c : Co) : C := .g [.t (.v (.string c.nm)), .t (.v (.int .i64 c.ty)), .t (.v (.int .i64 c.lo)), .t (.v (.int .i64 c.hi)), .t (.v (.int .i64 c.mx)), .t (.v (.bool c.nn))]
abbrev tbC (t : Tb) : C := .g [.t (.v (.string t.nm)), .t (.sl .un 6 (t.cols.map coT)), .t (.sl .un 1 (t.keys.map iLT)), .t (.sl .un 3 (t.fks.map fkT)), .t (.sl .un 8 (t.chks.map exT'))]
abbrev scC (z : Nz) (l : List Tb) : C := .a (.t (.sl z 5 (l.map tbT)))
abbrev vsC (z : Nz) (l : List Vr) : C := .a (.t (.sl z 5 (l.map vrT)))
theorem eq_up {α : Type} {a b : List α} (hl : a.length = b.length) (h : ∀ j (h : j < a.length), a[j]? = b[j]?) : a = b := List.ext_getElem? fun j => by
  by_cases hj : j < a.length
  · exact h j hj
  · rw [List.getElem?_eq_none (by omega), List.getElem?_eq_none (by omega)]
abbrev insP (t : Tb) (l : List Int) : Prop := ∀ j (h : j < l.length), 0 ≤ l[j] ∧ l[j] < t.cols.length
abbrev zTb (x : Tb) : List A := [.t (.v (.string x.nm)), .t (.sl .un 6 (x.cols.map coT)), .t (.sl .un 1 (x.keys.map iLT)), .t (.sl .un 3 (x.fks.map fkT)), .t (.sl .un 8 (x.chks.map exT'))]
theorem inside_any (t : Tb) (l : List Int) (z : Nz) (hl : l.length ≤ 17592186044000) : Pu 41 [tbC t, iL z l] (.c (bC (decide (insP t l)))) := by
 intro H
 refine Spec.enter Tryz.func41 rfl ?_
 refine AW.wk (wK 27 (l := [(0, .c (tbC t)), (1, .c (iL z l))]) (ll := []) (H := (H))) ?_
 refine D2 ?_
 refine AW.seq (D1 ?_)
 refine AW.block (AW.loop (fun (i : Nat) s => (i ≤ l.length ∧ ∀ j (h : j < l.length), j < i → 0 ≤ l[j] ∧ l[j] < t.cols.length) ∧ s = ⟨27, sp [(1, .c (iL z l)), (2, .lp 2 0), (4, .c (bC false)), (5, nX i)], lv [(2, .box (zTb t))], H⟩) (fun i => l.length - i) 0 ⟨_, by exact wK 27, ⟨qZ _, up0⟩, rfl⟩ (fun i s hs => ?_))
 obtain ⟨⟨hi0, hU⟩, rfl⟩ := hs
 refine AW.seq (D5 ?_)
 refine cD ?_ ?_ <;> intro h9
 rotate_left
 ·
  refine AW.exit ?_
  refine eth_e ?_
  refine eth_e ?_
  refine exit_here ?_
  refine D1 ?_
  exact aR (fE (e := bCe (dT (upE hU (by rw [qA] at h9; omega)))))
 have hi := oI h9
 refine AW.skip (AW.seq (AW.block (AW.seq (AW.draw mo ?_))))
 refine N4 ?_
 refine lQ (q_lss rfl rfl rfl) ?_
 refine LexK.qD (q_mvC rfl rfl) rfl rfl rfl (fun g17 => ?_) (fun g17 => ?_)
 ·
  iterate 8 refine LexK.off rfl rfl rfl rfl rfl rfl ?_
  refine lQ (q_pkT rfl rfl rfl) ?_
  refine Z43 ?_
  refine AW.condT rfl ?_
  refine D1 ?_
  exact aR (fE (e := bCe (dF (fun h => by have := h i hi; first | omega | (rw [qA] at *; omega)))))
 refine lO (q_mvC rfl rfl) ?_
 refine lO (q_mvC rfl rfl) ?_
 refine lO (q_index _ rfl sl43 rfl rfl (by omega) (idx_map (f := i64T) hi)) ?_
 refine lO (q_load (.a _) rfl ty3 rfl rfl rfl) ?_
 refine lO (q_fieldL _ rfl fl72_1 rfl rfl) ?_
 refine LexK.rOn (b_load (r := .a _) rfl ty24 rfl rfl rfl rfl rfl rfl) rfl rfl rfl ?_
 refine lO (q_len rfl un24 rfl) ?_
 refine lO (q_geq rfl rfl rfl) ?_
 refine lQ (q_pkF rfl rfl rfl) ?_
 refine Z43 ?_
 refine cD ?_ ?_ <;> intro h26
 ·
  refine D1 ?_
  exact aR (fE (e := bCe (dF (fun h => by have := h i hi; first | omega | (rw [qA] at *; omega)))))
 refine AW.skip (B3 ?_)
 exact ⟨i + 1, _, by exact wK 27, by omega, ⟨hi, upS hi hU (by first | omega | (rw [qA] at *; omega) | (simp only [qA] at *; omega))⟩, rfl⟩
theorem texts_any (a b : List ByteArray) (z z2 : Nz) (hl : a.length ≤ 17592186044000) : Pu 130 [.a (.t (.sl z 1 (a.map sT))), .a (.t (.sl z2 1 (b.map sT)))] (.c (bC (decide (a = b)))) := by
 intro H
 refine Spec.enter Tryz.func130 rfl ?_
 refine AW.wk (wK 26 (l := [(0, .c (.a (.t (.sl z 1 (a.map sT))))), (1, .c (.a (.t (.sl z2 1 (b.map sT)))))]) (ll := []) (H := (H))) ?_
 refine D1 ?_
 refine AW.seq (D6 ?_)
 refine cD ?_ ?_ <;> intro h10
 ·
  refine D1 ?_
  exact aR (fE (e := bCe (dF (fun h => h10 (by subst h; simp)))))
 refine AW.skip (AW.seq (AW.seq ?_))
 have hlen : a.length = b.length := by simp only [qA] at h10; omega
 refine B1 ?_
 refine AW.block (AW.loop (fun (i : Nat) s => (i ≤ a.length ∧ ∀ j (h : j < a.length), j < i → a[j]? = b[j]?) ∧ s = ⟨26, sp [(0, .c (.a (.t (.sl z 1 (a.map sT))))), (1, .c (.a (.t (.sl z2 1 (b.map sT))))), (4, .c (bC false)), (5, nX i)], lv [], H⟩) (fun i => a.length - i) 0 ⟨_, by exact wK 26, ⟨qZ _, up0⟩, rfl⟩ (fun i s hs => ?_))
 obtain ⟨⟨hi0, hU⟩, rfl⟩ := hs
 refine AW.seq (D5 ?_)
 refine cD ?_ ?_ <;> intro h14
 ·
  have hi := oI h14
  have hib : i < b.length := by omega
  refine AW.skip (AW.seq (AW.block (AW.seq (AW.draw mo ?_))))
  refine N8 ?_
  refine lQ (q_neqS rfl rfl rfl) ?_
  refine Z43 ?_
  refine cD ?_ ?_ <;> intro h25
  ·
   refine D1 ?_
   exact aR (fE (e := bCe (dF (fun h => h25 (by subst h; rfl)))))
  refine AW.skip (B3 ?_)
  exact ⟨i + 1, _, by exact wK 26, by omega, ⟨hi, upS hi hU (by rw [qF hi, qF hib, show a[i] = b[i] from qY.1 h25])⟩, rfl⟩
 refine AW.exit ?_
 refine eth_e ?_
 refine eth_e ?_
 refine exit_here ?_
 refine D1 ?_
 exact aR (fE (e := bCe (dT (eq_up hlen (upE hU (by rw [qA] at h14; omega))))))
theorem ints_any (a b : List Int) (z z2 : Nz) (hl : a.length ≤ 17592186044000) : Pu 132 [.a (.t (.sl z 1 (a.map i64T))), .a (.t (.sl z2 1 (b.map i64T)))] (.c (bC (decide (a = b)))) := by
 intro H
 refine Spec.enter Tryz.func132 rfl ?_
 refine AW.wk (wK 26 (l := [(0, .c (.a (.t (.sl z 1 (a.map i64T))))), (1, .c (.a (.t (.sl z2 1 (b.map i64T)))))]) (ll := []) (H := (H))) ?_
 refine D1 ?_
 refine AW.seq (D6 ?_)
 refine cD ?_ ?_ <;> intro h10
 ·
  refine D1 ?_
  exact aR (fE (e := bCe (dF (fun h => h10 (by subst h; simp)))))
 refine AW.skip (AW.seq (AW.seq ?_))
 have hlen : a.length = b.length := by simp only [qA] at h10; omega
 refine B1 ?_
 refine AW.block (AW.loop (fun (i : Nat) s => (i ≤ a.length ∧ ∀ j (h : j < a.length), j < i → a[j]? = b[j]?) ∧ s = ⟨26, sp [(0, .c (.a (.t (.sl z 1 (a.map i64T))))), (1, .c (.a (.t (.sl z2 1 (b.map i64T))))), (4, .c (bC false)), (5, nX i)], lv [], H⟩) (fun i => a.length - i) 0 ⟨_, by exact wK 26, ⟨qZ _, up0⟩, rfl⟩ (fun i s hs => ?_))
 obtain ⟨⟨hi0, hU⟩, rfl⟩ := hs
 refine AW.seq (D5 ?_)
 refine cD ?_ ?_ <;> intro h14
 ·
  have hi := oI h14
  have hib : i < b.length := by omega
  refine AW.skip (AW.seq (AW.block (AW.seq (AW.draw mo ?_))))
  refine N8 ?_
  refine lQ (q_neq rfl rfl rfl) ?_
  refine Z43 ?_
  refine cD ?_ ?_ <;> intro h25
  ·
   refine D1 ?_
   exact aR (fE (e := bCe (dF (fun h => h25 (by subst h; rfl)))))
  refine AW.skip (B3 ?_)
  exact ⟨i + 1, _, by exact wK 26, by omega, ⟨hi, upS hi hU (by rw [qF hi, qF hib, show a[i] = b[i] from qY.1 h25])⟩, rfl⟩
 refine AW.exit ?_
 refine eth_e ?_
 refine eth_e ?_
 refine exit_here ?_
 refine D1 ?_
 exact aR (fE (e := bCe (dT (eq_up hlen (upE hU (by rw [qA] at h14; omega))))))
abbrev ndP (l : List ByteArray) : Prop := ∀ j (h : j < l.length), ∀ k (hk : k < j), l[j] ≠ l[k]'(by omega)
theorem twice_any (l : List ByteArray) (z : Nz) (hl : l.length ≤ 17592186044000) : Pu 129 [sL z l] (.c (bC (decide (¬ ndP l)))) := by
  intro H
  refine Spec.enter Tryz.func129 rfl ?_
  refine AW.wk (wK 25 (l := [(0, .c (sL z l))]) (ll := []) (H := (H))) ?_
  refine D1 ?_
  refine AW.seq (D1 ?_)
  refine AW.block (AW.loop (fun (i : Nat) s => (i ≤ l.length ∧ ∀ j (h : j < l.length), j < i → ∀ k (hk : k < j), l[j] ≠ l[k]'(by omega)) ∧ s = ⟨25, sp [(0, .c (sL z l)), (2, .c (bC false)), (3, nX i)], lv [], H⟩) (fun i => l.length - i) 0 ⟨_, by exact wK 25, ⟨qZ _, up0⟩, rfl⟩ (fun i s hs => ?_))
  obtain ⟨⟨hi0, hU⟩, rfl⟩ := hs
  refine AW.seq (D5 ?_)
  refine cD ?_ ?_ <;> intro h8
  ·
    have hi := oI h8
    refine AW.skip (AW.seq (AW.block (D1 ?_)))
    refine AW.block (AW.loop (fun (j : Nat) s => (j ≤ i ∧ ∀ k (hk : k < j) (hi : k < i), l[i] ≠ l[k]'(by omega)) ∧ s = ⟨25, sp [(0, .c (sL z l)), (2, .c (bC false)), (3, nX i), (4, nX j)], lv [], H⟩) (fun j => i - j) 0 ⟨_, by exact wK 25, ⟨qZ _, fun k hk => absurd hk (Nat.not_lt_zero k)⟩, rfl⟩ (fun j s hs => ?_))
    obtain ⟨⟨hj0, hV⟩, rfl⟩ := hs
    refine AW.seq (D4 ?_)
    refine cD ?_ ?_ <;> intro h13
    ·
      have hj : j < i := by omega
      have hjl : j < l.length := by omega
      refine AW.skip (AW.seq (AW.block (AW.seq (AW.draw mo ?_))))
      refine N8 ?_
      refine lQ (q_eqlS rfl rfl rfl) ?_
      refine Z43 ?_
      refine cD ?_ ?_ <;> intro h24
      ·
        refine D1 ?_
        exact aR (fE (e := bCe (dT (fun h => h i hi j hj h24))))
      ·
        refine AW.skip (B3 ?_)
        exact ⟨j + 1, _, Wk.keep 25 [(0, .c (sL z l)), (2, .c (bC false)), (3, nX i), (4, iX .i64 (((j + 1) : Nat) : Int))] [] (H) rfl ⟨rfl, rfl, rfl, rfl, trivial⟩ trivial (fun _ _ h => h) rfl, by omega, ⟨by omega, fun k hk hki => by
          by_cases e : k = j
          · subst e; exact h24
          · exact hV k (by omega) hki⟩, rfl⟩
    ·
      refine AW.exit ?_
      refine eth_e ?_
      refine eth_e ?_
      refine exit_here ?_
      have hVV : ∀ k (hk : k < i), l[i] ≠ l[k]'(by omega) := fun k hk => hV k (by omega) hk
      refine B3 ?_
      exact ⟨i + 1, _, by exact wK 25, by omega, ⟨hi, upS hi hU (hVV)⟩, rfl⟩
  ·
    refine AW.exit ?_
    refine eth_e ?_
    refine eth_e ?_
    refine exit_here ?_
    refine D1 ?_
    exact aR (fE (e := bCe (dF (fun h => h (upE hU (by rw [qA] at h8; omega))))))
abbrev fewP (n : Int) (l : List ByteArray) : Prop := (∀ j (h : j < l.length), l[j].size ≤ 60) ∧ n ≤ 20 ∧ l.length ≤ 20
theorem few_any (n : Int) (l : List ByteArray) (z : Nz) (hl : l.length ≤ 17592186044000) : Pu 40 [iC n, sL z l] (.c (bC (decide (fewP n l)))) := by
 intro H
 refine Spec.enter Tryz.func40 rfl ?_
 refine AW.wk (wK 25 (l := [(0, .c (iC n)), (1, .c (sL z l))]) (ll := []) (H := (H))) ?_
 refine D1 ?_
 refine AW.seq (D1 ?_)
 refine AW.block (AW.loop (fun (i : Nat) s => (i ≤ l.length ∧ ∀ j (h : j < l.length), j < i → l[j].size ≤ 60) ∧ s = ⟨25, sp [(0, .c (iC n)), (1, .c (sL z l)), (4, .c (bC false)), (5, nX i)], lv [], H⟩) (fun i => l.length - i) 0 ⟨_, by exact wK 25, ⟨qZ _, up0⟩, rfl⟩ (fun i s hs => ?_))
 obtain ⟨⟨hi0, hU⟩, rfl⟩ := hs
 refine AW.seq (D5 ?_)
 refine cD ?_ ?_ <;> intro h9
 ·
  have hi := oI h9
  refine AW.skip (AW.seq (AW.block (D7 ?_)))
  refine cD ?_ ?_ <;> intro h17
  ·
   refine D1 ?_
   exact aR (fE (e := bCe (dF (fun h => by have := h.1 i hi; omega))))
  refine AW.skip (B3 ?_)
  exact ⟨i + 1, _, by exact wK 25, by omega, ⟨hi, upS hi hU (by omega)⟩, rfl⟩
 refine AW.exit ?_
 refine eth_e ?_
 refine eth_e ?_
 refine exit_here ?_
 refine AW.seq ?_
 have hA := upE hU (by rw [qA] at h9; omega)
 refine B1 ?_
 refine sQ (q_leq rfl rfl rfl) ?_
 refine Z17 ?_ ?_ <;> intro g20
 ·
  refine G5 ?_
  exact aR (fE (e := bCe (dI ⟨fun h => ⟨hA, by omega, by rw [qA] at h; omega⟩, fun h => by have := h.2.2; rw [qA]; omega⟩)))
 iterate 3 refine oF ?_
 refine G2 ?_
 exact aR (fE (e := bCe (dF (fun h => by have := h.2.1; omega))))
def fstI {α : Type} (f : α → ByteArray) (s : ByteArray) : List α → Option Nat
  | [] => none
  | a :: r => if f a = s then some 0 else (fstI f s r).map (· + 1)
theorem fstI_app {α : Type} {f : α → ByteArray} {s : ByteArray} {b : List α} : ∀ {a : List α}, (∀ x ∈ a, f x ≠ s) → fstI f s (a ++ b) = (fstI f s b).map (a.length + ·)
  | [], _ => by simp
  | x :: a, h => by
    rw [List.cons_append, fstI, if_neg (h x (by simp)), fstI_app fun y hy => h y (by simp [hy]), Option.map_map]
    congr 1
    funext n; simp only [Function.comp, qM]; omega
theorem fstI_hit {α : Type} {f : α → ByteArray} {s : ByteArray} {l : List α} {i : Nat} (hi : i < l.length) (h : ∀ j (hj : j < l.length), j < i → f l[j] ≠ s) (e : f l[i] = s) : fstI f s l = some i := by
  have h1 : l = l.take i ++ l.drop i := (List.take_append_drop i l).symm
  rw [h1, fstI_app (fun x hx => by
    obtain ⟨j, hj, rfl⟩ := qN.1 hx
    rw [List.length_take] at hj
    rw [List.getElem_take]; exact h j (by omega) (by omega)), qH hi, fstI, if_pos e, Option.map_some, List.length_take, Nat.min_eq_left (by omega)]
  rfl
theorem fstI_no {α : Type} {f : α → ByteArray} {s : ByteArray} {l : List α} (h : ∀ j (hj : j < l.length), f l[j] ≠ s) : fstI f s l = none := by
  have := fstI_app (f := f) (s := s) (a := l) (b := []) fun x hx => by
    obtain ⟨j, hj, rfl⟩ := qN.1 hx; exact h j hj
  rw [List.append_nil] at this
  rw [this]; rfl
abbrev optX (o : Option Nat) : X := .tup [iC ((o.getD 0 : Nat) : Int), bC o.isSome]
theorem find_any (d : List Tb) (z : Nz) (u : ByteArray) (hl : d.length ≤ 17592186044000) : Pu 98 [scC z d, sC u] (optX (fstI Tb.nm u d)) := by
 intro H
 refine Spec.enter Tryz.func98 rfl ?_
 refine AW.wk (wK 21 (l := [(0, .c (scC z d)), (1, .c (sC u))]) (ll := []) (H := (H))) ?_
 refine D2 ?_
 refine AW.seq (D1 ?_)
 refine AW.block (AW.loop (fun (i : Nat) s => (i ≤ d.length ∧ ∀ j (h : j < d.length), j < i → Tb.nm d[j] ≠ u) ∧ s = ⟨21, sp [(0, .c (scC z d)), (1, .c (sC u)), (4, .c (iC 0)), (5, .c (bC false)), (6, nX i)], lv [], H⟩) (fun i => d.length - i) 0 ⟨_, by exact wK 21, ⟨qZ _, up0⟩, rfl⟩ (fun i s hs => ?_))
 obtain ⟨⟨hi0, hU⟩, rfl⟩ := hs
 refine AW.seq (D5 ?_)
 refine cD ?_ ?_ <;> intro h10
 ·
  have hi := oI h10
  refine AW.skip (AW.seq (AW.block (D6 ?_)))
  refine sQ (q_eqlS rfl rfl rfl) ?_
  refine Z4 ?_
  refine cD ?_ ?_ <;> intro h19
  ·
   refine D3 ?_
   exact aR (f2 (.tmp rfl (.tmp rfl .nil)) (⟨by rw [fstI_hit (f := Tb.nm) hi hU h19]; rfl, rfl⟩))
  refine AW.skip (B3 ?_)
  exact ⟨i + 1, _, by exact wK 21, by omega, ⟨hi, upS hi hU (h19)⟩, rfl⟩
 refine AW.exit ?_
 refine eth_e ?_
 refine eth_e ?_
 refine exit_here ?_
 refine D2 ?_
 exact aR (f2 (.tmp rfl (.tmp rfl .nil)) (⟨by rw [fstI_no (f := Tb.nm) (upE hU (by rw [qA] at h10; omega))]; rfl, rfl⟩))
theorem column_no (t : Tb) (u : ByteArray) (hl : t.cols.length ≤ 17592186044000) : Pu 54 [tbC t, sC u] (optX (fstI Co.nm u t.cols)) := by
 intro H
 refine Spec.enter Tryz.func54 rfl ?_
 refine AW.wk (wK 23 (l := [(0, .c (tbC t)), (1, .c (sC u))]) (ll := []) (H := (H))) ?_
 refine D3 ?_
 refine AW.seq (D1 ?_)
 refine AW.block (AW.loop (fun (i : Nat) s => (i ≤ t.cols.length ∧ ∀ j (h : j < t.cols.length), j < i → Co.nm t.cols[j] ≠ u) ∧ s = ⟨23, sp [(1, .c (sC u)), (2, .lp 2 0), (4, .c (iC 0)), (5, .c (bC false)), (6, nX i)], lv [(2, .box (zTb t))], H⟩) (fun i => t.cols.length - i) 0 ⟨_, by exact wK 23, ⟨qZ _, up0⟩, rfl⟩ (fun i s hs => ?_))
 obtain ⟨⟨hi0, hU⟩, rfl⟩ := hs
 refine AW.seq (D6 ?_)
 refine cD ?_ ?_ <;> intro h11
 ·
  have hi := oI h11
  refine AW.skip (AW.seq (AW.block (D7 ?_)))
  refine sQ (q_eqlS rfl rfl rfl) ?_
  refine Z4 ?_
  refine cD ?_ ?_ <;> intro h21
  ·
   refine D3 ?_
   exact aR (f2 (.tmp rfl (.tmp rfl .nil)) (⟨by rw [fstI_hit (f := Co.nm) hi hU h21]; rfl, rfl⟩))
  refine AW.skip (B3 ?_)
  exact ⟨i + 1, _, by exact wK 23, by omega, ⟨hi, upS hi hU (h21)⟩, rfl⟩
 refine AW.exit ?_
 refine eth_e ?_
 refine eth_e ?_
 refine exit_here ?_
 refine D2 ?_
 exact aR (f2 (.tmp rfl (.tmp rfl .nil)) (⟨by rw [fstI_no (f := Co.nm) (upE hU (by rw [qA] at h11; omega))]; rfl, rfl⟩))
abbrev ctnAt (s t : ByteArray) (i : Nat) : Prop := (s.extract i (i + t.size)) = t
abbrev ctnP (s t : ByteArray) : Prop := ∀ j (h : j < s.size + 1 - t.size), ¬ ctnAt s t j
theorem contains_any (u t : ByteArray) (hs : u.size ≤ 1000000) (ht : t.size ≤ 1000000) : Pu 161 [sC u, sC t] (.c (bC (decide (¬ ctnP u t)))) := by
 intro H
 refine Spec.enter Tryz.func161 rfl ?_
 refine AW.wk (wK 24 (l := [(0, .c (sC u)), (1, .c (sC t))]) (ll := []) (H := (H))) ?_
 refine D1 ?_
 refine AW.seq (D1 ?_)
 refine AW.block (AW.loop (fun (i : Nat) s => (i ≤ u.size + 1 - t.size ∧ ∀ j (h : j < u.size + 1 - t.size), j < i → ¬ ctnAt u t j) ∧ s = ⟨24, sp [(0, .c (sC u)), (1, .c (sC t)), (4, .c (bC false)), (5, nX i)], lv [], H⟩) (fun i => u.size + 1 - t.size - i) 0 ⟨_, by exact wK 24, ⟨qZ _, up0⟩, rfl⟩ (fun i s hs => ?_))
 obtain ⟨⟨hi0, hU⟩, rfl⟩ := hs
 refine AW.seq (D6 ?_)
 refine sQ (q_leq rfl rfl rfl) ?_
 refine Z4 ?_
 refine cD ?_ ?_ <;> intro h12
 ·
  have hi : i < u.size + 1 - t.size := by omega
  refine AW.skip (AW.seq (AW.block (D5 ?_)))
  refine sQ (q_add _ rfl rfl rfl ((by rw [w64 (by omega) (by omega)]; omega : IntKind.i64.wrap _ = ((i + t.size : Nat) : Int)))) ?_
  refine sQ (q_cutS i (i + t.size) (u.extract i (i + t.size)) rfl un9 rfl (by first | rfl | exact ⟨_, rfl⟩) (by first | rfl | exact ⟨_, rfl⟩) (by omega) (by omega) rfl) ?_
  refine sM ?_
  refine sQ (q_eqlS rfl rfl rfl) ?_
  refine Z4 ?_
  refine cD ?_ ?_ <;> intro h23
  ·
   refine D1 ?_
   exact aR (fE (e := bCe (dT (fun h => h i hi h23))))
  refine AW.skip (B3 ?_)
  exact ⟨i + 1, _, by exact wK 24, by omega, ⟨hi, upS hi hU h23⟩, rfl⟩
 refine AW.exit ?_
 refine eth_e ?_
 refine eth_e ?_
 refine exit_here ?_
 refine D1 ?_
 exact aR (fE (e := bCe (dF (fun h => h (upE hU (by omega))))))
def kwd : ByteArray := ⟨#[32, 97, 110, 100, 32, 97, 115, 32, 97, 115, 99, 32, 98, 101, 103, 105, 110, 32, 98, 101, 116, 119, 101, 101, 110, 32, 98, 121, 32, 99, 104, 101, 99, 107, 32, 99, 111, 109, 109, 105, 116, 32, 99, 111, 117, 110, 116, 32, 99, 114, 101, 97, 116, 101, 32, 100, 101, 108, 101, 116, 101, 32, 100, 101, 115, 99, 32, 102, 111, 114, 101, 105, 103, 110, 32, 102, 114, 111, 109, 32, 103, 114, 111, 117, 112, 32, 105, 110, 32, 105, 110, 115, 101, 114, 116, 32, 105, 110, 116, 101, 103, 101, 114, 32, 105, 110, 116, 111, 32, 105, 115, 32, 106, 111, 105, 110, 32, 107, 101, 121, 32, 108, 101, 110, 103, 116, 104, 32, 108, 105, 107, 101, 32, 108, 105, 109, 105, 116, 32, 109, 97, 120, 32, 109, 105, 110, 32, 110, 111, 116, 32, 110, 117, 108, 108, 32, 111, 110, 32, 111, 114, 32, 111, 114, 100, 101, 114, 32, 112, 114, 105, 109, 97, 114, 121, 32, 114, 101, 102, 101, 114, 101, 110, 99, 101, 115, 32, 114, 101, 108, 101, 97, 115, 101, 32, 114, 111, 108, 108, 98, 97, 99, 107, 32, 115, 97, 118, 101, 112, 111, 105, 110, 116, 32, 115, 101, 108, 101, 99, 116, 32, 115, 101, 116, 32, 115, 117, 109, 32, 116, 97, 98, 108, 101, 32, 116, 101, 120, 116, 32, 116, 111, 32, 117, 110, 105, 113, 117, 101, 32, 117, 112, 100, 97, 116, 101, 32, 118, 97, 108, 117, 101, 115, 32, 119, 104, 101, 114, 101, 32]⟩
def spc : ByteArray := ⟨#[32]⟩
theorem kwd_size : kwd.size = 270 := by decide +kernel
theorem idx_ba {u : ByteArray} {i : Nat} (h : i < u.data.toList.length) : u.data.toList[((i : Nat) : Int).toNat]? = some u.data.toList[i] := by
  rw [Int.toNat_natCast]; exact qF h
abbrev chrP (b : UInt8) : Prop := (97 ≤ b.toNat ∧ b.toNat ≤ 122) ∨ (48 ≤ b.toNat ∧ b.toNat ≤ 57) ∨ b.toNat = 95
abbrev nmeP (u : ByteArray) : Prop := (1 ≤ u.size ∧ u.size ≤ 24) ∧ (∀ h : 0 < u.data.toList.length, 97 ≤ u.data.toList[0].toNat ∧ u.data.toList[0].toNat ≤ 122) ∧ (∀ j (h : j < u.data.toList.length), chrP u.data.toList[j]) ∧ ctnP kwd (spc ++ u ++ spc)
instance : DecidablePred nmeP := fun u => @instDecidableAnd _ _ inferInstance (@instDecidableAnd _ _ inferInstance inferInstance)
theorem keywords_any  : Pu 162 [] (.c (sC kwd)) := by
 intro H
 refine Spec.enter Tryz.func162 rfl ?_
 refine AW.wk (wK 1 (l := []) (ll := []) (H := (H))) ?_
 refine D1 ?_
 refine D1 ?_
 exact aR (fin_x (x := .c _) H (.tmp rfl .nil) rfl (fun _ _ h => h) ⟨rfl, rfl⟩)
theorem name_any (u : ByteArray) (hu : u.size ≤ 1000000000000000) : Pu 127 [sC u] (.c (bC (decide (nmeP u)))) := by
  intro H
  refine Spec.enter Tryz.func127 rfl ?_
  refine AW.wk (wK 63 (l := [(0, .c (sC u))]) (ll := []) (H := (H))) ?_
  refine D1 ?_
  refine AW.seq (AW.seq ?_)
  have hl := ba_len u
  have e1 : spc.size = 1 := rfl
  have e2 : (⟨#[32]⟩ : ByteArray).size = 1 := rfl
  refine B3 ?_
  refine Z17 ?_ ?_ <;> intro g7
  ·
    iterate 3 refine oF ?_
    refine G2 ?_
    iterate 3 refine oF ?_
    refine G2 ?_
    iterate 3 refine oF ?_
    refine G2 ?_
    refine AW.condT rfl ?_
    refine D1 ?_
    exact aR (fE (e := bCe (dF (fun h => by first | (have := h.1; omega) | (have h9 := h.2.1 h0; omega)))))
  ·
    refine G4 ?_
    refine Z17 ?_ ?_ <;> intro g12
    ·
      iterate 3 refine oF ?_
      refine G2 ?_
      iterate 3 refine oF ?_
      refine G2 ?_
      refine AW.condT rfl ?_
      refine D1 ?_
      exact aR (fE (e := bCe (dF (fun h => by first | (have := h.1; omega) | (have h9 := h.2.1 h0; omega)))))
    ·
      have h0 : 0 < u.data.toList.length := by omega
      refine Z14 ?_
      refine Z34 un9 (idx_ba (i := 0) h0) ?_
      refine sO (q_lss rfl rfl rfl) ?_
      refine Z6 ?_
      refine Z17 ?_ ?_ <;> intro g17
      ·
        iterate 3 refine oF ?_
        refine G2 ?_
        refine AW.condT rfl ?_
        refine D1 ?_
        exact aR (fE (e := bCe (dF (fun h => by first | (have := h.1; omega) | (have h9 := h.2.1 h0; omega)))))
      ·
        refine Z14 ?_
        refine Z34 un9 (idx_ba (i := 0) h0) ?_
        refine G3 ?_
        refine cD ?_ ?_ <;> intro h21
        ·
          refine D1 ?_
          exact aR (fE (e := bCe (dF (fun h => by first | (have := h.1; omega) | (have h9 := h.2.1 h0; omega)))))
        ·
          refine AW.skip (AW.seq (AW.seq ?_))
          have hsz : 1 ≤ u.size ∧ u.size ≤ 24 := by omega
          have hfst : 97 ≤ u.data.toList[0].toNat ∧ u.data.toList[0].toNat ≤ 122 := by omega
          refine B1 ?_
          refine AW.block (AW.loop (fun (i : Nat) s => (i ≤ u.data.toList.length ∧ ∀ j (h : j < u.data.toList.length), j < i → chrP u.data.toList[j]) ∧ s = ⟨63, sp [(0, .c (sC u)), (2, .c (bC false)), (3, nX i)], lv [], H⟩) (fun i => u.data.toList.length - i) 0 ⟨_, by exact wK 63, ⟨qZ _, up0⟩, rfl⟩ (fun i s hs => ?_))
          obtain ⟨⟨hi0, hU⟩, rfl⟩ := hs
          refine AW.seq (D5 ?_)
          refine cD ?_ ?_ <;> intro h25
          ·
            have hi : i < u.data.toList.length := by omega
            refine AW.skip (AW.seq (AW.block (D2 ?_)))
            refine Z58 un9 (idx_ba hi) ?_
            refine Z56 ?_
            refine Z17 ?_ ?_ <;> intro g32
            ·
              refine G2 ?_
              refine Z34 un9 (idx_ba hi) ?_
              refine G2 ?_
              refine Z17 ?_ ?_ <;> intro g38
              ·
                iterate 5 refine oF ?_
                iterate 4 refine oU ?_
                refine G3 ?_
                iterate 4 refine oF ?_
                refine G3 ?_
                refine AW.condF rfl ?_
                refine AW.skip (B3 ?_)
                exact ⟨i + 1, _, by exact wK 63, by omega, ⟨hi, upS hi hU (by show (_ ∧ _) ∨ (_ ∧ _) ∨ _ = _; omega)⟩, rfl⟩
              ·
                refine G2 ?_
                refine Z34 un9 (idx_ba hi) ?_
                refine sO (q_geq rfl rfl rfl) ?_
                refine Z48 ?_ ?_ <;> intro g43
                ·
                  refine G2 ?_
                  refine Z34 un9 (idx_ba hi) ?_
                  refine G3 ?_
                  refine Z17 ?_ ?_ <;> intro g50
                  ·
                    iterate 4 refine oF ?_
                    refine G3 ?_
                    refine AW.condF rfl ?_
                    refine AW.skip (B3 ?_)
                    exact ⟨i + 1, _, by exact wK 63, by omega, ⟨hi, upS hi hU (by show (_ ∧ _) ∨ (_ ∧ _) ∨ _ = _; omega)⟩, rfl⟩
                  ·
                    refine G2 ?_
                    refine Z34 un9 (idx_ba hi) ?_
                    refine G4 ?_
                    refine AW.cond _ rfl (fun h56 => ?_) (fun h56 => ?_)
                    ·
                      have h57 := nd_t h56
                      refine D1 ?_
                      exact aR (fE (e := bCe (dF (fun h => by have h9 : (97 ≤ u.data.toList[i].toNat ∧ u.data.toList[i].toNat ≤ 122) ∨ (48 ≤ u.data.toList[i].toNat ∧ u.data.toList[i].toNat ≤ 57) ∨ u.data.toList[i].toNat = 95 := h.2.2.1 i hi; omega))))
                    ·
                      have h57 := nd_f h56
                      refine AW.skip (B3 ?_)
                      exact ⟨i + 1, _, by exact wK 63, by omega, ⟨hi, upS hi hU (by show (_ ∧ _) ∨ (_ ∧ _) ∨ _ = _; omega)⟩, rfl⟩
                ·
                  iterate 4 refine oF ?_
                  refine G5 ?_
                  refine Z34 un9 (idx_ba hi) ?_
                  refine G4 ?_
                  refine AW.cond _ rfl (fun h56 => ?_) (fun h56 => ?_)
                  ·
                    have h57 := nd_t h56
                    refine D1 ?_
                    exact aR (fE (e := bCe (dF (fun h => by have h9 : (97 ≤ u.data.toList[i].toNat ∧ u.data.toList[i].toNat ≤ 122) ∨ (48 ≤ u.data.toList[i].toNat ∧ u.data.toList[i].toNat ≤ 57) ∨ u.data.toList[i].toNat = 95 := h.2.2.1 i hi; omega))))
                  ·
                    have h57 := nd_f h56
                    refine AW.skip (B3 ?_)
                    exact ⟨i + 1, _, by exact wK 63, by omega, ⟨hi, upS hi hU (by show (_ ∧ _) ∨ (_ ∧ _) ∨ _ = _; omega)⟩, rfl⟩
            ·
              iterate 4 refine oF ?_
              refine G4 ?_
              refine Z34 un9 (idx_ba hi) ?_
              refine sO (q_geq rfl rfl rfl) ?_
              refine Z48 ?_ ?_ <;> intro g43
              ·
                refine G2 ?_
                refine Z34 un9 (idx_ba hi) ?_
                refine G3 ?_
                refine Z17 ?_ ?_ <;> intro g50
                ·
                  iterate 4 refine oF ?_
                  refine G3 ?_
                  refine AW.condF rfl ?_
                  refine AW.skip (B3 ?_)
                  exact ⟨i + 1, _, by exact wK 63, by omega, ⟨hi, upS hi hU (by show (_ ∧ _) ∨ (_ ∧ _) ∨ _ = _; omega)⟩, rfl⟩
                ·
                  refine G2 ?_
                  refine Z34 un9 (idx_ba hi) ?_
                  refine G4 ?_
                  refine AW.cond _ rfl (fun h56 => ?_) (fun h56 => ?_)
                  ·
                    have h57 := nd_t h56
                    refine D1 ?_
                    exact aR (fE (e := bCe (dF (fun h => by have h9 : (97 ≤ u.data.toList[i].toNat ∧ u.data.toList[i].toNat ≤ 122) ∨ (48 ≤ u.data.toList[i].toNat ∧ u.data.toList[i].toNat ≤ 57) ∨ u.data.toList[i].toNat = 95 := h.2.2.1 i hi; omega))))
                  ·
                    have h57 := nd_f h56
                    refine AW.skip (B3 ?_)
                    exact ⟨i + 1, _, by exact wK 63, by omega, ⟨hi, upS hi hU (by show (_ ∧ _) ∨ (_ ∧ _) ∨ _ = _; omega)⟩, rfl⟩
              ·
                iterate 4 refine oF ?_
                refine G5 ?_
                refine Z34 un9 (idx_ba hi) ?_
                refine G4 ?_
                refine AW.cond _ rfl (fun h56 => ?_) (fun h56 => ?_)
                ·
                  have h57 := nd_t h56
                  refine D1 ?_
                  exact aR (fE (e := bCe (dF (fun h => by have h9 : (97 ≤ u.data.toList[i].toNat ∧ u.data.toList[i].toNat ≤ 122) ∨ (48 ≤ u.data.toList[i].toNat ∧ u.data.toList[i].toNat ≤ 57) ∨ u.data.toList[i].toNat = 95 := h.2.2.1 i hi; omega))))
                ·
                  have h57 := nd_f h56
                  refine AW.skip (B3 ?_)
                  exact ⟨i + 1, _, by exact wK 63, by omega, ⟨hi, upS hi hU (by show (_ ∧ _) ∨ (_ ∧ _) ∨ _ = _; omega)⟩, rfl⟩
          ·
            refine AW.exit ?_
            refine eth_e ?_
            refine eth_e ?_
            refine exit_here ?_
            refine AW.seq ?_
            have hA := upE hU (by omega)
            refine AW.reg (Z16 fn162 (keywords_any) ?_)
            refine sM ?_
            refine sQ (q_addS rfl rfl rfl (by omega)) ?_
            refine sQ (q_addS rfl rfl rfl (by simp only [qE]; omega)) ?_
            refine sQ (q_call _ rfl fn161 rfl (contains_any kwd (spc ++ u ++ spc) (by rw [kwd_size]; omega) (by rw [qE, qE]; omega)) rfl) ?_
            refine G2 ?_
            refine AW.ret ?_
            exact f1 (q := ⟨bCe (by
              by_cases hk : ctnP kwd (spc ++ u ++ spc)
              · rw [jI (fun h => h hk)]; exact dT ⟨hsz, fun _ => hfst, hA, hk⟩
              · rw [jH hk]; exact dF (fun h => hk h.2.2.2)), rfl⟩)
abbrev colP (c : Co) : Prop := nmeP c.nm ∧ ((c.ty = 1 ∧ -2147483648 ≤ c.lo ∧ c.lo ≤ c.hi ∧ c.hi ≤ 2147483647 ∧ c.mx = 0) ∨ (c.ty = 2 ∧ 1 ≤ c.mx ∧ c.mx ≤ 16 ∧ c.lo = 0 ∧ c.hi = 0))
theorem column_any (c : Co) (hs : c.nm.size ≤ 1000000000000000) : Pu 128 [coC c] (.c (bC (decide (colP c)))) := by
 intro H
 refine Spec.enter Tryz.func128 rfl ?_
 refine AW.wk (wK 53 (l := [(0, .c (coC c))]) (ll := []) (H := (H))) ?_
 refine D2 ?_
 refine AW.seq (D2 ?_)
 refine Z16 fn127 (name_any c.nm hs) ?_
 refine G2 ?_
 refine AW.cond _ rfl (fun h6 => ?_) (fun h6 => ?_)
 ·
  have hN : ¬ nmeP c.nm := nd_t h6
  refine D1 ?_
  exact aR (fE (e := bCe (dF (fun h => hN h.1))))
 have hN : nmeP c.nm := nd_f h6
 refine AW.skip (AW.seq (D4 ?_))
 refine cD ?_ ?_ <;> intro h9
 ·
  refine D3 ?_
  refine Z17 ?_ ?_ <;> intro g13
  rotate_left
  ·
   iterate 5 refine oF ?_
   refine G2 ?_
   iterate 3 refine oF ?_
   refine G2 ?_
   iterate 3 refine oF ?_
   refine G2 ?_
   exact aR (fE (e := bCe (by first | exact dF (fun h => by have := h.2; omega) | exact dI ⟨fun h => ⟨hN, by omega⟩, fun h => by have := h.2; omega⟩)))
  refine G6 ?_
  refine Z17 ?_ ?_ <;> intro g20
  ·
   refine G4 ?_
   refine Z17 ?_ ?_ <;> intro g25
   ·
    refine G5 ?_
    exact aR (fE (e := bCe (by first | exact dF (fun h => by have := h.2; omega) | exact dI ⟨fun h => ⟨hN, by omega⟩, fun h => by have := h.2; omega⟩)))
   iterate 3 refine oF ?_
   refine G2 ?_
   exact aR (fE (e := bCe (by first | exact dF (fun h => by have := h.2; omega) | exact dI ⟨fun h => ⟨hN, by omega⟩, fun h => by have := h.2; omega⟩)))
  iterate 3 refine oF ?_
  refine G2 ?_
  iterate 3 refine oF ?_
  refine G2 ?_
  exact aR (fE (e := bCe (by first | exact dF (fun h => by have := h.2; omega) | exact dI ⟨fun h => ⟨hN, by omega⟩, fun h => by have := h.2; omega⟩)))
 refine AW.skip (D3 ?_)
 refine Z17 ?_ ?_ <;> intro g33
 rotate_left
 ·
  iterate 3 refine oF ?_
  refine G2 ?_
  iterate 3 refine oF ?_
  refine G2 ?_
  iterate 3 refine oF ?_
  refine G2 ?_
  iterate 3 refine oF ?_
  refine G2 ?_
  exact aR (fE (e := bCe (by first | exact dF (fun h => by have := h.2; omega) | exact dI ⟨fun h => ⟨hN, by omega⟩, fun h => by have := h.2; omega⟩)))
 refine G2 ?_
 refine sO (q_geq rfl rfl rfl) ?_
 refine Z7 ?_
 refine Z17 ?_ ?_ <;> intro g38
 rotate_left
 ·
  iterate 3 refine oF ?_
  refine G2 ?_
  iterate 3 refine oF ?_
  refine G2 ?_
  iterate 3 refine oF ?_
  refine G2 ?_
  exact aR (fE (e := bCe (by first | exact dF (fun h => by have := h.2; omega) | exact dI ⟨fun h => ⟨hN, by omega⟩, fun h => by have := h.2; omega⟩)))
 refine G4 ?_
 refine Z17 ?_ ?_ <;> intro g43
 ·
  refine G4 ?_
  refine Z17 ?_ ?_ <;> intro g48
  ·
   refine G5 ?_
   exact aR (fE (e := bCe (by first | exact dF (fun h => by have := h.2; omega) | exact dI ⟨fun h => ⟨hN, by omega⟩, fun h => by have := h.2; omega⟩)))
  iterate 3 refine oF ?_
  refine G2 ?_
  exact aR (fE (e := bCe (by first | exact dF (fun h => by have := h.2; omega) | exact dI ⟨fun h => ⟨hN, by omega⟩, fun h => by have := h.2; omega⟩)))
 iterate 3 refine oF ?_
 refine G2 ?_
 iterate 3 refine oF ?_
 refine G2 ?_
 exact aR (fE (e := bCe (by first | exact dF (fun h => by have := h.2; omega) | exact dI ⟨fun h => ⟨hN, by omega⟩, fun h => by have := h.2; omega⟩)))
abbrev co0 : Co := ⟨⟨#[]⟩, 0, 0, 0, 0, false⟩
abbrev colAt (t : Tb) (v : Int) : Co := t.cols.getD v.toNat co0
theorem colAt_get {t : Tb} {v : Int} (h : v.toNat < t.cols.length) : colAt t v = t.cols[v.toNat] := by
  show t.cols.getD v.toNat co0 = _; rw [qI, qF h]; rfl
abbrev nbP (cs : List Co) (l : List ByteArray) : Prop := ∀ j (h : j < l.length), (fstI Co.nm l[j] cs).isSome = true
abbrev nbL (cs : List Co) (l : List ByteArray) : List Int := l.map fun u => (((fstI Co.nm u cs).getD 0 : Nat) : Int)
abbrev nbX (cs : List Co) (l : List ByteArray) : X := if nbP cs l then .tup [iL .un (nbL cs l), bC true] else .tup [iL .un [], bC false]
theorem names_any (t : Tb) (l : List Int) (z : Nz) (hl : l.length ≤ 1000000) (hin : insP t l) (hc : t.cols.length ≤ 17592186044000) : Pu 82 [tbC t, iL z l] (.c (sL .un (l.map fun v => (colAt t v).nm))) := by
 intro H
 refine Spec.enter Tryz.func82 rfl ?_
 refine AW.wk (wK 26 (l := [(0, .c (tbC t)), (1, .c (iL z l))]) (ll := []) (H := (H))) ?_
 refine D2 ?_
 refine D1 ?_
 refine AW.seq (D1 ?_)
 refine AW.block (AW.tip 5 9 1 rfl (fun k0 hk0 => ?_))
 refine AW.loop (fun (i : Nat) s => ∃ (kt : Nat) (zs : List (List E.T)), (i ≤ l.length ∧ H kt = none ∧ zs = ((l.take i).map fun v => (colAt t v).nm).map sT) ∧ s = ⟨26, sp [(1, .c (iL z l)), (2, .lp 2 0), (5, .c (.a (.ts kt .ne 1 zs))), (6, nX i)], lv [(2, .box (zTb t))], upd H kt (some (.tip 9 1 zs.length))⟩) (fun i => l.length - i) 0 ⟨_, by exact wK 26, k0, [], ⟨qZ _, hk0, rfl⟩, rfl⟩ (fun i s hs => ?_)
 obtain ⟨kt, zs, ⟨hi0, hkt, hzs⟩, rfl⟩ := hs
 refine AW.seq (D5 ?_)
 refine cD ?_ ?_ <;> intro h10
 ·
  have hi := oI h10
  have hiv := hin i hi
  have hv : l[i].toNat < t.cols.length := by omega
  have hca := colAt_get hv
  refine AW.skip (AW.seq (AW.block (AW.drawO [0, 1, 2, 3, 4, 5, 6, 7, 8, 9, 10, 11, 12] mo (by kernel_rfl) ?_)))
  refine LexO.q rfl (by kernel_rfl) (q_mvC rfl rfl) rfl rfl rfl ?_
  refine LexO.q rfl (by kernel_rfl) (q_fieldL _ rfl fl72_1 rfl rfl) rfl rfl rfl ?_
  refine LexO.r rfl (by kernel_rfl) (b_load (r := .a _) rfl ty24 rfl rfl rfl rfl rfl rfl) rfl ?_
  refine LexO.q rfl (by kernel_rfl) (q_mvC rfl rfl) rfl rfl rfl ?_
  refine LexO.q rfl (by kernel_rfl) (q_mvC rfl rfl) rfl rfl rfl ?_
  refine LexO.q rfl (by kernel_rfl) (q_index _ rfl sl43 rfl rfl (by omega) (idx_map (f := i64T) hi)) rfl rfl rfl ?_
  refine LexO.q rfl (by kernel_rfl) (q_load (.a _) rfl ty3 rfl rfl rfl) rfl rfl rfl ?_
  refine LexO.q rfl (by kernel_rfl) (q_index _ rfl sl24 rfl rfl (by omega) (idx_map (f := coT) hv)) rfl rfl rfl ?_
  refine LexO.q rfl (by kernel_rfl) (q_fieldP _ rfl fl77_0 rfl rfl) rfl rfl rfl ?_
  refine LexO.q rfl (by kernel_rfl) (q_load (.a _) rfl ty9 rfl rfl rfl) rfl rfl rfl ?_
  refine LexO.q rfl (by kernel_rfl) (q_buildSlice _ rfl el51 rfl (by decide) rfl) rfl rfl rfl ?_
  refine LexO.app1 rfl (by kernel_rfl) (by kernel_rfl) (by kernel_rfl) rfl (hkt) rfl el51 rfl rfl (by simp [hzs]; omega) rfl rfl (fun k24 hk24 => ?_)
  refine LexO.q rfl (by kernel_rfl) (q_asC rfl rfl) rfl rfl rfl ?_
  refine LexO.nil (by kernel_rfl) ?_
  refine B3 ?_
  exact ⟨i + 1, _, by exact wK 26, by omega, k24, zs ++ [sT t.cols[l[i].toNat].nm], ⟨hi, hk24, by rw [hzs, take_put hi, qK, qK, qX, qX, hca]⟩, rfl⟩
 refine AW.exit ?_
 refine eth_e ?_
 refine eth_e ?_
 refine exit_here ?_
 refine AW.seq ?_
 obtain rfl := oE h10 hi0
 rw [qT] at hzs
 refine AW.xw 5 rfl (XW.ts.trans (XW.es hzs)) ?_
 refine B2 ?_
 exact aR (fin_x (x := .c _) (H) (.tmp rfl .nil) rfl ((fun j o h => upd_sub hkt j o h)) (⟨rfl, rfl⟩))
theorem numbers_any (t : Tb) (l : List ByteArray) (z : Nz) (hl : l.length ≤ 1000000) (hc : t.cols.length ≤ 17592186044000) : Pu 131 [tbC t, sL z l] (nbX t.cols l) := by
 intro H
 refine Spec.enter Tryz.func131 rfl ?_
 refine AW.wk (wK 32 (l := [(0, .c (tbC t)), (1, .c (sL z l))]) (ll := []) (H := (H))) ?_
 refine D3 ?_
 refine D1 ?_
 refine AW.seq (D1 ?_)
 refine AW.block (AW.tip 6 3 1 rfl (fun k0 hk0 => ?_))
 refine AW.loop (fun (i : Nat) s => ∃ (kt : Nat) (zs : List (List E.T)), (i ≤ l.length ∧ H kt = none ∧ zs = (nbL t.cols (l.take i)).map i64T ∧ ∀ j (h : j < l.length), j < i → (fstI Co.nm l[j] t.cols).isSome = true) ∧ s = ⟨32, sp [(1, .c (sL z l)), (2, .lp 2 0), (4, .c (.a nA)), (5, .c (bC false)), (6, .c (.a (.ts kt .ne 1 zs))), (7, nX i)], lv [(2, .box (zTb t))], upd H kt (some (.tip 3 1 zs.length))⟩) (fun i => l.length - i) 0 ⟨_, by exact wK 32, k0, [], ⟨qZ _, hk0, rfl, up0⟩, rfl⟩ (fun i s hs => ?_)
 obtain ⟨kt, zs, ⟨hi0, hkt, hzs, hU⟩, rfl⟩ := hs
 refine AW.seq (D5 ?_)
 refine cD ?_ ?_ <;> intro h13
 rotate_left
 ·
  refine AW.exit ?_
  refine eth_e ?_
  refine eth_e ?_
  refine exit_here ?_
  refine AW.seq ?_
  obtain rfl := oE h13 hi0
  rw [qT] at hzs
  refine AW.xw 6 rfl (XW.ts.trans (XW.es hzs)) ?_
  refine B3 ?_
  exact aR (fin_x (x := .tup [_, _]) (H) (.tmp rfl (.tmp rfl .nil)) rfl ((fun j o h => upd_sub hkt j o h)) (⟨by rw [nbX, if_pos (upE hU (by rw [qA] at h13; omega))], rfl⟩))
 have hi := oI h13
 refine AW.skip (AW.seq (AW.block (AW.seq (AW.draw mo ?_))))
 refine N5 ?_
 refine Z35 fn54 (column_no t l[i] hc) ?_
 refine lQ (q_mvT rfl rfl) ?_
 refine N5 ?_
 refine AW.seq (D3 ?_)
 refine AW.cond _ rfl (fun h26 => ?_) (fun h26 => ?_)
 ·
  have hno : ¬ (fstI Co.nm l[i] t.cols).isSome = true := by simpa using h26
  refine D2 ?_
  refine AW.xw 4 rfl (XW.nilU (sz := 1)) ?_
  exact aR (fin_x (x := .tup [_, _]) (H) (.tmp rfl (.tmp rfl .nil)) rfl ((fun j o h => upd_sub hkt j o h)) (⟨by rw [nbX, if_neg (fun h => hno (h i hi))]; rfl, rfl⟩))
 have hyes : (fstI Co.nm l[i] t.cols).isSome = true := by simpa using h26
 refine AW.skip (B3 ?_)
 refine SeqK.app1 rfl (hkt) rfl el43 rfl rfl (by simp [hzs]; omega) rfl rfl (fun k30 hk30 => ?_)
 refine sB ?_
 refine B3 ?_
 exact ⟨i + 1, _, by exact wK 32, by omega, k30, zs ++ [i64T (((fstI Co.nm l[i] t.cols).getD 0 : Nat) : Int)], ⟨hi, hk30, by rw [hzs]; simp only [nbL, take_put hi, qK, qX], upS hi hU hyes⟩, rfl⟩
abbrev tysP (t u : Tb) (a b : List Int) : Prop := ∀ j (h : j < a.length), (colAt t a[j]).ty = (colAt u (b.getD j 0)).ty
theorem types_any (t u : Tb) (a b : List Int) (z z2 : Nz) (ha : a.length ≤ 17592186044000) (hab : a.length ≤ b.length) (hia : insP t a) (hib : insP u b) : Pu 133 [tbC t, tbC u, iL z a, iL z2 b] (.c (bC (decide (tysP t u a b)))) := by
 intro H
 refine Spec.enter Tryz.func133 rfl ?_
 refine AW.wk (wK 35 (l := [(0, .c (tbC t)), (1, .c (tbC u)), (2, .c (iL z a)), (3, .c (iL z2 b))]) (ll := []) (H := (H))) ?_
 refine D3 ?_
 refine AW.seq (D1 ?_)
 refine AW.block (AW.loop (fun (i : Nat) s => (i ≤ a.length ∧ ∀ j (h : j < a.length), j < i → (colAt t a[j]).ty = (colAt u (b.getD j 0)).ty) ∧ s = ⟨35, sp [(2, .c (iL z a)), (3, .c (iL z2 b)), (4, .lp 4 0), (5, .lp 5 0), (8, .c (bC false)), (9, nX i)], lv [(4, .box (zTb t)), (5, .box (zTb u))], H⟩) (fun i => a.length - i) 0 ⟨_, by exact wK 35, ⟨qZ _, up0⟩, rfl⟩ (fun i s hs => ?_))
 obtain ⟨⟨hi0, hU⟩, rfl⟩ := hs
 refine AW.seq (D5 ?_)
 refine cD ?_ ?_ <;> intro h13
 rotate_left
 ·
  refine AW.exit ?_
  refine eth_e ?_
  refine eth_e ?_
  refine exit_here ?_
  refine D1 ?_
  exact aR (fE (e := bCe (dT (upE hU (by rw [qA] at h13; omega)))))
 have hi := oI h13
 have hi2 : i < b.length := by omega
 have hv := hia i hi
 have hw := hib i hi2
 have hv2 : a[i].toNat < t.cols.length := by omega
 have hw2 : b[i].toNat < u.cols.length := by omega
 have e1 := colAt_get hv2
 have e2 := colAt_get hw2
 have e3 : b.getD i 0 = b[i] := by rw [qI, qF hi2]; rfl
 refine AW.skip (AW.seq (AW.block (AW.seq (AW.draw mo ?_))))
 refine N7 ?_
 refine lQ (q_fieldP _ rfl fl77_1 rfl rfl) ?_
 refine N8 ?_
 refine lQ (q_fieldP _ rfl fl77_1 rfl rfl) ?_
 refine N1 ?_
 refine lQ (q_neq rfl rfl rfl) ?_
 refine Z43 ?_
 refine cD ?_ ?_ <;> intro h34
 ·
  refine D1 ?_
  exact aR (fE (e := bCe (dF (fun h => h34 (by have := h i hi; rw [e1, e3, e2] at this; exact this)))))
 refine AW.skip (B3 ?_)
 exact ⟨i + 1, _, by exact wK 35, by omega, ⟨hi, upS hi hU (by rw [e1, e3, e2]; exact qY.1 h34)⟩, rfl⟩
mutual
def okE : Ex → Prop
  | .mk _ tb nm _ _ _ vs args => (tb.size ≤ 1000000000000000 ∧ nm.size ≤ 1000000000000000 ∧ vs.size ≤ 1000000000000000 ∧ args.length ≤ 17592186044000) ∧ okEs args
def okEs : List Ex → Prop
  | [] => True
  | e :: r => okE e ∧ okEs r
end
theorem okEs_iff : ∀ {l : List Ex}, okEs l ↔ ∀ a ∈ l, okE a
  | [] => by simp [okEs]
  | e :: r => by rw [okEs, okEs_iff]; simp
theorem okE_iff {e : Ex} : okE e ↔ (e.tb.size ≤ 1000000000000000 ∧ e.nm.size ≤ 1000000000000000 ∧ e.vs.size ≤ 1000000000000000 ∧ e.args.length ≤ 17592186044000) ∧ ∀ a ∈ e.args, okE a := by
  cases e; rw [okE, okEs_iff]
def finB : Nat → Ex → Bool
  | 0, _ => false
  | d + 1, e => decide (e.args.length ≤ 8) && (decide (e.tb.size + e.nm.size + e.vs.size ≤ 100) && e.args.all (finB d))
theorem fin0 {d : Nat} {e : Ex} (h : d = 0) : false = finB d e := by subst h; rw [finB]
theorem finB_pos {d : Nat} {e : Ex} (h : 0 < d) : finB d e = (decide (e.args.length ≤ 8) && (decide (e.tb.size + e.nm.size + e.vs.size ≤ 100) && e.args.all (finB (d - 1)))) := by
  cases d with
  | zero => omega
  | succ d => rw [finB]; rfl
abbrev zEx (x : Ex) : List A := [.t (.v (.int .i64 x.op)), .t (.v (.string x.tb)), .t (.v (.string x.nm)), .t (.v (.int .i64 x.ix)), .t (.v (.int .i64 x.vk)), .t (.v (.int .i64 x.vn)), .t (.v (.string x.vs)), .t (.sl .un 8 (x.args.map exT'))]
theorem fine_of (e : Ex) (d : Nat) (hd : d ≤ 1000) (ho : okE e) (ih : 0 < d → ∀ a ∈ e.args, Pu 81 [exC a, iC ((d - 1 : Nat) : Int)] (.c (bC (finB (d - 1) a)))) : Pu 81 [exC e, iC (d : Int)] (.c (bC (finB d e))) := by
 intro H
 refine Spec.enter Tryz.func81 rfl ?_
 refine AW.wk (wK 45 (l := [(0, .c (exC e)), (1, .c (iC (d : Int)))]) (ll := []) (H := (H))) ?_
 refine D2 ?_
 refine AW.seq (AW.seq ?_)
 obtain ⟨⟨k1, k2, k3, k4⟩, k5⟩ := okE_iff.1 ho
 refine B2 ?_
 refine Z17 ?_ ?_ <;> intro g8
 ·
  iterate 4 refine oF ?_
  refine G2 ?_
  iterate 13 refine oF ?_
  refine G2 ?_
  refine AW.condT rfl ?_
  refine D1 ?_
  exact aR (fE (e := bCe (fin0 (by omega))))
 have hd0 : 0 < d := by omega
 have hp := finB_pos (e := e) hd0
 refine G5 ?_
 refine Z17 ?_ ?_ <;> intro g14
 ·
  iterate 13 refine oF ?_
  refine G2 ?_
  refine AW.condT rfl ?_
  refine D1 ?_
  exact aR (fE (e := bCe (by rw [hp, jI (p := e.args.length ≤ 8) (by rw [qA] at g14; omega)]; rfl)))
 refine G6 ?_
 refine sO (q_add _ rfl rfl rfl (w64 (by omega) (by omega))) ?_
 refine G4 ?_
 refine sO (q_add _ rfl rfl rfl (w64 (by omega) (by omega))) ?_
 refine G3 ?_
 refine cD ?_ ?_ <;> intro h28
 ·
  refine D1 ?_
  exact aR (fE (e := bCe (by rw [hp, jI (p := _ ≤ 100) (by omega)]; simp)))
 refine AW.skip (AW.seq (AW.seq ?_))
 have hA8 : e.args.length ≤ 8 := by rw [qA] at g14; omega
 have hA9 : e.tb.size + e.nm.size + e.vs.size ≤ 100 := by omega
 refine B1 ?_
 refine AW.block (AW.loop (fun (i : Nat) s => (i ≤ e.args.length ∧ ∀ j (h : j < e.args.length), j < i → finB (d - 1) e.args[j] = true) ∧ s = ⟨45, sp [(1, .c (iC (d : Int))), (2, .lp 2 0), (4, .c (bC false)), (5, nX i)], lv [(2, .box (zEx e))], H⟩) (fun i => e.args.length - i) 0 ⟨_, by exact wK 45, ⟨qZ _, up0⟩, rfl⟩ (fun i s hs => ?_))
 obtain ⟨⟨hi0, hU⟩, rfl⟩ := hs
 refine AW.seq (D6 ?_)
 refine cD ?_ ?_ <;> intro h33
 ·
  have hi := oI h33
  refine AW.skip (AW.seq (AW.block (D6 ?_)))
  refine sQ (q_sub _ rfl rfl rfl ((by rw [w64 (by omega) (by omega)]; omega : IntKind.i64.wrap _ = ((d - 1 : Nat) : Int)))) ?_
  refine Z16 fn81 (ih hd0 _ (qC hi)) ?_
  refine G2 ?_
  refine AW.cond _ rfl (fun h44 => ?_) (fun h44 => ?_)
  ·
   have hno : finB (d - 1) e.args[i] = false := by simpa using h44
   refine D1 ?_
   exact aR (fE (e := bCe (by rw [hp, List.all_eq_false.2 ⟨_, qC hi, by simp [hno]⟩]; simp)))
  have hyes : finB (d - 1) e.args[i] = true := by simpa using h44
  refine AW.skip (B3 ?_)
  exact ⟨i + 1, _, by exact wK 45, by omega, ⟨hi, upS hi hU (hyes)⟩, rfl⟩
 refine AW.exit ?_
 refine eth_e ?_
 refine eth_e ?_
 refine exit_here ?_
 refine D1 ?_
 exact aR (fE (e := bCe (by rw [hp, jH hA8, jH hA9, List.all_eq_true.2 fun x hx => by obtain ⟨j, hj, rfl⟩ := qN.1 hx; exact upE hU (by rw [qA] at h33; omega) j hj]; rfl)))
theorem fine_any : ∀ (d : Nat) (e : Ex), d ≤ 1000 → okE e → Pu 81 [exC e, iC (d : Int)] (.c (bC (finB d e)))
  | 0, e, hd, ho => fine_of e 0 hd ho fun h => absurd h (by omega)
  | d + 1, e, hd, ho => fine_of e (d + 1) hd ho fun _ a ha => fine_any d a (by omega) ((okE_iff.1 ho).2 a ha)
structure Df where (k : Int) (nm : ByteArray) (cols : List Co) (keys : List (List ByteArray)) (fks : List Rf) (chks : List Ex)
abbrev dfT (d : Df) : List E.T := [.v (.int .i64 d.k), .v (.string d.nm), .sl .un 6 (d.cols.map coT), .sl .un 1 (d.keys.map sLT), .sl .un 3 (d.fks.map rfT), .sl .un 8 (d.chks.map exT'), .v (.slice none 0 0), .v (.slice none 0 0), .v (.slice none 0 0), .v (.slice none 0 0), .v (.int .i64 0), .v (.string ⟨#[]⟩), .v (.string ⟨#[]⟩), .v (.int .i64 0), .v (.int .i64 0), .v (.int .i64 0), .v (.string ⟨#[]⟩), .v (.slice none 0 0), .v (.slice none 0 0), .v (.slice none 0 0), .v (.int .i64 0), .v (.string ⟨#[]⟩)]
abbrev smD (d : Df) : Prop := (d.nm.size ≤ 60 ∧ d.cols.length ≤ 20 ∧ d.keys.length ≤ 10 ∧ d.fks.length ≤ 10 ∧ d.chks.length ≤ 10) ∧ (∀ j (h : j < d.cols.length), d.cols[j].nm.size ≤ 60) ∧ (∀ j (h : j < d.keys.length), fewP 0 d.keys[j]) ∧
  (∀ j (h : j < d.fks.length), d.fks[j].tab.size ≤ 60 ∧ fewP 0 d.fks[j].cols ∧ fewP 0 d.fks[j].tgt) ∧ ∀ j (h : j < d.chks.length), finB 4 d.chks[j] = true
abbrev smlP (l : List Df) : Prop := (∀ j (h : j < l.length), smD l[j]) ∧ l.length ≤ 12
structure okD (d : Df) : Prop where
  nm : d.nm.size ≤ 1000000000000000
  cols : d.cols.length ≤ 17592186044000
  colsn : ∀ c ∈ d.cols, c.nm.size ≤ 1000000000000000
  keys : d.keys.length ≤ 17592186044000
  keysl : ∀ k ∈ d.keys, k.length ≤ 1000000
  keysn : ∀ k ∈ d.keys, ∀ u ∈ k, u.size ≤ 1000000000000000
  fks : d.fks.length ≤ 17592186044000
  fksl : ∀ f ∈ d.fks, f.cols.length ≤ 1000000 ∧ f.tgt.length ≤ 1000000
  fksn : ∀ f ∈ d.fks, f.tab.size ≤ 1000000000000000
  chks : d.chks.length ≤ 17592186044000
  chkso : ∀ e ∈ d.chks, okE e
abbrev zDg (x : Df) : List A := [.t (.sl .un 6 (x.cols.map coT)), .t (.sl .un 1 (x.keys.map sLT)), .t (.sl .un 3 (x.fks.map rfT)), .t (.sl .un 8 (x.chks.map exT'))]
theorem small_any (l : List Df) (z : Nz) (hl : l.length ≤ 17592186044000) (hok : ∀ d ∈ l, okD d) : Pu 39 [.a (.t (.sl z 22 (l.map dfT)))] (.c (bC (decide (smlP l)))) := by
 intro H
 refine Spec.enter Tryz.func39 rfl ?_
 refine AW.wk (wK 132 (l := [(0, .c (.a (.t (.sl z 22 (l.map dfT)))))]) (ll := []) (H := (H))) ?_
 refine D1 ?_
 refine AW.seq (D1 ?_)
 refine AW.block (AW.loop (fun (i : Nat) s => (i ≤ l.length ∧ ∀ j (h : j < l.length), j < i → smD l[j]) ∧ s = ⟨132, sp [(0, .c (.a (.t (.sl z 22 (l.map dfT))))), (2, .c (bC false)), (3, nX i)], lv [], H⟩) (fun i => l.length - i) 0 ⟨_, by exact wK 132, ⟨qZ _, up0⟩, rfl⟩ (fun i s hs => ?_))
 obtain ⟨⟨hi0, hU⟩, rfl⟩ := hs
 refine AW.seq (D5 ?_)
 refine cD ?_ ?_ <;> intro h12
 rotate_left
 ·
  refine AW.exit ?_
  refine eth_e ?_
  refine eth_e ?_
  refine exit_here ?_
  refine AW.seq ?_
  have hW := upE hU (by rw [qA] at h12; omega)
  refine B2 ?_
  refine sQ (q_leq rfl rfl rfl) ?_
  refine sB ?_
  exact aR (fE (e := bCe (dI ⟨fun h => ⟨hW, by rw [qA] at h; omega⟩, fun h => by have := h.2; rw [qA]; omega⟩)))
 have hi := oI h12
 have hk := hok _ (qC hi)
 have k1 := hk.nm
 have k2 := hk.cols
 have k3 := hk.keys
 have k4 := hk.fks
 have k5 := hk.chks
 refine AW.skip (AW.seq (AW.block (D8 ?_)))
 refine AW.seq (D7 ?_)
 refine Z17 ?_ ?_ <;> intro g27
 ·
  iterate 4 refine oF ?_
  refine G2 ?_
  iterate 4 refine oF ?_
  refine G2 ?_
  iterate 4 refine oF ?_
  refine G2 ?_
  iterate 4 refine oF ?_
  refine G2 ?_
  refine AW.condT rfl ?_
  refine D1 ?_
  exact aR (fE (e := bCe (dF (fun h => by have h9 := (h.1 i hi).1; simp only [qA] at *; omega))))
 refine G5 ?_
 refine Z17 ?_ ?_ <;> intro g33
 ·
  iterate 4 refine oF ?_
  refine G2 ?_
  iterate 4 refine oF ?_
  refine G2 ?_
  iterate 4 refine oF ?_
  refine G2 ?_
  refine AW.condT rfl ?_
  refine D1 ?_
  exact aR (fE (e := bCe (dF (fun h => by have h9 := (h.1 i hi).1; simp only [qA] at *; omega))))
 refine G5 ?_
 refine Z17 ?_ ?_ <;> intro g39
 ·
  iterate 4 refine oF ?_
  refine G2 ?_
  iterate 4 refine oF ?_
  refine G2 ?_
  refine AW.condT rfl ?_
  refine D1 ?_
  exact aR (fE (e := bCe (dF (fun h => by have h9 := (h.1 i hi).1; simp only [qA] at *; omega))))
 refine G5 ?_
 refine Z17 ?_ ?_ <;> intro g45
 ·
  iterate 4 refine oF ?_
  refine G2 ?_
  refine AW.condT rfl ?_
  refine D1 ?_
  exact aR (fE (e := bCe (dF (fun h => by have h9 := (h.1 i hi).1; simp only [qA] at *; omega))))
 refine G6 ?_
 refine cD ?_ ?_ <;> intro h50
 ·
  refine D1 ?_
  exact aR (fE (e := bCe (dF (fun h => by have h9 := (h.1 i hi).1; simp only [qA] at *; omega))))
 refine AW.skip (AW.seq (AW.seq ?_))
 have hF : l[i].nm.size ≤ 60 ∧ l[i].cols.length ≤ 20 ∧ l[i].keys.length ≤ 10 ∧ l[i].fks.length ≤ 10 ∧ l[i].chks.length ≤ 10 := by simp only [qA] at *; omega
 refine B1 ?_
 refine AW.block (AW.loop (fun (j : Nat) s => (j ≤ l[i].cols.length ∧ ∀ k (h : k < l[i].cols.length), k < j → l[i].cols[k].nm.size ≤ 60) ∧ s = ⟨132, sp [(0, .c (.a (.t (.sl z 22 (l.map dfT))))), (2, .c (bC false)), (3, nX i), (4, .lp 4 0), (5, nX j)], lv [(4, .box (zDg (l[i])))], H⟩) (fun j => l[i].cols.length - j) 0 ⟨_, Wk.keep 132 [(0, .c (.a (.t (.sl z 22 (l.map dfT))))), (2, .c (bC false)), (3, nX i), (4, .lp 4 0), (5, iX .i64 ((((0 : Nat)) : Nat) : Int))] [(4, .box (zDg (l[i])))] (H) rfl ⟨rfl, rfl, rfl, rfl, rfl, trivial⟩ ⟨rfl, trivial⟩ (fun _ _ h => h) rfl, ⟨qZ _, up0⟩, rfl⟩ (fun j s hs => ?_))
 obtain ⟨⟨hj0, hU1⟩, rfl⟩ := hs
 refine AW.seq (D6 ?_)
 refine cD ?_ ?_ <;> intro h55
 ·
  have hj := oI h55
  have kc := hk.colsn _ (qC hj)
  refine AW.skip (AW.seq (AW.block (D9 ?_)))
  refine cD ?_ ?_ <;> intro h65
  ·
   refine D1 ?_
   exact aR (fE (e := bCe (dF (fun h => by have h9 := (h.1 i hi).2.1 j hj; omega))))
  refine AW.skip (B3 ?_)
  exact ⟨j + 1, _, by exact wK 132, by omega, ⟨hj, upS hj hU1 (by omega)⟩, rfl⟩
 refine AW.exit ?_
 refine eth_e ?_
 refine eth_e ?_
 refine exit_here ?_
 refine AW.seq (AW.seq ?_)
 have hA := upE hU1 (by rw [qA] at h55; omega)
 refine B1 ?_
 refine AW.block (AW.loop (fun (j : Nat) s => (j ≤ l[i].keys.length ∧ ∀ k (h : k < l[i].keys.length), k < j → fewP 0 l[i].keys[k]) ∧ s = ⟨132, sp [(0, .c (.a (.t (.sl z 22 (l.map dfT))))), (2, .c (bC false)), (3, nX i), (4, .lp 4 0), (6, nX j)], lv [(4, .box (zDg (l[i])))], H⟩) (fun j => l[i].keys.length - j) 0 ⟨_, Wk.keep 132 [(0, .c (.a (.t (.sl z 22 (l.map dfT))))), (2, .c (bC false)), (3, nX i), (4, .lp 4 0), (6, iX .i64 ((((0 : Nat)) : Nat) : Int))] [(4, .box (zDg (l[i])))] (H) rfl ⟨rfl, rfl, rfl, rfl, rfl, trivial⟩ ⟨rfl, trivial⟩ (fun _ _ h => h) rfl, ⟨qZ _, up0⟩, rfl⟩ (fun j s hs => ?_))
 obtain ⟨⟨hj0, hU2⟩, rfl⟩ := hs
 refine AW.seq (D6 ?_)
 refine cD ?_ ?_ <;> intro h70
 ·
  have hj := oI h70
  refine AW.skip (AW.seq (AW.block (D5 ?_)))
  refine sQ (q_call _ rfl fn40 rfl (few_any 0 _ .un (by have := hk.keysl _ (qC hj); omega)) rfl) ?_
  refine G2 ?_
  refine AW.cond _ rfl (fun h79 => ?_) (fun h79 => ?_)
  ·
   refine D1 ?_
   exact aR (fE (e := bCe (dF (fun h => nd_t h79 ((h.1 i hi).2.2.1 j hj)))))
  refine AW.skip (B3 ?_)
  exact ⟨j + 1, _, by exact wK 132, by omega, ⟨hj, upS hj hU2 (nd_f h79)⟩, rfl⟩
 refine AW.exit ?_
 refine eth_e ?_
 refine eth_e ?_
 refine exit_here ?_
 refine AW.seq (AW.seq ?_)
 have hB := upE hU2 (by rw [qA] at h70; omega)
 refine B1 ?_
 refine AW.block (AW.loop (fun (j : Nat) s => (j ≤ l[i].fks.length ∧ ∀ k (h : k < l[i].fks.length), k < j → l[i].fks[k].tab.size ≤ 60 ∧ fewP 0 l[i].fks[k].cols ∧ fewP 0 l[i].fks[k].tgt) ∧ s = ⟨132, sp [(0, .c (.a (.t (.sl z 22 (l.map dfT))))), (2, .c (bC false)), (3, nX i), (4, .lp 4 0), (7, nX j)], lv [(4, .box (zDg (l[i])))], H⟩) (fun j => l[i].fks.length - j) 0 ⟨_, Wk.keep 132 [(0, .c (.a (.t (.sl z 22 (l.map dfT))))), (2, .c (bC false)), (3, nX i), (4, .lp 4 0), (7, iX .i64 ((((0 : Nat)) : Nat) : Int))] [(4, .box (zDg (l[i])))] (H) rfl ⟨rfl, rfl, rfl, rfl, rfl, trivial⟩ ⟨rfl, trivial⟩ (fun _ _ h => h) rfl, ⟨qZ _, up0⟩, rfl⟩ (fun j s hs => ?_))
 obtain ⟨⟨hj0, hU3⟩, rfl⟩ := hs
 refine AW.seq (D6 ?_)
 refine cD ?_ ?_ <;> intro h84
 ·
  have hj := oI h84
  have kf := hk.fksn _ (qC hj)
  refine AW.skip (AW.seq (AW.block (D8 ?_)))
  refine Z17 ?_ ?_ <;> intro g95
  ·
   iterate 8 refine oF ?_
   refine G2 ?_
   iterate 8 refine oF ?_
   refine G2 ?_
   refine AW.condT rfl ?_
   refine D1 ?_
   exact aR (fE (e := bCe (dF (fun h => by have h9 := (h.1 i hi).2.2.2.1 j hj; first | omega | exact nd_t g105 h9.2.1 | exact nd_t h114 h9.2.2))))
  refine G4 ?_
  refine sO (q_fieldP _ rfl fl110_0 rfl rfl) ?_
  refine G1 ?_
  refine sO (q_call _ rfl fn40 rfl (few_any 0 l[i].fks[j].cols .un (by have := hk.fksl _ (qC hj); omega)) rfl) ?_
  refine G2 ?_
  refine Z53 ?_ ?_ <;> intro g105
  ·
   iterate 8 refine oF ?_
   refine G2 ?_
   refine AW.condT rfl ?_
   refine D1 ?_
   exact aR (fE (e := bCe (dF (fun h => by have h9 := (h.1 i hi).2.2.2.1 j hj; first | omega | exact nd_t g105 h9.2.1 | exact nd_t h114 h9.2.2))))
  refine G4 ?_
  refine sO (q_fieldP _ rfl fl110_2 rfl rfl) ?_
  refine G1 ?_
  refine sO (q_call _ rfl fn40 rfl (few_any 0 l[i].fks[j].tgt .un (by have := hk.fksl _ (qC hj); omega)) rfl) ?_
  refine G3 ?_
  refine AW.cond _ rfl (fun h114 => ?_) (fun h114 => ?_)
  ·
   refine D1 ?_
   exact aR (fE (e := bCe (dF (fun h => by have h9 := (h.1 i hi).2.2.2.1 j hj; first | omega | exact nd_t g105 h9.2.1 | exact nd_t h114 h9.2.2))))
  refine AW.skip (B3 ?_)
  exact ⟨j + 1, _, by exact wK 132, by omega, ⟨hj, upS hj hU3 (⟨by omega, nd_f g105, nd_f h114⟩)⟩, rfl⟩
 refine AW.exit ?_
 refine eth_e ?_
 refine eth_e ?_
 refine exit_here ?_
 refine AW.seq ?_
 have hC := upE hU3 (by rw [qA] at h84; omega)
 refine B1 ?_
 refine AW.block (AW.loop (fun (j : Nat) s => (j ≤ l[i].chks.length ∧ ∀ k (h : k < l[i].chks.length), k < j → finB 4 l[i].chks[k] = true) ∧ s = ⟨132, sp [(0, .c (.a (.t (.sl z 22 (l.map dfT))))), (2, .c (bC false)), (3, nX i), (4, .lp 4 0), (8, nX j)], lv [(4, .box (zDg (l[i])))], H⟩) (fun j => l[i].chks.length - j) 0 ⟨_, Wk.keep 132 [(0, .c (.a (.t (.sl z 22 (l.map dfT))))), (2, .c (bC false)), (3, nX i), (4, .lp 4 0), (8, iX .i64 ((((0 : Nat)) : Nat) : Int))] [(4, .box (zDg (l[i])))] (H) rfl ⟨rfl, rfl, rfl, rfl, rfl, trivial⟩ ⟨rfl, trivial⟩ (fun _ _ h => h) rfl, ⟨qZ _, up0⟩, rfl⟩ (fun j s hs => ?_))
 obtain ⟨⟨hj0, hU4⟩, rfl⟩ := hs
 refine AW.seq (D6 ?_)
 refine cD ?_ ?_ <;> intro h119
 ·
  have hj := oI h119
  refine AW.skip (AW.seq (AW.block (sR (Z1 Fx.fl29_3 ?_))))
  refine Z0 Fx.ty27 ?_
  refine sM ?_
  refine Z12 Fx.sl27 (idx_ex hj) ?_
  refine Z13 (.g [_, _, _, _, _, _, _, _]) Fx.ty37 ?_
  refine SeqK.q (q_call _ rfl Fx.fn81 rfl (fine_any 4 _ (by omega) (hk.chkso _ (List.getElem_mem hj))) rfl) rfl rfl rfl ?_
  refine G2 ?_
  refine AW.cond _ rfl (fun h128 => ?_) (fun h128 => ?_)
  ·
   refine D1 ?_
   exact aR (fE (e := bCe (dF (fun h => by have h9 := (h.1 i hi).2.2.2.2 j hj; rw [h9] at h128; cases h128))))
  refine AW.skip (B3 ?_)
  exact ⟨j + 1, _, by exact wK 132, by omega, ⟨hj, upS hj hU4 (by simpa using h128)⟩, rfl⟩
 refine AW.exit ?_
 refine eth_e ?_
 refine eth_e ?_
 refine exit_here ?_
 have hE := upE hU4 (by rw [qA] at h119; omega)
 refine B3 ?_
 exact ⟨i + 1, _, by exact wK 132, by omega, ⟨hi, upS hi hU (⟨hF, hA, hB, hC, hE⟩)⟩, rfl⟩
theorem few_nil (n : Int) : Pu 40 [iC n, .a (nA)] (.c (bC (decide (fewP n [])))) := Pure.arg (l := [iC n]) (r := []) (XW.nilU (sz := 1)) (few_any n [] .un (by simp))
abbrev ssD (t : Tb) : Prop := (t.keys.length ≤ 10 ∧ t.fks.length ≤ 10 ∧ smlP [⟨0, t.nm, t.cols, [], [], t.chks⟩]) ∧ (∀ j (h : j < t.keys.length), fewP (t.keys[j].length : Int) []) ∧ ∀ j (h : j < t.fks.length), fewP (t.fks[j].cols.length : Int) []
abbrev ssP (s : List Tb) : Prop := (∀ j (h : j < s.length), ssD s[j]) ∧ s.length ≤ 12
structure okT (t : Tb) : Prop where
  nm : t.nm.size ≤ 1000000000000000
  cols : t.cols.length ≤ 17592186044000
  colsn : ∀ c ∈ t.cols, c.nm.size ≤ 1000000000000000
  keys : t.keys.length ≤ 17592186044000
  keysl : ∀ k ∈ t.keys, k.length ≤ 17592186044000
  fks : t.fks.length ≤ 17592186044000
  fksl : ∀ f ∈ t.fks, f.cols.length ≤ 17592186044000
  chks : t.chks.length ≤ 17592186044000
  chkso : ∀ e ∈ t.chks, okE e
theorem okD_of {t : Tb} (h : okT t) : ∀ d ∈ [(⟨0, t.nm, t.cols, [], [], t.chks⟩ : Df)], okD d := fun d hd => by
  rw [jF.1 hd]
  exact ⟨h.nm, h.cols, h.colsn, by simp, by simp, by simp, by simp, by simp, by simp, h.chks, h.chkso⟩
theorem smallSchema_any (d : List Tb) (z : Nz) (hl : d.length ≤ 17592186044000) (hok : ∀ t ∈ d, okT t) : Pu 19 [scC z d] (.c (bC (decide (ssP d)))) := by
 intro H
 refine Spec.enter Tryz.func19 rfl ?_
 refine AW.wk (wK 74 (l := [(0, .c (scC z d))]) (ll := []) (H := (H))) ?_
 refine D1 ?_
 refine AW.seq (D1 ?_)
 refine AW.block (AW.loop (fun (i : Nat) s => (i ≤ d.length ∧ ∀ j (h : j < d.length), j < i → ssD d[j]) ∧ s = ⟨74, sp [(0, .c (scC z d)), (2, .c (bC false)), (3, nX i)], lv [], H⟩) (fun i => d.length - i) 0 ⟨_, by exact wK 74, ⟨qZ _, up0⟩, rfl⟩ (fun i s hs => ?_))
 obtain ⟨⟨hi0, hU⟩, rfl⟩ := hs
 refine AW.seq (D5 ?_)
 refine cD ?_ ?_ <;> intro h10
 rotate_left
 ·
  refine AW.exit ?_
  refine eth_e ?_
  refine eth_e ?_
  refine exit_here ?_
  refine AW.seq ?_
  have hW := upE hU (by rw [qA] at h10; omega)
  refine B2 ?_
  refine sQ (q_leq rfl rfl rfl) ?_
  refine sB ?_
  exact aR (fE (e := bCe (dI ⟨fun h => ⟨hW, by rw [qA] at h; omega⟩, fun h => by have := h.2; rw [qA]; omega⟩)))
 have hi := oI h10
 have hk := hok _ (qC hi)
 refine AW.skip (AW.seq (AW.block (D7 ?_)))
 refine AW.seq (D4 ?_)
 refine Z17 ?_ ?_ <;> intro g21
 ·
  iterate 4 refine oF ?_
  refine G2 ?_
  iterate 11 refine oF ?_
  refine G2 ?_
  refine AW.condT rfl ?_
  refine D1 ?_
  exact aR (fE (e := bCe (dF (fun h => by have h9 := (h.1 i hi).1; first | exact nd_t h39 h9.2.2 | (simp only [qA] at *; omega)))))
 refine G5 ?_
 refine Z17 ?_ ?_ <;> intro g27
 ·
  iterate 11 refine oF ?_
  refine G2 ?_
  refine AW.condT rfl ?_
  refine D1 ?_
  exact aR (fE (e := bCe (dF (fun h => by have h9 := (h.1 i hi).1; first | exact nd_t h39 h9.2.2 | (simp only [qA] at *; omega)))))
 refine G6 ?_
 refine sO (q_build2 (zs := [_, _, _, _]) (r := [_, _, _, _]) [(0, 1), (1, 1), (2, 1), (3, 1)] _ rfl ze29 rfl bp29 rfl rfl rfl rfl) ?_
 refine SeqK.xw 34 rfl (XW.g (.cons XW.reA (.cons (XW.nilU (sz := 1)) (.cons (XW.nilU (sz := 3)) (.cons XW.reA .nil))))) ?_
 refine sO (q_build2 (zs := [_, _, _, _, _, _, _, _, _, _, _, _, _, _, _, _, _, _, _, _, _, _]) (r := [_, _, _, _, _, _, _, _, _, _, _, _, _, _, _, _, _, _, _, _, _, _]) [(0, 1), (1, 1), (2, 4), (6, 1), (7, 1), (8, 1), (9, 1), (10, 8), (18, 1), (19, 1), (20, 1), (21, 1)] _ rfl ze40 rfl bp40 rfl rfl rfl rfl) ?_
 refine sO (q_buildSlice _ rfl el98 rfl (by decide) rfl) ?_
 refine sO (q_call _ rfl fn39 rfl (small_any [⟨0, d[i].nm, d[i].cols, [], [], d[i].chks⟩] .nn (by simp) (okD_of hk)) rfl) ?_
 refine G3 ?_
 refine AW.cond _ rfl (fun h39 => ?_) (fun h39 => ?_)
 ·
  refine D1 ?_
  exact aR (fE (e := bCe (dF (fun h => by have h9 := (h.1 i hi).1; first | exact nd_t h39 h9.2.2 | (simp only [qA] at *; omega)))))
 refine AW.skip (AW.seq (AW.seq ?_))
 have hF : d[i].keys.length ≤ 10 ∧ d[i].fks.length ≤ 10 := by simp only [qA] at *; omega
 have hS := nd_f h39
 refine B1 ?_
 refine AW.block (AW.loop (fun (j : Nat) s => (j ≤ d[i].keys.length ∧ ∀ k (h : k < d[i].keys.length), k < j → fewP (d[i].keys[k].length : Int) []) ∧ s = ⟨74, sp [(0, .c (scC z d)), (2, .c (bC false)), (3, nX i), (4, .lp 4 0), (5, nX j)], lv [(4, .box (zTb d[i]))], H⟩) (fun j => d[i].keys.length - j) 0 ⟨_, Wk.keep 74 [(0, .c (scC z d)), (2, .c (bC false)), (3, nX i), (4, .lp 4 0), (5, iX .i64 ((((0 : Nat)) : Nat) : Int))] [(4, .box (zTb d[i]))] (H) rfl ⟨rfl, rfl, rfl, rfl, rfl, trivial⟩ ⟨rfl, trivial⟩ (fun _ _ h => h) rfl, ⟨qZ _, up0⟩, rfl⟩ (fun j s hs => ?_))
 obtain ⟨⟨hj0, hU1⟩, rfl⟩ := hs
 refine AW.seq (D6 ?_)
 refine cD ?_ ?_ <;> intro h44
 ·
  have hj := oI h44
  refine AW.skip (AW.seq (AW.block (D6 ?_)))
  refine Z16 fn40 (few_nil _) ?_
  refine G2 ?_
  refine AW.cond _ rfl (fun h54 => ?_) (fun h54 => ?_)
  ·
   refine D1 ?_
   exact aR (fE (e := bCe (dF (fun h => nd_t h54 (by have h9 := (h.1 i hi).2.1 j hj; rw [qA]; exact h9)))))
  refine AW.skip (B3 ?_)
  exact ⟨j + 1, _, by exact wK 74, by omega, ⟨hj, upS hj hU1 (by have h9 := nd_f h54; rw [qA] at h9; exact h9)⟩, rfl⟩
 refine AW.exit ?_
 refine eth_e ?_
 refine eth_e ?_
 refine exit_here ?_
 refine AW.seq ?_
 have hA := upE hU1 (by rw [qA] at h44; omega)
 refine B1 ?_
 refine AW.block (AW.loop (fun (j : Nat) s => (j ≤ d[i].fks.length ∧ ∀ k (h : k < d[i].fks.length), k < j → fewP (d[i].fks[k].cols.length : Int) []) ∧ s = ⟨74, sp [(0, .c (scC z d)), (2, .c (bC false)), (3, nX i), (4, .lp 4 0), (6, nX j)], lv [(4, .box (zTb d[i]))], H⟩) (fun j => d[i].fks.length - j) 0 ⟨_, Wk.keep 74 [(0, .c (scC z d)), (2, .c (bC false)), (3, nX i), (4, .lp 4 0), (6, iX .i64 ((((0 : Nat)) : Nat) : Int))] [(4, .box (zTb d[i]))] (H) rfl ⟨rfl, rfl, rfl, rfl, rfl, trivial⟩ ⟨rfl, trivial⟩ (fun _ _ h => h) rfl, ⟨qZ _, up0⟩, rfl⟩ (fun j s hs => ?_))
 obtain ⟨⟨hj0, hU2⟩, rfl⟩ := hs
 refine AW.seq (D6 ?_)
 refine cD ?_ ?_ <;> intro h59
 ·
  have hj := oI h59
  refine AW.skip (AW.seq (AW.block (D7 ?_)))
  refine Z16 fn40 (few_nil _) ?_
  refine G2 ?_
  refine AW.cond _ rfl (fun h70 => ?_) (fun h70 => ?_)
  ·
   refine D1 ?_
   exact aR (fE (e := bCe (dF (fun h => nd_t h70 (by have h9 := (h.1 i hi).2.2 j hj; rw [qA]; exact h9)))))
  refine AW.skip (B3 ?_)
  exact ⟨j + 1, _, by exact wK 74, by omega, ⟨hj, upS hj hU2 (by have h9 := nd_f h70; rw [qA] at h9; exact h9)⟩, rfl⟩
 refine AW.exit ?_
 refine eth_e ?_
 refine eth_e ?_
 refine exit_here ?_
 have hB := upE hU2 (by rw [qA] at h59; omega)
 refine B3 ?_
 exact ⟨i + 1, _, by exact wK 74, by omega, ⟨hi, upS hi hU (⟨⟨hF.1, hF.2, hS⟩, hA, hB⟩)⟩, rfl⟩
abbrev dfX (d : Df) : C := .g [.t (.v (.int .i64 d.k)), .t (.v (.string d.nm)), .t (.sl .un 6 (d.cols.map coT)), .t (.sl .un 1 (d.keys.map sLT)), .t (.sl .un 3 (d.fks.map rfT)), .t (.sl .un 8 (d.chks.map exT')), nA, nA, nA, nA, zI, zS, zS, zI, zI, zI, zS, nA, nA, nA, zI, zS]
abbrev gdP (d : Df) : Prop := (nmeP d.nm ∧ d.cols.length ≠ 0) ∧ (∀ j (h : j < d.cols.length), colP d.cols[j]) ∧ (∀ j (h : j < d.keys.length), d.keys[j].length ≠ 0) ∧ ∀ j (h : j < d.fks.length), d.fks[j].cols.length ≠ 0 ∧ d.fks[j].cols.length = d.fks[j].tgt.length
abbrev nwP (s : List Tb) (d : Df) : Prop := (fstI Tb.nm d.nm s).isSome = false ∧ ndP (d.cols.map Co.nm) ∧ (∀ j (h : j < d.keys.length), ndP d.keys[j] ∧ ∀ k (hk : k < j), d.keys[j] ≠ d.keys[k]'(by omega)) ∧ ∀ j (h : j < d.fks.length), ndP d.fks[j].cols
abbrev zDf (x : Df) : List A := [.t (.v (.int .i64 x.k)), .t (.v (.string x.nm)), .t (.sl .un 6 (x.cols.map coT)), .t (.sl .un 1 (x.keys.map sLT)), .t (.sl .un 3 (x.fks.map rfT)), .t (.sl .un 8 (x.chks.map exT')), nA, nA, nA, nA, zI, zS, zS, zI, zI, zI, zS, nA, nA, nA, zI, zS]
theorem invalid_any (d : Df) (hk : okD d) : Pu 83 [dfX d] (.c (bC (decide (¬ gdP d)))) := by
 intro H
 refine Spec.enter Tryz.func83 rfl ?_
 refine AW.wk (wK 79 (l := [(0, .c (dfX d))]) (ll := []) (H := (H))) ?_
 refine D2 ?_
 refine AW.seq ?_
 have k2 := hk.cols
 have k3 := hk.keys
 have k4 := hk.fks
 refine B5 ?_
 refine AW.seq (D2 ?_)
 refine Z16 fn127 (name_any d.nm hk.nm) ?_
 refine Z38 ?_
 refine Z53 ?_ ?_ <;> intro g13
 ·
  iterate 4 refine oF ?_
  refine G2 ?_
  refine AW.condT rfl ?_
  refine D1 ?_
  exact aR (fE (e := bCe (dT (fun h => by first | exact nd_t g13 h.1.1 | (have := h.1.2; rw [qA] at h18; omega)))))
 refine G6 ?_
 refine cD ?_ ?_ <;> intro h18
 ·
  refine D1 ?_
  exact aR (fE (e := bCe (dT (fun h => by first | exact nd_t g13 h.1.1 | (have := h.1.2; rw [qA] at h18; omega)))))
 refine AW.skip (AW.seq (AW.seq ?_))
 have hN := nd_f g13
 have hN2 : d.cols.length ≠ 0 := by rw [qA] at h18; omega
 refine B1 ?_
 refine AW.block (AW.loop (fun (j : Nat) s => (j ≤ d.cols.length ∧ ∀ k (h : k < d.cols.length), k < j → colP d.cols[k]) ∧ s = ⟨79, sp [(1, .lp 1 0), (2, .c (bC false)), (3, .lp 3 0), (4, nX j)], lv [(1, .box (zDf d)), (3, .box (zDg d))], H⟩) (fun j => d.cols.length - j) 0 ⟨_, by exact wK 79, ⟨qZ _, up0⟩, rfl⟩ (fun j s hs => ?_))
 obtain ⟨⟨hj0, hU1⟩, rfl⟩ := hs
 refine AW.seq (D6 ?_)
 refine cD ?_ ?_ <;> intro h23
 ·
  have hj := oI h23
  refine AW.skip (AW.seq (AW.block (D5 ?_)))
  refine Z16 fn128 (column_any _ (hk.colsn _ (qC hj))) ?_
  refine G2 ?_
  refine AW.cond _ rfl (fun h32 => ?_) (fun h32 => ?_)
  ·
   refine D1 ?_
   exact aR (fE (e := bCe (dT (fun h => nd_t h32 (h.2.1 j hj)))))
  refine AW.skip (B3 ?_)
  exact ⟨j + 1, _, by exact wK 79, by omega, ⟨hj, upS hj hU1 (nd_f h32)⟩, rfl⟩
 refine AW.exit ?_
 refine eth_e ?_
 refine eth_e ?_
 refine exit_here ?_
 refine AW.seq (AW.seq ?_)
 have hA := upE hU1 (by rw [qA] at h23; omega)
 refine B1 ?_
 refine AW.block (AW.loop (fun (j : Nat) s => (j ≤ d.keys.length ∧ ∀ k (h : k < d.keys.length), k < j → d.keys[k].length ≠ 0) ∧ s = ⟨79, sp [(1, .lp 1 0), (2, .c (bC false)), (3, .lp 3 0), (5, nX j)], lv [(1, .box (zDf d)), (3, .box (zDg d))], H⟩) (fun j => d.keys.length - j) 0 ⟨_, by exact wK 79, ⟨qZ _, up0⟩, rfl⟩ (fun j s hs => ?_))
 obtain ⟨⟨hj0, hU2⟩, rfl⟩ := hs
 refine AW.seq (D6 ?_)
 refine cD ?_ ?_ <;> intro h37
 ·
  have hj := oI h37
  have kk := hk.keysl _ (qC hj)
  refine AW.skip (AW.seq (AW.block (D8 ?_)))
  refine cD ?_ ?_ <;> intro h46
  ·
   refine D1 ?_
   exact aR (fE (e := bCe (dT (fun h => by have := h.2.2.1 j hj; rw [qA] at h46; omega))))
  refine AW.skip (B3 ?_)
  exact ⟨j + 1, _, by exact wK 79, by omega, ⟨hj, upS hj hU2 (by rw [qA] at h46; omega)⟩, rfl⟩
 refine AW.exit ?_
 refine eth_e ?_
 refine eth_e ?_
 refine exit_here ?_
 refine AW.seq (AW.seq ?_)
 have hB := upE hU2 (by rw [qA] at h37; omega)
 refine B1 ?_
 refine AW.block (AW.loop (fun (j : Nat) s => (j ≤ d.fks.length ∧ ∀ k (h : k < d.fks.length), k < j → d.fks[k].cols.length ≠ 0 ∧ d.fks[k].cols.length = d.fks[k].tgt.length) ∧ s = ⟨79, sp [(1, .lp 1 0), (2, .c (bC false)), (3, .lp 3 0), (6, nX j)], lv [(1, .box (zDf d)), (3, .box (zDg d))], H⟩) (fun j => d.fks.length - j) 0 ⟨_, by exact wK 79, ⟨qZ _, up0⟩, rfl⟩ (fun j s hs => ?_))
 obtain ⟨⟨hj0, hU3⟩, rfl⟩ := hs
 refine AW.seq (D6 ?_)
 refine cD ?_ ?_ <;> intro h51
 rotate_left
 ·
  refine AW.exit ?_
  refine eth_e ?_
  refine eth_e ?_
  refine exit_here ?_
  refine AW.seq ?_
  have hC := upE hU3 (by rw [qA] at h51; omega)
  refine B1 ?_
  exact aR (fE (e := bCe (dF (fun h => h ⟨⟨hN, hN2⟩, hA, hB, hC⟩))))
 have hj := oI h51
 have kf := hk.fksl _ (qC hj)
 refine AW.skip (AW.seq (AW.block (AW.seq (AW.draw mo ?_))))
 refine N4 ?_
 refine lQ (q_fieldP _ rfl fl110_0 rfl rfl) ?_
 refine N1 ?_
 refine lQ (q_len rfl un51 rfl) ?_
 refine lQ (q_eql rfl rfl rfl) ?_
 refine LexK.qD (q_mvC rfl rfl) rfl rfl rfl (fun g62 => ?_) (fun g62 => ?_)
 ·
  iterate 15 refine LexK.off rfl rfl rfl rfl rfl rfl ?_
  refine lQ (q_pkT rfl rfl rfl) ?_
  refine Z43 ?_
  refine AW.condT rfl ?_
  refine D1 ?_
  exact aR (fE (e := bCe (dT (fun h => by have := h.2.2.2 j hj; simp only [qA] at *; omega))))
 refine lO (q_fieldL _ rfl fl29_2 rfl rfl) ?_
 refine LexK.rOn (b_load (r := .a _) rfl ty26 rfl rfl rfl rfl rfl rfl) rfl rfl rfl ?_
 refine lO (q_mvC rfl rfl) ?_
 refine lO (q_index _ rfl sl26 rfl rfl (by omega) (idx_map (f := rfT) hj)) ?_
 refine lO (q_fieldP _ rfl fl110_0 rfl rfl) ?_
 refine lO (q_load (.a _) rfl ty51 rfl rfl rfl) ?_
 refine lO (q_len rfl un51 rfl) ?_
 refine lO (q_fieldL _ rfl fl29_2 rfl rfl) ?_
 refine LexK.rOn (b_load (r := .a _) rfl ty26 rfl rfl rfl rfl rfl rfl) rfl rfl rfl ?_
 refine lO (q_mvC rfl rfl) ?_
 refine lO (q_index _ rfl sl26 rfl rfl (by omega) (idx_map (f := rfT) hj)) ?_
 refine lO (q_fieldP _ rfl fl110_2 rfl rfl) ?_
 refine lO (q_load (.a _) rfl ty51 rfl rfl rfl) ?_
 refine lO (q_len rfl un51 rfl) ?_
 refine lO (q_neq rfl rfl rfl) ?_
 refine lQ (q_pkF rfl rfl rfl) ?_
 refine Z43 ?_
 refine cD ?_ ?_ <;> intro h78
 ·
  refine D1 ?_
  exact aR (fE (e := bCe (dT (fun h => by have := h.2.2.2 j hj; simp only [qA] at *; omega))))
 refine AW.skip (B3 ?_)
 exact ⟨j + 1, _, by exact wK 79, by omega, ⟨hj, upS hj hU3 (by simp only [qA] at *; omega)⟩, rfl⟩
theorem exists_any (d0 : List Tb) (z : Nz) (d : Df) (h0 : d0.length ≤ 17592186044000) (hk : okD d) (hcl : d.cols.length ≤ 1000000) : Pu 84 [scC z d0, dfX d] (.c (bC (decide (¬ nwP d0 d)))) := by
  intro H
  refine Spec.enter Tryz.func84 rfl ?_
  refine AW.wk (wK 84 (l := [(0, .c (scC z d0)), (1, .c (dfX d))]) (ll := []) (H := (H))) ?_
  refine D2 ?_
  refine AW.seq ?_
  have k2 := hk.cols
  have k3 := hk.keys
  have k4 := hk.fks
  refine B5 ?_
  refine AW.seq (D3 ?_)
  refine Z16 fn98 (find_any d0 z d.nm h0) ?_
  refine G5 ?_
  refine D2 ?_
  refine AW.cond _ rfl (fun h22 => ?_) (fun h22 => ?_)
  ·
    have hf : (fstI Tb.nm d.nm d0).isSome = true := h22
    refine D1 ?_
    exact aR (fE (e := bCe (dT (fun h => by rw [h.1] at hf; cases hf))))
  ·
    have hf : (fstI Tb.nm d.nm d0).isSome = false := h22
    refine AW.skip (D1 ?_)
    refine AW.seq (D1 ?_)
    refine AW.block (AW.tip 8 9 1 rfl (fun k0 hk0 => ?_))
    refine AW.loop (fun (j : Nat) s => ∃ (kt : Nat) (zs : List (List E.T)), (j ≤ d.cols.length ∧ H kt = none ∧ zs = ((d.cols.take j).map Co.nm).map sT) ∧ s = ⟨84, sp [(0, .c (scC z d0)), (3, .lp 3 0), (4, .c (bC false)), (5, .lp 5 0), (8, .c (.a (.ts kt .ne 1 zs))), (9, nX j)], lv [(3, .box (zDf d)), (5, .box (zDg d))], upd H kt (some (.tip 9 1 zs.length))⟩) (fun j => d.cols.length - j) 0 ⟨_, by exact wK 84, k0, [], ⟨qZ _, hk0, rfl⟩, rfl⟩ (fun j s hs => ?_)
    obtain ⟨kt, zs, ⟨hj0, hkt, hzs⟩, rfl⟩ := hs
    refine AW.seq (D6 ?_)
    refine cD ?_ ?_ <;> intro h27
    ·
      have hj := oI h27
      refine AW.skip (AW.seq (AW.block (B8 ?_)))
      refine SeqK.app1 rfl (hkt) rfl el51 rfl rfl (by have := congrArg List.length hzs; rw [qA, qA, List.length_take, Nat.min_eq_left (by omega)] at this; simp; omega) rfl rfl (fun k38 hk38 => ?_)
      refine sB ?_
      refine B3 ?_
      exact ⟨j + 1, _, by exact wK 84, by omega, k38, zs ++ [sT d.cols[j].nm], ⟨hj, hk38, by rw [hzs, take_put hj, qK, qK]; rfl⟩, rfl⟩
    ·
      refine AW.exit ?_
      refine eth_e ?_
      refine eth_e ?_
      refine exit_here ?_
      refine AW.seq (AW.seq ?_)
      obtain rfl := oE h27 hj0
      rw [qT] at hzs
      refine AW.xw 8 rfl (XW.ts.trans (XW.es hzs)) ?_
      refine AW.wk (Wk.keep 84 [(0, .c (scC z d0)), (3, .lp 3 0), (4, .c (bC false)), (5, .lp 5 0), (8, .c (sL .un (d.cols.map Co.nm)))] [(3, .box (zDf d)), (5, .box (zDg d))] (H) rfl ⟨rfl, rfl, rfl, rfl, rfl, trivial⟩ ⟨rfl, rfl, trivial⟩ (fun j o h => upd_sub hkt j o h) rfl) ?_
      refine B1 ?_
      refine sQ (q_call _ rfl fn129 rfl (twice_any _ .un (by first | (rw [qA]; omega) | (have := hk.keysl _ (qC hj); omega) | (have := hk.fksl _ (qC hj); omega))) rfl) ?_
      refine Z4 ?_
      refine AW.cond _ rfl (fun h40 => ?_) (fun h40 => ?_)
      ·
        refine D1 ?_
        exact aR (fE (e := bCe (dT (fun h => jJ h40 h.2.1))))
      ·
        have hnd : ndP (d.cols.map Co.nm) := qY.1 (jK h40)
        refine AW.skip (AW.seq (D1 ?_))
        refine AW.block (AW.loop (fun (j : Nat) s => (j ≤ d.keys.length ∧ ∀ k (h : k < d.keys.length), k < j → ndP d.keys[k] ∧ ∀ m (hm : m < k), d.keys[k] ≠ d.keys[m]'(by omega)) ∧ s = ⟨84, sp [(0, .c (scC z d0)), (3, .lp 3 0), (4, .c (bC false)), (5, .lp 5 0), (10, nX j)], lv [(3, .box (zDf d)), (5, .box (zDg d))], H⟩) (fun j => d.keys.length - j) 0 ⟨_, by exact wK 84, ⟨qZ _, up0⟩, rfl⟩ (fun j s hs => ?_))
        obtain ⟨⟨hj0, hU2⟩, rfl⟩ := hs
        refine AW.seq (D6 ?_)
        refine cD ?_ ?_ <;> intro h45
        ·
          have hj := oI h45
          have kk := hk.keysl _ (qC hj)
          refine AW.skip (AW.seq (AW.block (AW.seq (D5 ?_))))
          refine sQ (q_call _ rfl fn129 rfl (twice_any _ .un (by first | (rw [qA]; omega) | (have := hk.keysl _ (qC hj); omega) | (have := hk.fksl _ (qC hj); omega))) rfl) ?_
          refine Z4 ?_
          refine AW.cond _ rfl (fun h53 => ?_) (fun h53 => ?_)
          ·
            refine D1 ?_
            exact aR (fE (e := bCe (dT (fun h => jJ h53 (h.2.2.1 j hj).1))))
          ·
            refine AW.skip (D1 ?_)
            refine AW.block (AW.loop (fun (m : Nat) s => (m ≤ j ∧ ∀ k (hk : k < m) (hi : k < j), d.keys[j] ≠ d.keys[k]'(by omega)) ∧ s = ⟨84, sp [(0, .c (scC z d0)), (3, .lp 3 0), (4, .c (bC false)), (5, .lp 5 0), (10, nX j), (11, nX m)], lv [(3, .box (zDf d)), (5, .box (zDg d))], H⟩) (fun m => j - m) 0 ⟨_, by exact wK 84, ⟨qZ _, fun k hk => absurd hk (Nat.not_lt_zero k)⟩, rfl⟩ (fun m s hs => ?_))
            obtain ⟨⟨hm0, hV⟩, rfl⟩ := hs
            refine AW.seq (D4 ?_)
            refine cD ?_ ?_ <;> intro h56
            ·
              have hm : m < j := by omega
              have hmk : m < d.keys.length := by omega
              have km := hk.keysl _ (qC hmk)
              refine AW.skip (AW.seq (AW.block (AW.seq (AW.draw mo ?_))))
              refine N10 ?_
              refine lQ (q_call _ rfl fn130 rfl (texts_any _ _ .un .un (by omega)) rfl) ?_
              refine Z43 ?_
              refine AW.cond _ rfl (fun h69 => ?_) (fun h69 => ?_)
              ·
                refine D1 ?_
                exact aR (fE (e := bCe (dT (fun h => (h.2.2.1 j hj).2 m hm (jJ h69)))))
              ·
                refine AW.skip (B3 ?_)
                exact ⟨m + 1, _, Wk.keep 84 [(0, .c (scC z d0)), (3, .lp 3 0), (4, .c (bC false)), (5, .lp 5 0), (10, nX j), (11, iX .i64 (((m + 1) : Nat) : Int))] [(3, .box (zDf d)), (5, .box (zDg d))] (H) rfl ⟨rfl, rfl, rfl, rfl, rfl, rfl, trivial⟩ ⟨rfl, rfl, trivial⟩ (fun _ _ h => h) rfl, by omega, ⟨by omega, fun k hk hki => by
                  by_cases e : k = m
                  · subst e; exact jK h69
                  · exact hV k (by omega) hki⟩, rfl⟩
            ·
              refine AW.exit ?_
              refine eth_e ?_
              refine eth_e ?_
              refine exit_here ?_
              have hVV : ∀ k (hk : k < j), d.keys[j] ≠ d.keys[k]'(by omega) := fun k hk => hV k (by omega) hk
              refine B3 ?_
              exact ⟨j + 1, _, by exact wK 84, by omega, ⟨hj, upS hj hU2 (⟨qY.1 (jK h53), hVV⟩)⟩, rfl⟩
        ·
          refine AW.exit ?_
          refine eth_e ?_
          refine eth_e ?_
          refine exit_here ?_
          refine AW.seq (AW.seq ?_)
          have hA := upE hU2 (by rw [qA] at h45; omega)
          refine B1 ?_
          refine AW.block (AW.loop (fun (j : Nat) s => (j ≤ d.fks.length ∧ ∀ k (h : k < d.fks.length), k < j → ndP d.fks[k].cols) ∧ s = ⟨84, sp [(0, .c (scC z d0)), (3, .lp 3 0), (4, .c (bC false)), (5, .lp 5 0), (12, nX j)], lv [(3, .box (zDf d)), (5, .box (zDg d))], H⟩) (fun j => d.fks.length - j) 0 ⟨_, by exact wK 84, ⟨qZ _, up0⟩, rfl⟩ (fun j s hs => ?_))
          obtain ⟨⟨hj0, hU3⟩, rfl⟩ := hs
          refine AW.seq (D6 ?_)
          refine cD ?_ ?_ <;> intro h74
          ·
            have hj := oI h74
            have kf := hk.fksl _ (qC hj)
            refine AW.skip (AW.seq (AW.block (D6 ?_)))
            refine sQ (q_call _ rfl fn129 rfl (twice_any _ .un (by first | (rw [qA]; omega) | (have := hk.keysl _ (qC hj); omega) | (have := hk.fksl _ (qC hj); omega))) rfl) ?_
            refine Z4 ?_
            refine AW.cond _ rfl (fun h83 => ?_) (fun h83 => ?_)
            ·
              refine D1 ?_
              exact aR (fE (e := bCe (dT (fun h => jJ h83 (h.2.2.2 j hj)))))
            ·
              refine AW.skip (B3 ?_)
              exact ⟨j + 1, _, by exact wK 84, by omega, ⟨hj, upS hj hU3 (qY.1 (jK h83))⟩, rfl⟩
          ·
            refine AW.exit ?_
            refine eth_e ?_
            refine eth_e ?_
            refine exit_here ?_
            refine AW.seq ?_
            have hB := upE hU3 (by rw [qA] at h74; omega)
            refine B1 ?_
            exact aR (fE (e := bCe (dF (fun h => h ⟨hf, hnd, hA, hB⟩))))
abbrev nbT (cs : List Co) (l : List ByteArray) : List Int := if nbP cs l then nbL cs l else []
theorem numbers_tup (t : Tb) (l : List ByteArray) (z : Nz) (hl : l.length ≤ 1000000) (hc : t.cols.length ≤ 17592186044000) : Pu 131 [tbC t, sL z l] (.tup [iL .un (nbT t.cols l), bC (decide (nbP t.cols l))]) := by
  have h := numbers_any t l z hl hc
  by_cases hp : nbP t.cols l
  · rw [nbX, if_pos hp] at h
    rw [nbT, if_pos hp, jH hp]; exact h
  · rw [nbX, if_neg hp] at h
    rw [nbT, if_neg hp, jI hp]; exact h
theorem fstI_lt {α : Type} {f : α → ByteArray} {u : ByteArray} : ∀ {l : List α} {n : Nat}, fstI f u l = some n → n < l.length
  | [], n, h => by cases h
  | a :: l, n, h => by
    rw [fstI] at h
    split at h
    · injection h with h; subst h; simp
    · obtain ⟨m, hm, rfl⟩ := Option.map_eq_some_iff.1 h
      have := fstI_lt hm; simp only [qM]; omega
theorem nbL_in {t : Tb} {l : List ByteArray} (h : nbP t.cols l) : insP t (nbL t.cols l) := fun j hj => by
  have hj' : j < l.length := by simpa using hj
  have h1 := h j hj'
  obtain ⟨n, hn⟩ := Option.isSome_iff_exists.1 h1
  rw [show (nbL t.cols l)[j] = (((fstI Co.nm l[j] t.cols).getD 0 : Nat) : Int) from qV _, hn]
  have := fstI_lt hn
  simp only [Option.getD_some]; omega
abbrev tb0 : Tb := ⟨⟨#[]⟩, [], [], [], []⟩
abbrev tb1 (d : Df) : Tb := ⟨d.nm, d.cols, d.keys.map (nbT d.cols), [], d.chks⟩
abbrev allS (s : List Tb) (d : Df) : List Tb := s ++ [tb1 d]
def keyU (has : Bool) (tg : List Int) (keys : List (List Int)) : Nat → Int
  | 0 => -1
  | i + 1 => if has = true ∧ keys.getD i [] = tg then (i : Int) else keyU has tg keys i
theorem keyU_has {tg : List Int} {keys : List (List Int)} : ∀ i, keyU false tg keys i = -1
  | 0 => rfl
  | i + 1 => by rw [keyU, if_neg (by simp), keyU_has i]
abbrev fTab (s : List Tb) (d : Df) (f : Rf) : Nat := (fstI Tb.nm f.tab (allS s d)).getD 0
abbrev fU (s : List Tb) (d : Df) (f : Rf) : Tb := (allS s d).getD (fTab s d f) tb0
abbrev fHas (s : List Tb) (d : Df) (f : Rf) : Bool := decide (nbP (fU s d f).cols f.tgt)
abbrev fTg (s : List Tb) (d : Df) (f : Rf) : List Int := nbT (fU s d f).cols f.tgt
abbrev fKey (s : List Tb) (d : Df) (f : Rf) : Int := keyU (fHas s d f) (fTg s d f) (fU s d f).keys (fU s d f).keys.length
abbrev fOk (s : List Tb) (d : Df) (f : Rf) : Prop := (nbP d.cols f.cols ∧ (fstI Tb.nm f.tab (allS s d)).isSome = true) ∧ 0 ≤ fKey s d f
abbrev fTy (s : List Tb) (d : Df) (f : Rf) : Prop := tysP (tb1 d) (fU s d f) (nbT d.cols f.cols) (fTg s d f)
abbrev fMk (s : List Tb) (d : Df) (f : Rf) : Fk := ⟨nbT d.cols f.cols, (fTab s d f : Int), fKey s d f⟩
abbrev tbR (s : List Tb) (d : Df) : Tb := ⟨d.nm, d.cols, d.keys.map (nbT d.cols), d.fks.map (fMk s d), d.chks⟩
abbrev tOk (s : List Tb) (d : Df) : Prop := (∀ j (h : j < d.keys.length), nbP d.cols d.keys[j]) ∧ ∀ j (h : j < d.fks.length), fOk s d d.fks[j]
abbrev tTy (s : List Tb) (d : Df) : Prop := ∀ j (h : j < d.fks.length), fTy s d d.fks[j]
abbrev tbX (s : List Tb) (d : Df) : Tb × Int := if tOk s d then (if tTy s d then (tbR s d, 0) else (tb0, 6)) else (tb0, 4)
theorem tbX_4 {s : List Tb} {d : Df} (h : ¬ tOk s d) : (tb0, (4 : Int)) = tbX s d := (if_neg h).symm
theorem tbX_6 {s : List Tb} {d : Df} (h : tOk s d) (h2 : ¬ tTy s d) : (tb0, (6 : Int)) = tbX s d := ((if_pos h).trans (if_neg h2)).symm
theorem tbX_0 {s : List Tb} {d : Df} (h : tOk s d) (h2 : tTy s d) : (tbR s d, (0 : Int)) = tbX s d := ((if_pos h).trans (if_pos h2)).symm
theorem nbT_len {cs : List Co} {l : List ByteArray} : (nbT cs l).length ≤ l.length := by
  unfold nbT; split
  · rw [qA]; omega
  · simp
theorem tbe {t : Tb} {e : Int} {p : Tb × Int} (h : (t, e) = p) : X.tup [tbC t, iC e] = .tup [tbC p.1, iC p.2] := by rw [← h]
structure okS (s : List Tb) : Prop where
  len : s.length ≤ 1000
  cols : ∀ t ∈ s, t.cols.length ≤ 17592186044000
  keys : ∀ t ∈ s, t.keys.length ≤ 17592186044000
  keysl : ∀ t ∈ s, ∀ k ∈ t.keys, k.length ≤ 17592186044000
theorem table_any (s0 : List Tb) (z : Nz) (d : Df) (hs : okS s0) (hk : okD d) (hcl : d.cols.length ≤ 1000000) (hkl : d.keys.length ≤ 1000) (hfl : d.fks.length ≤ 1000) (hg : ∀ f ∈ d.fks, f.cols.length = f.tgt.length) : Pu 85 [scC z s0, dfX d] (.tup [tbC (tbX s0 d).1, iC (tbX s0 d).2]) := by
  intro H
  refine Spec.enter Tryz.func85 rfl ?_
  refine AW.wk (wK 160 (l := [(0, .c (scC z s0)), (1, .c (dfX d))]) (ll := []) (H := (H))) ?_
  refine D3 ?_
  refine AW.seq ?_
  have q1 := hs.len
  have q2 : (allS s0 d).length = s0.length + 1 := by simp
  refine B12 ?_
  refine AW.seq (D1 ?_)
  refine AW.block (AW.tipL 6 2 43 1 rfl rfl (fun k0 hk0 => ?_))
  refine AW.loop (fun (i : Nat) s => ∃ (ka : Nat) (za : List (List E.T)), (i ≤ d.keys.length ∧ H ka = none ∧ za = ((d.keys.take i).map (nbT d.cols)).map iLT ∧ ∀ j (h : j < d.keys.length), j < i → nbP d.cols d.keys[j]) ∧ s = ⟨160, sp [(0, .c (scC z s0)), (3, .lp 3 0), (4, .lp 4 0), (6, .lp 6 0), (7, nX i)], lv [(3, .box (zDf d)), (4, .box zL1), (6, .box [.t (.v (.string d.nm)), .t (.sl .un 6 (d.cols.map coT)), .ts ka .ne 1 za, nA, .t (.sl .un 8 (d.chks.map exT'))])], (upd H ka (some (.tip 43 1 za.length)))⟩) (fun i => d.keys.length - i) 0 ⟨_, by exact wK 160, k0, [], ⟨qZ _, hk0, rfl, up0⟩, rfl⟩ (fun i s hs => ?_)
  obtain ⟨ka, za, ⟨hi0, hka, hza, hU⟩, rfl⟩ := hs
  refine AW.seq (D7 ?_)
  refine cD ?_ ?_ <;> intro h36
  ·
    have hi := oI h36
    refine AW.skip (AW.seq (AW.block (AW.seq (AW.draw mo ?_))))
    refine N7 ?_
    refine lQ (q_call _ rfl fn131 rfl (Pure.arg [] (r := [sL .un d.keys[i]]) (XW.g (xr2 (.cons (XW.ts.trans (XW.es hza)) (.cons (XW.nilU (sz := 3)) (.cons XW.reA .nil))))) (numbers_tup ⟨d.nm, d.cols, (d.keys.take i).map (nbT d.cols), [], d.chks⟩ d.keys[i] .un (hk.keysl _ (qC hi)) (by show d.cols.length ≤ _; omega))) rfl) ?_
    refine lQ (q_mvT rfl rfl) ?_
    refine N5 ?_
    refine AW.seq (D3 ?_)
    refine AW.cond _ rfl (fun h51 => ?_) (fun h51 => ?_)
    ·
      have hno := nd_t h51
      refine D3 ?_
      refine AW.xwL 4 rfl (.cons XW.reA (.cons (XW.nilU (sz := 6)) (.cons (XW.nilU (sz := 1)) (.cons (XW.nilU (sz := 3)) (.cons (XW.nilU (sz := 8)) .nil))))) ?_
      exact aR (fin_x (x := .tup [_, _]) (H) (.cellL rfl rfl ty72 rfl rfl (.tmp rfl .nil)) rfl ((fun j o h => upd_sub hka j o h)) (⟨tbe (tbX_4 (fun h => hno (h.1 i hi))), rfl⟩))
    ·
      have hyes := nd_f h51
      refine AW.skip (B4 ?_)
      refine SeqK.app1 rfl (hka) rfl el69 rfl rfl (by simp [hza]; omega) rfl rfl (fun k57 hk57 => ?_)
      refine G3 ?_
      refine B3 ?_
      exact ⟨i + 1, _, by exact wK 160, by omega, k57, za ++ [iLT (nbT d.cols d.keys[i])], ⟨hi, hk57, by rw [hza, take_put hi, qK, qK]; rfl, upS hi hU hyes⟩, rfl⟩
  ·
    refine AW.exit ?_
    refine eth_e ?_
    refine eth_e ?_
    refine exit_here ?_
    refine AW.seq ?_
    obtain rfl := oE h36 hi0
    rw [qT] at hza
    have hKall := upE hU (jA _)
    refine AW.xwL 6 rfl (xr2 (.cons (XW.ts.trans (XW.es hza)) XWs.re)) ?_
    refine AW.draw mo ?_
    refine lQ (q_build0 rfl el23) ?_
    refine Z27 ?_
    refine LexK.r (b_app0 rfl el23 rfl rfl (by have := hs.len; rw [qA]; omega) rfl rfl rfl) rfl ?_
    refine N1 ?_
    refine lQ (q_buildSlice _ rfl el23 rfl (by decide) rfl) ?_
    refine LexK.r (b_app rfl el23 rfl rfl rfl (rfl) (by have := hs.len; simp; omega) rfl rfl) rfl ?_
    refine N2 ?_
    refine AW.xw 10 rfl ((XW.tw (TW.sl (TWss.app TWss.re (.cons (.cons TW.re (.cons TW.re (.cons TW.re (.cons TW.nil (.cons TW.re .nil))))) .nil)))).trans (XW.es (es' := (allS s0 d).map tbT) (by rw [qK]; rfl))) ?_
    refine D1 ?_
    refine AW.seq (D1 ?_)
    refine AW.block (AW.tipL 6 3 101 3 rfl rfl (fun k0 hk0 => ?_))
    refine AW.loop (fun (i : Nat) s => ∃ (kb : Nat) (zb : List (List E.T)) (ok : Bool), (i ≤ d.fks.length ∧ (upd H ka (some (.tip 43 1 za.length))) kb = none ∧ zb = ((d.fks.take i).map (fMk s0 d)).map fkT ∧ (∀ j (h : j < d.fks.length), j < i → fOk s0 d d.fks[j]) ∧ (ok = true ↔ ∀ j (h : j < d.fks.length), j < i → fTy s0 d d.fks[j])) ∧ s = ⟨160, sp [(3, .lp 3 0), (4, .lp 4 0), (6, .lp 6 0), (10, .c (scC .un (allS s0 d))), (11, .c (iC (if ok then 0 else 6))), (12, nX i)], lv [(3, .box (zDf d)), (4, .box zL1), (6, .box [.t (.v (.string d.nm)), .t (.sl .un 6 (d.cols.map coT)), .t (.sl .un 1 ((d.keys.map (nbT d.cols)).map iLT)), .ts kb .ne 3 zb, .t (.sl .un 8 (d.chks.map exT'))])], (upd (upd H ka (some (.tip 43 1 za.length))) kb (some (.tip 101 3 zb.length)))⟩) (fun i => d.fks.length - i) 0 ⟨_, by exact wK 160, k0, [], true, ⟨qZ _, hk0, rfl, up0, ⟨fun _ => up0, fun _ => rfl⟩⟩, rfl⟩ (fun i s hs => ?_)
    obtain ⟨kb, zb, ok, ⟨hi0, hkb, hzb, hV, hW⟩, rfl⟩ := hs
    refine AW.seq (D7 ?_)
    refine cD ?_ ?_ <;> intro h70
    ·
      have hi := oI h70
      have hfc := (hk.fksl _ (qC hi)).1
      have hft := (hk.fksl _ (qC hi)).2
      refine AW.skip (AW.seq (AW.block (D9 ?_)))
      refine D3 ?_
      refine sQ (q_call _ rfl fn131 rfl (Pure.arg [] (r := [sL .un d.fks[i].cols]) (XW.g (xr2 (xr1 (.cons (XW.ts.trans (XW.es hzb)) (.cons XW.reA .nil))))) (numbers_tup ⟨d.nm, d.cols, d.keys.map (nbT d.cols), (d.fks.take i).map (fMk s0 d), d.chks⟩ d.fks[i].cols .un hfc (by show d.cols.length ≤ _; omega))) rfl) ?_
      refine G5 ?_
      refine D3 ?_
      refine sQ (q_call _ rfl fn98 rfl (find_any (allS s0 d) .un d.fks[i].tab (by omega)) rfl) ?_
      refine G5 ?_
      refine AW.seq (D2 ?_)
      refine Z53 ?_ ?_ <;> intro g95
      ·
        have hnk : ¬ fOk s0 d d.fks[i] := fun h => nd_t g95 h.1.1
        iterate 2 refine oF ?_
        refine G2 ?_
        refine AW.condT rfl ?_
        refine D3 ?_
        refine AW.xwL 4 rfl (.cons XW.reA (.cons (XW.nilU (sz := 6)) (.cons (XW.nilU (sz := 1)) (.cons (XW.nilU (sz := 3)) (.cons (XW.nilU (sz := 8)) .nil))))) ?_
        exact aR (fin_x (x := .tup [_, _]) (H) (.cellL rfl rfl ty72 rfl rfl (.tmp rfl .nil)) rfl ((fun j o h => upd_sub hkb j o (upd_sub hka j o h))) (⟨tbe (tbX_4 (fun h => hnk (h.2 i hi))), rfl⟩))
      ·
        refine G4 ?_
        refine AW.cond _ rfl (fun h98 => ?_) (fun h98 => ?_)
        ·
          have hnk : ¬ fOk s0 d d.fks[i] := fun h => by have := h.1.2; rw [this] at h98; cases h98
          refine D3 ?_
          refine AW.xwL 4 rfl (.cons XW.reA (.cons (XW.nilU (sz := 6)) (.cons (XW.nilU (sz := 1)) (.cons (XW.nilU (sz := 3)) (.cons (XW.nilU (sz := 8)) .nil))))) ?_
          exact aR (fin_x (x := .tup [_, _]) (H) (.cellL rfl rfl ty72 rfl rfl (.tmp rfl .nil)) rfl ((fun j o h => upd_sub hkb j o (upd_sub hka j o h))) (⟨tbe (tbX_4 (fun h => hnk (h.2 i hi))), rfl⟩))
        ·
          refine AW.skip (AW.seq ?_)
          have hok1 := nd_f g95
          have hok2 : (fstI Tb.nm d.fks[i].tab (allS s0 d)).isSome = true := by simpa using h98
          obtain ⟨nn, hnn⟩ := Option.isSome_iff_exists.1 hok2
          have hnl := fstI_lt hnn
          have hfT : fTab s0 d d.fks[i] = nn := by show ((fstI Tb.nm d.fks[i].tab (allS s0 d)).getD 0) = nn; rw [hnn]; rfl
          have hfl2 : fTab s0 d d.fks[i] < (allS s0 d).length := by rw [hfT]; exact hnl
          have hUe : (fU s0 d d.fks[i]) = (allS s0 d)[fTab s0 d d.fks[i]] := by show (allS s0 d).getD _ tb0 = _; rw [qI, qF hfl2]; rfl
          have hUm : (fU s0 d d.fks[i]) ∈ (allS s0 d) := by rw [hUe]; exact qC _
          have hUc : (fU s0 d d.fks[i]).cols.length ≤ 17592186044000 := by rcases jC.1 hUm with h | h; exact hs.cols _ h; rw [jF.1 h]; show d.cols.length ≤ _; omega
          have hUk : (fU s0 d d.fks[i]).keys.length ≤ 17592186044000 := by rcases jC.1 hUm with h | h; exact hs.keys _ h; rw [jF.1 h]; show (List.map _ _).length ≤ _; rw [qA]; omega
          have hUkk : ∀ k ∈ (fU s0 d d.fks[i]).keys, k.length ≤ 17592186044000 := by
            rcases jC.1 hUm with h | h
            · exact hs.keysl _ h
            · rw [jF.1 h]
              intro k hk2
              obtain ⟨y, hy, rfl⟩ := jE.1 hk2
              have k1 := nbT_len (cs := d.cols) (l := y)
              have k2 := hk.keysl y hy
              omega
          have hidx : ((allS s0 d).map tbT)[((fTab s0 d d.fks[i] : Nat) : Int).toNat]? = some (tbT (fU s0 d d.fks[i])) := by rw [Int.toNat_natCast, qR, qF hfl2, ← hUe]; rfl
          refine AW.draw mo ?_
          refine N2 ?_
          refine Z28 sl23 (hidx) ?_
          refine N3 ?_
          refine Z35 fn131 (numbers_tup (fU s0 d d.fks[i]) d.fks[i].tgt .un hft hUc) ?_
          refine lQ (q_mvT rfl rfl) ?_
          refine N5 ?_
          refine D1 ?_
          refine AW.seq (D1 ?_)
          refine AW.block (AW.loop (fun (j : Nat) s => (j ≤ (fU s0 d d.fks[i]).keys.length) ∧ s = ⟨160, sp [(3, .lp 3 0), (4, .lp 4 0), (6, .lp 6 0), (10, .c (scC .un (allS s0 d))), (11, .c (iC (if ok then 0 else 6))), (12, nX i), (13, .lp 13 0), (14, .c (iL .un (nbT d.cols d.fks[i].cols))), (16, iX .i64 ((fTab s0 d d.fks[i] : Nat) : Int)), (18, .c (iL .un (fTg s0 d d.fks[i]))), (19, .c (bC (fHas s0 d d.fks[i]))), (20, .c (iC (keyU (fHas s0 d d.fks[i]) (fTg s0 d d.fks[i]) (fU s0 d d.fks[i]).keys j))), (21, nX j)], lv [(3, .box (zDf d)), (4, .box zL1), (6, .box [.t (.v (.string d.nm)), .t (.sl .un 6 (d.cols.map coT)), .t (.sl .un 1 ((d.keys.map (nbT d.cols)).map iLT)), .ts kb .ne 3 zb, .t (.sl .un 8 (d.chks.map exT'))]), (13, .box [.t (.sl .un 1 (d.fks[i].cols.map sT)), .t (.v (.string d.fks[i].tab)), .t (.sl .un 1 (d.fks[i].tgt.map sT))])], (upd (upd H ka (some (.tip 43 1 za.length))) kb (some (.tip 101 3 zb.length)))⟩) (fun j => (fU s0 d d.fks[i]).keys.length - j) 0 ⟨_, Wk.keep 160 [(3, .lp 3 0), (4, .lp 4 0), (6, .lp 6 0), (10, .c (scC .un (allS s0 d))), (11, .c (iC (if ok then 0 else 6))), (12, nX i), (13, .lp 13 0), (14, .c (iL .un (nbT d.cols d.fks[i].cols))), (16, iX .i64 ((fTab s0 d d.fks[i] : Nat) : Int)), (18, .c (iL .un (fTg s0 d d.fks[i]))), (19, .c (bC (fHas s0 d d.fks[i]))), (20, .c (iC (keyU (fHas s0 d d.fks[i]) (fTg s0 d d.fks[i]) (fU s0 d d.fks[i]).keys ((0 : Nat))))), (21, iX .i64 ((((0 : Nat)) : Nat) : Int))] [(3, .box (zDf d)), (4, .box zL1), (6, .box [.t (.v (.string d.nm)), .t (.sl .un 6 (d.cols.map coT)), .t (.sl .un 1 ((d.keys.map (nbT d.cols)).map iLT)), .ts kb .ne 3 zb, .t (.sl .un 8 (d.chks.map exT'))]), (13, .box [.t (.sl .un 1 (d.fks[i].cols.map sT)), .t (.v (.string d.fks[i].tab)), .t (.sl .un 1 (d.fks[i].tgt.map sT))])] ((upd (upd H ka (some (.tip 43 1 za.length))) kb (some (.tip 101 3 zb.length)))) rfl ⟨rfl, rfl, rfl, rfl, rfl, rfl, rfl, rfl, rfl, rfl, rfl, rfl, rfl, trivial⟩ ⟨rfl, rfl, rfl, rfl, trivial⟩ (fun _ _ h => h) rfl, qZ _, rfl⟩ (fun j s hs => ?_))
          obtain ⟨hj0, rfl⟩ := hs
          refine AW.seq (D3 ?_)
          refine Z12 sl23 (hidx) ?_
          refine G5 ?_
          refine cD ?_ ?_ <;> intro h117
          ·
            have hj := oI h117
            have hjd : (fU s0 d d.fks[i]).keys.getD j [] = (fU s0 d d.fks[i]).keys[j] := by rw [qI, qF hj]; rfl
            have hkjl := hUkk _ (qC hj)
            refine AW.skip (AW.seq (AW.block (D1 ?_)))
            refine Z53 ?_ ?_ <;> intro g121
            ·
              refine G2 ?_
              refine Z50 sl23 (hidx) ?_
              refine sO (q_fieldP _ rfl fl72_2 rfl rfl) ?_
              refine G5 ?_
              refine sO (q_call _ rfl fn132 rfl (ints_any _ _ .un .un (by omega)) rfl) ?_
              refine G2 ?_
              refine AW.cond _ rfl (fun h132 => ?_) (fun h132 => ?_)
              ·
                refine B2 ?_
                refine AW.wk (Wk.keep 160 [(3, .lp 3 0), (4, .lp 4 0), (6, .lp 6 0), (10, .c (scC .un (allS s0 d))), (11, .c (iC (if ok then 0 else 6))), (12, nX i), (13, .lp 13 0), (14, .c (iL .un (nbT d.cols d.fks[i].cols))), (16, iX .i64 ((fTab s0 d d.fks[i] : Nat) : Int)), (18, .c (iL .un (fTg s0 d d.fks[i]))), (19, .c (bC (fHas s0 d d.fks[i]))), (20, .c (iC (keyU (fHas s0 d d.fks[i]) (fTg s0 d d.fks[i]) (fU s0 d d.fks[i]).keys (j + 1)))), (21, nX j)] [(3, .box (zDf d)), (4, .box zL1), (6, .box [.t (.v (.string d.nm)), .t (.sl .un 6 (d.cols.map coT)), .t (.sl .un 1 ((d.keys.map (nbT d.cols)).map iLT)), .ts kb .ne 3 zb, .t (.sl .un 8 (d.chks.map exT'))]), (13, .box [.t (.sl .un 1 (d.fks[i].cols.map sT)), .t (.v (.string d.fks[i].tab)), .t (.sl .un 1 (d.fks[i].tgt.map sT))])] ((upd (upd H ka (some (.tip 43 1 za.length))) kb (some (.tip 101 3 zb.length)))) rfl ⟨rfl, rfl, rfl, rfl, rfl, rfl, rfl, rfl, rfl, rfl, rfl, (iCe (by rw [keyU, if_pos ⟨g121, hjd.trans (jJ h132)⟩])), rfl, trivial⟩ ⟨rfl, rfl, rfl, rfl, trivial⟩ (fun _ _ h => h) rfl) ?_
                refine B3 ?_
                exact ⟨j + 1, _, by exact wK 160, by omega, hj, rfl⟩
              ·
                refine AW.skip (AW.wk (Wk.keep 160 [(3, .lp 3 0), (4, .lp 4 0), (6, .lp 6 0), (10, .c (scC .un (allS s0 d))), (11, .c (iC (if ok then 0 else 6))), (12, nX i), (13, .lp 13 0), (14, .c (iL .un (nbT d.cols d.fks[i].cols))), (16, iX .i64 ((fTab s0 d d.fks[i] : Nat) : Int)), (18, .c (iL .un (fTg s0 d d.fks[i]))), (19, .c (bC (fHas s0 d d.fks[i]))), (20, .c (iC (keyU (fHas s0 d d.fks[i]) (fTg s0 d d.fks[i]) (fU s0 d d.fks[i]).keys (j + 1)))), (21, nX j)] [(3, .box (zDf d)), (4, .box zL1), (6, .box [.t (.v (.string d.nm)), .t (.sl .un 6 (d.cols.map coT)), .t (.sl .un 1 ((d.keys.map (nbT d.cols)).map iLT)), .ts kb .ne 3 zb, .t (.sl .un 8 (d.chks.map exT'))]), (13, .box [.t (.sl .un 1 (d.fks[i].cols.map sT)), .t (.v (.string d.fks[i].tab)), .t (.sl .un 1 (d.fks[i].tgt.map sT))])] ((upd (upd H ka (some (.tip 43 1 za.length))) kb (some (.tip 101 3 zb.length)))) rfl ⟨rfl, rfl, rfl, rfl, rfl, rfl, rfl, rfl, rfl, rfl, rfl, (iCe (by rw [keyU, if_neg (fun h => (jK h132) (hjd.symm.trans h.2))])), rfl, trivial⟩ ⟨rfl, rfl, rfl, rfl, trivial⟩ (fun _ _ h => h) rfl) ?_)
                refine B3 ?_
                exact ⟨j + 1, _, by exact wK 160, by omega, hj, rfl⟩
            ·
              iterate 10 refine oF ?_
              refine G2 ?_
              refine AW.condF rfl ?_
              refine AW.skip (AW.wk (Wk.keep 160 [(3, .lp 3 0), (4, .lp 4 0), (6, .lp 6 0), (10, .c (scC .un (allS s0 d))), (11, .c (iC (if ok then 0 else 6))), (12, nX i), (13, .lp 13 0), (14, .c (iL .un (nbT d.cols d.fks[i].cols))), (16, iX .i64 ((fTab s0 d d.fks[i] : Nat) : Int)), (18, .c (iL .un (fTg s0 d d.fks[i]))), (19, .c (bC (fHas s0 d d.fks[i]))), (20, .c (iC (keyU (fHas s0 d d.fks[i]) (fTg s0 d d.fks[i]) (fU s0 d d.fks[i]).keys (j + 1)))), (21, nX j)] [(3, .box (zDf d)), (4, .box zL1), (6, .box [.t (.v (.string d.nm)), .t (.sl .un 6 (d.cols.map coT)), .t (.sl .un 1 ((d.keys.map (nbT d.cols)).map iLT)), .ts kb .ne 3 zb, .t (.sl .un 8 (d.chks.map exT'))]), (13, .box [.t (.sl .un 1 (d.fks[i].cols.map sT)), .t (.v (.string d.fks[i].tab)), .t (.sl .un 1 (d.fks[i].tgt.map sT))])] ((upd (upd H ka (some (.tip 43 1 za.length))) kb (some (.tip 101 3 zb.length)))) rfl ⟨rfl, rfl, rfl, rfl, rfl, rfl, rfl, rfl, rfl, rfl, rfl, (iCe (by rw [keyU, if_neg (fun h => by have e := h.1; rw [show fHas s0 d d.fks[i] = false from g121] at e; cases e)])), rfl, trivial⟩ ⟨rfl, rfl, rfl, rfl, trivial⟩ (fun _ _ h => h) rfl) ?_)
              refine B3 ?_
              exact ⟨j + 1, _, by exact wK 160, by omega, hj, rfl⟩
          ·
            refine AW.exit ?_
            refine eth_e ?_
            refine eth_e ?_
            refine exit_here ?_
            refine AW.seq (AW.seq ?_)
            obtain rfl : j = (fU s0 d d.fks[i]).keys.length := by rw [qA] at h117; omega
            refine B3 ?_
            refine cD ?_ ?_ <;> intro h135
            ·
              have hnk : ¬ fOk s0 d d.fks[i] := fun h => by have h2 : 0 ≤ keyU (fHas s0 d d.fks[i]) (fTg s0 d d.fks[i]) (fU s0 d d.fks[i]).keys (fU s0 d d.fks[i]).keys.length := h.2; omega
              refine D3 ?_
              refine AW.xwL 4 rfl (.cons XW.reA (.cons (XW.nilU (sz := 6)) (.cons (XW.nilU (sz := 1)) (.cons (XW.nilU (sz := 3)) (.cons (XW.nilU (sz := 8)) .nil))))) ?_
              exact aR (fin_x (x := .tup [_, _]) (H) (.cellL rfl rfl ty72 rfl rfl (.tmp rfl .nil)) rfl ((fun j o h => upd_sub hkb j o (upd_sub hka j o h))) (⟨tbe (tbX_4 (fun h => hnk (h.2 i hi))), rfl⟩))
            ·
              refine AW.skip (AW.seq (AW.seq ?_))
              have hK0 : 0 ≤ fKey s0 d d.fks[i] := by show 0 ≤ keyU (fHas s0 d d.fks[i]) (fTg s0 d d.fks[i]) (fU s0 d d.fks[i]).keys (fU s0 d d.fks[i]).keys.length; omega
              have hHas : nbP (fU s0 d d.fks[i]).cols d.fks[i].tgt := by
                by_cases hp : nbP (fU s0 d d.fks[i]).cols d.fks[i].tgt
                · exact hp
                · have e : fHas s0 d d.fks[i] = false := jI hp
                  have : fKey s0 d d.fks[i] = -1 := by rw [fKey, e, keyU_has]
                  omega
              have eTa : nbT d.cols d.fks[i].cols = nbL d.cols d.fks[i].cols := if_pos hok1
              have eTb : fTg s0 d d.fks[i] = nbL (fU s0 d d.fks[i]).cols d.fks[i].tgt := if_pos hHas
              have hTl : (nbT d.cols d.fks[i].cols).length ≤ 17592186044000 := by rw [eTa, qA]; omega
              have hTab : (nbT d.cols d.fks[i].cols).length ≤ (fTg s0 d d.fks[i]).length := by rw [eTa, eTb, qA, qA, hg _ (qC hi)]; omega
              have hTa : insP ⟨d.nm, d.cols, d.keys.map (nbT d.cols), (d.fks.take i).map (fMk s0 d), d.chks⟩ (nbT d.cols d.fks[i].cols) := by rw [eTa]; exact nbL_in (t := ⟨d.nm, d.cols, d.keys.map (nbT d.cols), (d.fks.take i).map (fMk s0 d), d.chks⟩) hok1
              have hTb : insP (fU s0 d d.fks[i]) (fTg s0 d d.fks[i]) := by rw [eTb]; exact nbL_in hHas
              have hfo : fOk s0 d d.fks[i] := ⟨⟨hok1, hok2⟩, hK0⟩
              refine AW.draw mo ?_
              refine N3 ?_
              refine Z28 sl23 (hidx) ?_
              refine N3 ?_
              refine Z35 fn133 (Pure.arg [] (r := [tbC (fU s0 d d.fks[i]), iL .un (nbT d.cols d.fks[i].cols), iL .un (fTg s0 d d.fks[i])]) (XW.g (xr2 (xr1 (.cons (XW.ts.trans (XW.es hzb)) (.cons XW.reA .nil))))) (types_any ⟨d.nm, d.cols, d.keys.map (nbT d.cols), (d.fks.take i).map (fMk s0 d), d.chks⟩ (fU s0 d d.fks[i]) (nbT d.cols d.fks[i].cols) (fTg s0 d d.fks[i]) .un .un hTl hTab hTa hTb)) ?_
              refine lQ (q_not rfl rfl) ?_
              refine Z43 ?_
              refine AW.cond _ rfl (fun h145 => ?_) (fun h145 => ?_)
              ·
                refine B1 ?_
                refine B7 ?_
                refine SeqK.app1 rfl (hkb) rfl el70 rfl rfl (by simp [hzb]; omega) rfl rfl (fun k153 hk153 => ?_)
                refine G3 ?_
                refine B3 ?_
                exact ⟨i + 1, _, by exact wK 160, by omega, k153, zb ++ [fkT (fMk s0 d d.fks[i])], false, ⟨hi, hk153, by rw [hzb, take_put hi, qK, qK]; rfl, upS hi hV hfo, ⟨fun e => (by cases e), fun e => absurd (e i hi (Nat.lt_succ_self i)) (nd_t h145)⟩⟩, rfl⟩
              ·
                refine AW.skip (B7 ?_)
                refine SeqK.app1 rfl (hkb) rfl el70 rfl rfl (by simp [hzb]; omega) rfl rfl (fun k153 hk153 => ?_)
                refine G3 ?_
                refine B3 ?_
                exact ⟨i + 1, _, by exact wK 160, by omega, k153, zb ++ [fkT (fMk s0 d d.fks[i])], ok, ⟨hi, hk153, by rw [hzb, take_put hi, qK, qK]; rfl, upS hi hV hfo, hW.trans ⟨fun e => upS hi e (nd_f h145), fun e j hj hji => e j hj (by omega)⟩⟩, rfl⟩
    ·
      refine AW.exit ?_
      refine eth_e ?_
      refine eth_e ?_
      refine exit_here ?_
      refine AW.seq (AW.seq ?_)
      obtain rfl := oE h70 hi0
      rw [qT] at hzb
      have hFall := upE hV (jA _)
      have htok : tOk s0 d := ⟨hKall, hFall⟩
      refine B3 ?_
      refine cD ?_ ?_ <;> intro h156
      ·
        obtain rfl : ok = false := by cases ok with | false => rfl | true => exact absurd rfl h156
        have hnt : ¬ tTy s0 d := fun h => by have := hW.2 (fun j hj _ => h j hj); cases this
        refine D4 ?_
        refine AW.xwL 4 rfl (.cons XW.reA (.cons (XW.nilU (sz := 6)) (.cons (XW.nilU (sz := 1)) (.cons (XW.nilU (sz := 3)) (.cons (XW.nilU (sz := 8)) .nil))))) ?_
        exact aR (fin_x (x := .tup [_, _]) (H) (.cellL rfl rfl ty72 rfl rfl (.tmp rfl .nil)) rfl ((fun j o h => upd_sub hkb j o (upd_sub hka j o h))) (⟨tbe (tbX_6 htok hnt), rfl⟩))
      ·
        obtain rfl : ok = true := by cases ok with | true => rfl | false => exact absurd h156 (by simp)
        have hty : tTy s0 d := fun j hj => hW.1 rfl j hj hj
        refine AW.skip (D1 ?_)
        refine SeqK.xw 159 rfl (XW.g (xr2 (xr1 (.cons (XW.ts.trans (XW.es hzb)) (.cons XW.reA .nil))))) ?_
        refine G2 ?_
        exact aR (fin_x (x := .tup [_, _]) (H) (.cellL rfl rfl ty72 rfl rfl (.tmp rfl .nil)) rfl ((fun j o h => upd_sub hkb j o (upd_sub hka j o h))) (⟨tbe (tbX_0 htok hty), rfl⟩))
abbrev tbAt (s : List Tb) (v : Int) : Tb := s.getD v.toNat tb0
theorem tbAt_get {s : List Tb} {v : Int} (h : v.toNat < s.length) : tbAt s v = s[v.toNat] := by
  show s.getD v.toNat tb0 = _; rw [qI, qF h]; rfl
abbrev fkP (s : List Tb) (j : Nat) (t : Tb) (f : Fk) : Prop := insP t f.cols ∧ (0 ≤ f.tab ∧ f.tab ≤ j) ∧ 0 ≤ f.key ∧ f.key < (tbAt s f.tab).keys.length
abbrev tvP (s : List Tb) (j : Nat) (t : Tb) : Prop := (∀ k (h : k < t.keys.length), insP t t.keys[k]) ∧ ∀ k (h : k < t.fks.length), fkP s j t t.fks[k]
abbrev vP (s : List Tb) : Prop := ∀ j (h : j < s.length), tvP s j s[j]
abbrev nmsOf (t : Tb) (l : List Int) : List ByteArray := l.map fun v => (colAt t v).nm
abbrev rfOf (s : List Tb) (t : Tb) (f : Fk) : Rf := ⟨nmsOf t f.cols, (tbAt s f.tab).nm, nmsOf (tbAt s f.tab) ((tbAt s f.tab).keys.getD f.key.toNat [])⟩
abbrev dfOf (s : List Tb) (t : Tb) : Df := ⟨1, t.nm, t.cols, t.keys.map (nmsOf t), t.fks.map (rfOf s t), t.chks⟩
structure okV (s : List Tb) : Prop where
  cols : ∀ t ∈ s, t.cols.length ≤ 17592186044000
  keys : ∀ t ∈ s, t.keys.length ≤ 1000
  keysl : ∀ t ∈ s, ∀ k ∈ t.keys, k.length ≤ 1000
  fks : ∀ t ∈ s, t.fks.length ≤ 1000
  fksl : ∀ t ∈ s, ∀ f ∈ t.fks, f.cols.length ≤ 1000
theorem definition_any (s0 : List Tb) (z : Nz) (i : Nat) (hi : i < s0.length) (hv : vP s0) (ho : okV s0) : Pu 42 [scC z s0, iC (i : Int)] (.c (dfX (dfOf s0 s0[i]))) := by
 intro H
 refine Spec.enter Tryz.func42 rfl ?_
 refine AW.wk (wK 87 (l := [(0, .c (scC z s0)), (1, .c (iC (i : Int)))]) (ll := []) (H := (H))) ?_
 refine D2 ?_
 refine AW.seq ?_
 have hti := hv i hi
 have hm := qC hi
 have q1 := ho.cols _ hm
 have q2 := ho.keys _ hm
 have q3 := ho.fks _ hm
 refine B7 ?_
 refine D6 ?_
 refine AW.seq (AW.draw mo ?_)
 refine N11 ?_
 refine AW.seq (D1 ?_)
 refine AW.block (AW.tipL 6 3 51 1 rfl rfl (fun k0 hk0 => ?_))
 refine AW.loop (fun (j : Nat) s => ∃ (ka : Nat) (za : List (List E.T)), (j ≤ s0[i].keys.length ∧ H ka = none ∧ za = ((s0[i].keys.take j).map (nmsOf s0[i])).map sLT) ∧ s = ⟨87, sp [(0, .c (scC z s0)), (4, .lp 4 0), (5, .lp 5 0), (6, .lp 6 0), (7, nX j)], lv [(4, .box zL3), (5, .box (zTb s0[i])), (6, .box [.t (.v (.int .i64 1)), .t (.v (.string s0[i].nm)), .t (.sl .un 6 (s0[i].cols.map coT)), .ts ka .ne 1 za, nA, .t (.sl .un 8 (s0[i].chks.map exT')), nA, nA, nA, nA, zI, zS, zS, zI, zI, zI, zS, nA, nA, nA, zI, zS])], (upd H ka (some (.tip 51 1 za.length)))⟩) (fun j => s0[i].keys.length - j) 0 ⟨_, Wk.keep 87 [(0, .c (scC z s0)), (4, .lp 4 0), (5, .lp 5 0), (6, .lp 6 0), (7, iX .i64 ((((0 : Nat)) : Nat) : Int))] [(4, .box zL3), (5, .box (zTb s0[i])), (6, .box [.t (.v (.int .i64 1)), .t (.v (.string s0[i].nm)), .t (.sl .un 6 (s0[i].cols.map coT)), .ts (k0) .ne 1 ([]), nA, .t (.sl .un 8 (s0[i].chks.map exT')), nA, nA, nA, nA, zI, zS, zS, zI, zI, zI, zS, nA, nA, nA, zI, zS])] ((upd H (k0) (some (.tip 51 1 ([]).length)))) rfl ⟨rfl, rfl, rfl, rfl, rfl, trivial⟩ ⟨rfl, rfl, rfl, trivial⟩ (fun _ _ h => h) rfl, k0, [], ⟨qZ _, hk0, rfl⟩, rfl⟩ (fun j s hs => ?_)
 obtain ⟨ka, za, ⟨hj0, hka, hza⟩, rfl⟩ := hs
 refine AW.seq (D6 ?_)
 refine cD ?_ ?_ <;> intro h30
 ·
  have hj := oI h30
  have q4 := ho.keysl _ hm _ (qC hj)
  refine AW.skip (AW.seq (AW.block (AW.drawO [0, 1, 2, 3, 4, 5, 6, 7, 8, 9, 10, 11, 12, 13, 14] mo (by kernel_rfl) ?_)))
  refine LexO.q rfl (by kernel_rfl) (q_fieldL _ rfl fl40_2 rfl rfl) rfl rfl rfl ?_
  refine LexO.q rfl (by kernel_rfl) (q_fieldL _ rfl fl29_1 rfl rfl) rfl rfl rfl ?_
  refine LexO.r rfl (by kernel_rfl) (b_load (r := .a _) rfl ty25 rfl rfl rfl rfl rfl rfl) rfl ?_
  refine LexO.r rfl (by kernel_rfl) (b_load (r := .g [_, _, _, _, _]) rfl ty72 rfl rfl rfl rfl rfl rfl) rfl ?_
  refine LexO.q rfl (by kernel_rfl) (q_fieldL _ rfl fl72_2 rfl rfl) rfl rfl rfl ?_
  refine LexO.r rfl (by kernel_rfl) (b_load (r := .a _) rfl ty69 rfl rfl rfl rfl rfl rfl) rfl ?_
  refine LexO.q rfl (by kernel_rfl) (q_mvC rfl rfl) rfl rfl rfl ?_
  refine LexO.q rfl (by kernel_rfl) (q_index _ rfl sl69 rfl rfl (by omega) (idx_map (f := iLT) hj)) rfl rfl rfl ?_
  refine LexO.q rfl (by kernel_rfl) (q_load (.a _) rfl ty43 rfl rfl rfl) rfl rfl rfl ?_
  refine LexO.q rfl (by kernel_rfl) (q_call _ rfl fn82 rfl (names_any s0[i] s0[i].keys[j] .un (by omega) (hti.1 j hj) q1) rfl) rfl rfl rfl ?_
  refine LexO.q rfl (by kernel_rfl) (q_buildSlice _ rfl el25 rfl (by decide) rfl) rfl rfl rfl ?_
  refine LexO.app1 rfl (by kernel_rfl) (by kernel_rfl) (by kernel_rfl) rfl (hka) rfl el25 rfl rfl (by simp [hza]; omega) rfl rfl (fun k44 hk44 => ?_)
  refine LexO.q rfl (by kernel_rfl) (q_fieldL _ rfl fl40_2 rfl rfl) rfl rfl rfl ?_
  refine LexO.q rfl (by kernel_rfl) (q_fieldL _ rfl fl29_1 rfl rfl) rfl rfl rfl ?_
  refine LexO.r rfl (by kernel_rfl) (b_store (r := [_, _, _, _, _, _, _, _, _, _, _, _, _, _, _, _, _, _, _, _, _, _]) rfl rfl ty25 rfl rfl rfl rfl rfl rfl) rfl ?_
  refine LexO.nil (by kernel_rfl) ?_
  refine B3 ?_
  exact ⟨j + 1, _, by exact wK 87, by omega, k44, za ++ [sLT (nmsOf s0[i] s0[i].keys[j])], ⟨hj, hk44, by rw [hza, take_put hj, qK, qK]; rfl⟩, rfl⟩
 refine AW.exit ?_
 refine eth_e ?_
 refine eth_e ?_
 refine exit_here ?_
 refine AW.seq (AW.seq ?_)
 obtain rfl := oE h30 hj0
 rw [qT] at hza
 refine B1 ?_
 refine AW.block (AW.tipL 6 4 110 3 rfl rfl (fun k0 hk0 => ?_))
 refine AW.loop (fun (j : Nat) s => ∃ (kb : Nat) (zb : List (List E.T)), (j ≤ s0[i].fks.length ∧ (upd H ka (some (.tip 51 1 za.length))) kb = none ∧ zb = ((s0[i].fks.take j).map (rfOf s0 s0[i])).map rfT) ∧ s = ⟨87, sp [(0, .c (scC z s0)), (4, .lp 4 0), (5, .lp 5 0), (6, .lp 6 0), (8, nX j)], lv [(4, .box zL3), (5, .box (zTb s0[i])), (6, .box [.t (.v (.int .i64 1)), .t (.v (.string s0[i].nm)), .t (.sl .un 6 (s0[i].cols.map coT)), .ts ka .ne 1 za, .ts kb .ne 3 zb, .t (.sl .un 8 (s0[i].chks.map exT')), nA, nA, nA, nA, zI, zS, zS, zI, zI, zI, zS, nA, nA, nA, zI, zS])], (upd (upd H ka (some (.tip 51 1 za.length))) kb (some (.tip 110 3 zb.length)))⟩) (fun j => s0[i].fks.length - j) 0 ⟨_, Wk.keep 87 [(0, .c (scC z s0)), (4, .lp 4 0), (5, .lp 5 0), (6, .lp 6 0), (8, iX .i64 ((((0 : Nat)) : Nat) : Int))] [(4, .box zL3), (5, .box (zTb s0[i])), (6, .box [.t (.v (.int .i64 1)), .t (.v (.string s0[i].nm)), .t (.sl .un 6 (s0[i].cols.map coT)), .ts ka .ne 1 za, .ts (k0) .ne 3 ([]), .t (.sl .un 8 (s0[i].chks.map exT')), nA, nA, nA, nA, zI, zS, zS, zI, zI, zI, zS, nA, nA, nA, zI, zS])] ((upd (upd H ka (some (.tip 51 1 za.length))) (k0) (some (.tip 110 3 ([]).length)))) rfl ⟨rfl, rfl, rfl, rfl, rfl, trivial⟩ ⟨rfl, rfl, rfl, trivial⟩ (fun _ _ h => h) rfl, k0, [], ⟨qZ _, hk0, rfl⟩, rfl⟩ (fun j s hs => ?_)
 obtain ⟨kb, zb, ⟨hj0, hkb, hzb⟩, rfl⟩ := hs
 refine AW.seq (D6 ?_)
 refine cD ?_ ?_ <;> intro h51
 rotate_left
 ·
  refine AW.exit ?_
  refine eth_e ?_
  refine eth_e ?_
  refine exit_here ?_
  refine AW.seq ?_
  obtain rfl := oE h51 hj0
  rw [qT] at hzb
  refine B1 ?_
  refine SeqK.xw 86 rfl (XW.g (xr2 (xr1 (.cons (XW.ts.trans (XW.es hza)) (.cons (XW.ts.trans (XW.es hzb)) XWs.re))))) ?_
  refine G2 ?_
  refine AW.ret ?_
  exact fin_x (x := .c _) (H) (.cellL rfl rfl ty40 rfl rfl .nil) rfl ((fun j o h => upd_sub hkb j o (upd_sub hka j o h))) (⟨rfl, rfl⟩)
 have hj := oI h51
 obtain ⟨p1, p2, p3⟩ := hti.2 j hj
 have q5 := ho.fksl _ hm _ (qC hj)
 have hu : s0[i].fks[j].tab.toNat < s0.length := by omega
 have eu := tbAt_get hu
 have hum : (tbAt s0 s0[i].fks[j].tab) ∈ s0 := by rw [eu]; exact qC _
 have hkk : s0[i].fks[j].key.toNat < (tbAt s0 s0[i].fks[j].tab).keys.length := by omega
 have hidx : (s0.map tbT)[s0[i].fks[j].tab.toNat]? = some (tbT (tbAt s0 s0[i].fks[j].tab)) := by rw [qR, qF hu, ← eu]; rfl
 have hui : insP (tbAt s0 s0[i].fks[j].tab) (tbAt s0 s0[i].fks[j].tab).keys[s0[i].fks[j].key.toNat] := by
  have h9 := (hv _ hu).1
  rw [← eu] at h9
  exact h9 _ hkk
 have hkd : (tbAt s0 s0[i].fks[j].tab).keys.getD s0[i].fks[j].key.toNat [] = (tbAt s0 s0[i].fks[j].tab).keys[s0[i].fks[j].key.toNat] := by rw [qI, qF hkk]; rfl
 have q6 := ho.keysl _ hum _ (qC hkk)
 refine AW.skip (AW.seq (AW.block (D8 ?_)))
 refine D3 ?_
 refine Z12 sl23 (hidx) ?_
 refine G4 ?_
 refine AW.drawO [0, 1, 2, 3, 4, 5, 6, 7, 8, 9, 10, 11, 12, 13, 14, 15, 16, 17, 18, 19, 20, 21, 22] mo (by kernel_rfl) ?_
 refine LexO.q rfl (by kernel_rfl) (q_fieldL _ rfl fl40_2 rfl rfl) rfl rfl rfl ?_
 refine LexO.q rfl (by kernel_rfl) (q_fieldL _ rfl fl29_2 rfl rfl) rfl rfl rfl ?_
 refine LexO.r rfl (by kernel_rfl) (b_load (r := .a _) rfl ty26 rfl rfl rfl rfl rfl rfl) rfl ?_
 refine LexO.r rfl (by kernel_rfl) (b_load (r := .g [_, _, _, _, _]) rfl ty72 rfl rfl rfl rfl rfl rfl) rfl ?_
 refine LexO.q rfl (by kernel_rfl) (q_fieldL _ rfl fl101_0 rfl rfl) rfl rfl rfl ?_
 refine LexO.r rfl (by kernel_rfl) (b_load (r := .a _) rfl ty43 rfl rfl rfl rfl rfl rfl) rfl ?_
 refine LexO.q rfl (by kernel_rfl) (q_call _ rfl fn82 rfl (names_any s0[i] s0[i].fks[j].cols .un (by omega) p1 q1) rfl) rfl rfl rfl ?_
 refine LexO.q rfl (by kernel_rfl) (q_fieldL _ rfl fl72_0 rfl rfl) rfl rfl rfl ?_
 refine LexO.r rfl (by kernel_rfl) (b_load (r := .a _) rfl ty9 rfl rfl rfl rfl rfl rfl) rfl ?_
 refine LexO.r rfl (by kernel_rfl) (b_load (r := .g [_, _, _, _, _]) rfl ty72 rfl rfl rfl rfl rfl rfl) rfl ?_
 refine LexO.q rfl (by kernel_rfl) (q_fieldL _ rfl fl72_2 rfl rfl) rfl rfl rfl ?_
 refine LexO.r rfl (by kernel_rfl) (b_load (r := .a _) rfl ty69 rfl rfl rfl rfl rfl rfl) rfl ?_
 refine LexO.q rfl (by kernel_rfl) (q_fieldL _ rfl fl101_2 rfl rfl) rfl rfl rfl ?_
 refine LexO.r rfl (by kernel_rfl) (b_load (r := .a _) rfl ty3 rfl rfl rfl rfl rfl rfl) rfl ?_
 refine LexO.q rfl (by kernel_rfl) (q_index _ rfl sl69 rfl rfl (by omega) (idx_map (f := iLT) hkk)) rfl rfl rfl ?_
 refine LexO.q rfl (by kernel_rfl) (q_load (.a _) rfl ty43 rfl rfl rfl) rfl rfl rfl ?_
 refine LexO.q rfl (by kernel_rfl) (q_call _ rfl fn82 rfl (names_any (tbAt s0 s0[i].fks[j].tab) (tbAt s0 s0[i].fks[j].tab).keys[s0[i].fks[j].key.toNat] .un (by omega) hui (ho.cols _ hum)) rfl) rfl rfl rfl ?_
 refine LexO.q rfl (by kernel_rfl) (q_build2 (zs := [_, _, _]) (r := [_, _, _]) [(0, 1), (1, 1), (2, 1)] _ rfl ze110 rfl bp110 rfl rfl rfl rfl) rfl rfl rfl ?_
 refine LexO.q rfl (by kernel_rfl) (q_buildSlice _ rfl el26 rfl (by decide) rfl) rfl rfl rfl ?_
 refine LexO.app1 rfl (by kernel_rfl) (by kernel_rfl) (by kernel_rfl) rfl (hkb) rfl el26 rfl rfl (by simp [hzb]; omega) rfl rfl (fun k83 hk83 => ?_)
 refine LexO.q rfl (by kernel_rfl) (q_fieldL _ rfl fl40_2 rfl rfl) rfl rfl rfl ?_
 refine LexO.q rfl (by kernel_rfl) (q_fieldL _ rfl fl29_2 rfl rfl) rfl rfl rfl ?_
 refine LexO.r rfl (by kernel_rfl) (b_store (r := [_, _, _, _, _, _, _, _, _, _, _, _, _, _, _, _, _, _, _, _, _, _]) rfl rfl ty26 rfl rfl rfl rfl rfl rfl) rfl ?_
 refine LexO.nil (by kernel_rfl) ?_
 refine B3 ?_
 exact ⟨j + 1, _, by exact wK 87, by omega, k83, zb ++ [rfT ⟨nmsOf s0[i] s0[i].fks[j].cols, (tbAt s0 s0[i].fks[j].tab).nm, nmsOf (tbAt s0 s0[i].fks[j].tab) (tbAt s0 s0[i].fks[j].tab).keys[s0[i].fks[j].key.toNat]⟩], ⟨hj, hk83, by rw [hzb, take_put hj, qK, qK, qX, qX, rfOf, hkd]⟩, rfl⟩
def stE (i : Nat) (s : List Tb) (d : Df) : Int := if d.k ≠ 1 then 1 else if 8 ≤ i ∨ 8 < d.cols.length ∨ 4 < d.keys.length ∨ 4 < d.fks.length ∨ 4 < d.chks.length then 3 else if ¬ gdP d then 1 else if ¬ nwP s d then 5 else 0
def bld : List Df → Nat → List Tb → List Tb × Int × Int
  | [], _, s => (s, 0, 0)
  | d :: r, i, s => if stE i s d ≠ 0 then ([], (i : Int), stE i s d) else if (tbX s d).2 ≠ 0 then ([], (i : Int), (tbX s d).2) else bld r (i + 1) (s ++ [(tbX s d).1])
theorem bld_err {l : List Df} {i : Nat} {s : List Tb} {e : Int} (hi : i < l.length) (h : stE i s l[i] = e) (he : e ≠ 0) : bld (l.drop i) i s = ([], (i : Int), e) := by
  rw [qH hi, bld, h, if_pos he]
theorem bld_tab {l : List Df} {i : Nat} {s : List Tb} (hi : i < l.length) (h : stE i s l[i] = 0) (h2 : (tbX s l[i]).2 ≠ 0) : bld (l.drop i) i s = ([], (i : Int), (tbX s l[i]).2) := by
  rw [qH hi, bld, if_neg (by rw [h]; simp), if_pos h2]
theorem bld_go {l : List Df} {i : Nat} {s : List Tb} (hi : i < l.length) (h : stE i s l[i] = 0) (h2 : (tbX s l[i]).2 = 0) : bld (l.drop i) i s = bld (l.drop (i + 1)) (i + 1) (s ++ [(tbX s l[i]).1]) := by
  rw [qH hi, bld, if_neg (by rw [h]; simp), if_neg (by rw [h2]; simp)]
theorem b3e {s : List Tb} {a b : Int} {p : List Tb × Int × Int} (h : p = (s, a, b)) : X.tup [scC .un s, iC a, iC b] = .tup [scC .un p.1, iC p.2.1, iC p.2.2] := by rw [h]
theorem tbX_1 (s : List Tb) (d : Df) : (tbX s d).1 = tbR s d ∨ (tbX s d).1 = tb0 := by
  unfold tbX; split
  · split
    · exact .inl rfl
    · exact .inr rfl
  · exact .inr rfl
theorem okS_add {s : List Tb} {d : Df} (h : okS s) (hl : s.length < 1000) (hk : okD d) (hc : d.cols.length ≤ 17592186044000) (hkl : d.keys.length ≤ 17592186044000) : okS (s ++ [(tbX s d).1]) := by
  refine ⟨by rw [qG]; simp; omega, fun t ht => ?_, fun t ht => ?_, fun t ht => ?_⟩
  · rcases jC.1 ht with h1 | h1
    · exact h.cols t h1
    · rw [jF.1 h1]
      rcases tbX_1 s d with e | e <;> rw [e]
      · exact hc
      · simp
  · rcases jC.1 ht with h1 | h1
    · exact h.keys t h1
    · rw [jF.1 h1]
      rcases tbX_1 s d with e | e <;> rw [e]
      · show (List.map _ _).length ≤ _; rw [qA]; exact hkl
      · simp
  · rcases jC.1 ht with h1 | h1
    · exact h.keysl t h1
    · rw [jF.1 h1]
      rcases tbX_1 s d with e | e <;> rw [e]
      · intro k hk2
        obtain ⟨y, hy, rfl⟩ := jE.1 hk2
        have k1 := nbT_len (cs := d.cols) (l := y)
        have k2 := hk.keysl y hy
        omega
      · intro k hk2; cases hk2
theorem build_any (l : List Df) (z : Nz) (hl : l.length ≤ 17592186044000) (hok : ∀ d ∈ l, okD d) : Pu 43 [.a (.t (.sl z 22 (l.map dfT)))] (.tup [scC .un (bld l 0 []).1, iC (bld l 0 []).2.1, iC (bld l 0 []).2.2]) := by
 intro H
 refine Spec.enter Tryz.func43 rfl ?_
 refine AW.wk (wK 91 (l := [(0, .c (.a (.t (.sl z 22 (l.map dfT)))))]) (ll := []) (H := (H))) ?_
 refine D3 ?_
 refine D1 ?_
 refine AW.seq (D1 ?_)
 refine AW.block (AW.tip 5 72 5 rfl (fun k0 hk0 => ?_))
 refine AW.loop (fun (i : Nat) s => ∃ (kt : Nat) (zs : List (List E.T)) (s1 : List Tb), (i ≤ l.length ∧ H kt = none ∧ zs = s1.map tbT ∧ (s1.length = i ∧ i ≤ 8) ∧ okS s1 ∧ bld (l.drop i) i s1 = bld l 0 []) ∧ s = ⟨91, sp [(0, .c (.a (.t (.sl z 22 (l.map dfT))))), (5, .c (.a (.ts kt .ne 5 zs))), (6, nX i)], lv [], upd H kt (some (.tip 72 5 zs.length))⟩) (fun i => l.length - i) 0 ⟨_, by exact wK 91, k0, [], [], ⟨qZ _, hk0, rfl, ⟨rfl, by omega⟩, ⟨by simp, by simp, by simp, by simp⟩, rfl⟩, rfl⟩ (fun i s hs => ?_)
 obtain ⟨kt, zs, s1, ⟨hi0, hkt, hzs, ⟨hsl, hi8⟩, hs, hI⟩, rfl⟩ := hs
 refine AW.seq (D5 ?_)
 refine cD ?_ ?_ <;> intro h14
 rotate_left
 ·
  refine AW.exit ?_
  refine eth_e ?_
  refine eth_e ?_
  refine exit_here ?_
  refine AW.seq ?_
  obtain rfl := oE h14 hi0
  refine AW.xw 5 rfl (XW.ts.trans (XW.es hzs)) ?_
  refine B4 ?_
  exact aR (fin_x (x := .tup [_, _, _]) (H) (.tmp rfl (.tmp rfl (.tmp rfl .nil))) rfl ((fun j o h => upd_sub hkt j o h)) (⟨b3e (by rw [← hI, List.drop_length, bld]), rfl⟩))
 have hi := oI h14
 have hk := hok _ (qC hi)
 refine AW.skip (AW.seq (AW.block (D8 ?_)))
 refine D1 ?_
 refine AW.seq (AW.block (D7 ?_))
 refine cD ?_ ?_ <;> intro h22
 ·
  refine B1 ?_
  refine AW.seq (D3 ?_)
  refine cD ?_ ?_ <;> intro h70
  ·
   refine D5 ?_
   refine AW.xw 2 rfl (XW.nilU (sz := 5)) ?_
   exact aR (fin_x (x := .tup [_, _, _]) (H) (.tmp rfl (.tmp rfl (.tmp rfl .nil))) rfl ((fun j o h => upd_sub hkt j o h)) (⟨b3e (hI.symm.trans (bld_err hi (by rw [stE, if_pos h22]) (by decide))), rfl⟩))
  exact absurd (by decide) h70
 refine D2 ?_
 refine Z17 ?_ ?_ <;> intro g32
 ·
  iterate 4 refine oF ?_
  refine G2 ?_
  iterate 4 refine oF ?_
  refine G2 ?_
  iterate 4 refine oF ?_
  refine G2 ?_
  iterate 4 refine oF ?_
  refine G2 ?_
  refine AW.condT rfl ?_
  refine B1 ?_
  refine AW.seq (D3 ?_)
  refine cD ?_ ?_ <;> intro h70
  ·
   refine D5 ?_
   refine AW.xw 2 rfl (XW.nilU (sz := 5)) ?_
   exact aR (fin_x (x := .tup [_, _, _]) (H) (.tmp rfl (.tmp rfl (.tmp rfl .nil))) rfl ((fun j o h => upd_sub hkt j o h)) (⟨b3e (hI.symm.trans (bld_err hi (by rw [stE, if_neg h22, if_pos (by simp only [qA] at *; omega)]) (by decide))), rfl⟩))
  exact absurd (by decide) h70
 refine G5 ?_
 refine Z17 ?_ ?_ <;> intro g38
 ·
  iterate 4 refine oF ?_
  refine G2 ?_
  iterate 4 refine oF ?_
  refine G2 ?_
  iterate 4 refine oF ?_
  refine G2 ?_
  refine AW.condT rfl ?_
  refine B1 ?_
  refine AW.seq (D3 ?_)
  refine cD ?_ ?_ <;> intro h70
  ·
   refine D5 ?_
   refine AW.xw 2 rfl (XW.nilU (sz := 5)) ?_
   exact aR (fin_x (x := .tup [_, _, _]) (H) (.tmp rfl (.tmp rfl (.tmp rfl .nil))) rfl ((fun j o h => upd_sub hkt j o h)) (⟨b3e (hI.symm.trans (bld_err hi (by rw [stE, if_neg h22, if_pos (by simp only [qA] at *; omega)]) (by decide))), rfl⟩))
  exact absurd (by decide) h70
 refine G5 ?_
 refine Z17 ?_ ?_ <;> intro g44
 ·
  iterate 4 refine oF ?_
  refine G2 ?_
  iterate 4 refine oF ?_
  refine G2 ?_
  refine AW.condT rfl ?_
  refine B1 ?_
  refine AW.seq (D3 ?_)
  refine cD ?_ ?_ <;> intro h70
  ·
   refine D5 ?_
   refine AW.xw 2 rfl (XW.nilU (sz := 5)) ?_
   exact aR (fin_x (x := .tup [_, _, _]) (H) (.tmp rfl (.tmp rfl (.tmp rfl .nil))) rfl ((fun j o h => upd_sub hkt j o h)) (⟨b3e (hI.symm.trans (bld_err hi (by rw [stE, if_neg h22, if_pos (by simp only [qA] at *; omega)]) (by decide))), rfl⟩))
  exact absurd (by decide) h70
 refine G5 ?_
 refine Z17 ?_ ?_ <;> intro g50
 ·
  iterate 4 refine oF ?_
  refine G2 ?_
  refine AW.condT rfl ?_
  refine B1 ?_
  refine AW.seq (D3 ?_)
  refine cD ?_ ?_ <;> intro h70
  ·
   refine D5 ?_
   refine AW.xw 2 rfl (XW.nilU (sz := 5)) ?_
   exact aR (fin_x (x := .tup [_, _, _]) (H) (.tmp rfl (.tmp rfl (.tmp rfl .nil))) rfl ((fun j o h => upd_sub hkt j o h)) (⟨b3e (hI.symm.trans (bld_err hi (by rw [stE, if_neg h22, if_pos (by simp only [qA] at *; omega)]) (by decide))), rfl⟩))
  exact absurd (by decide) h70
 refine G6 ?_
 refine cD ?_ ?_ <;> intro h29
 ·
  refine B1 ?_
  refine AW.seq (D3 ?_)
  refine cD ?_ ?_ <;> intro h70
  ·
   refine D5 ?_
   refine AW.xw 2 rfl (XW.nilU (sz := 5)) ?_
   exact aR (fin_x (x := .tup [_, _, _]) (H) (.tmp rfl (.tmp rfl (.tmp rfl .nil))) rfl ((fun j o h => upd_sub hkt j o h)) (⟨b3e (hI.symm.trans (bld_err hi (by rw [stE, if_neg h22, if_pos (by simp only [qA] at *; omega)]) (by decide))), rfl⟩))
  exact absurd (by decide) h70
 refine AW.seq ?_
 have hn3 : ¬ (8 ≤ i ∨ 8 < l[i].cols.length ∨ 4 < l[i].keys.length ∨ 4 < l[i].fks.length ∨ 4 < l[i].chks.length) := by simp only [qA] at *; omega
 refine B4 ?_
 refine Z16 fn83 (invalid_any l[i] hk) ?_
 refine sB ?_
 refine AW.cond _ rfl (fun h56 => ?_) (fun h56 => ?_)
 ·
  have hgd : ¬ gdP l[i] := jJ h56
  refine B1 ?_
  refine AW.seq (D3 ?_)
  refine cD ?_ ?_ <;> intro h70
  ·
   refine D5 ?_
   refine AW.xw 2 rfl (XW.nilU (sz := 5)) ?_
   exact aR (fin_x (x := .tup [_, _, _]) (H) (.tmp rfl (.tmp rfl (.tmp rfl .nil))) rfl ((fun j o h => upd_sub hkt j o h)) (⟨b3e (hI.symm.trans (bld_err hi (by rw [stE, if_neg h22, if_neg hn3, if_pos hgd]) (by decide))), rfl⟩))
  exact absurd (by decide) h70
 have hgd : gdP l[i] := qY.1 (jK h56)
 refine D1 ?_
 refine SeqK.xw 63 rfl (XW.ts.trans (XW.es hzs)) ?_
 refine G4 ?_
 refine sQ (q_call _ rfl fn84 rfl (exists_any s1 .un l[i] (by omega) hk (by omega)) rfl) ?_
 refine sB ?_
 refine AW.cond _ rfl (fun h62 => ?_) (fun h62 => ?_)
 ·
  have hnw : ¬ nwP s1 l[i] := jJ h62
  refine B1 ?_
  refine AW.seq (D3 ?_)
  refine cD ?_ ?_ <;> intro h70
  ·
   refine D5 ?_
   refine AW.xw 2 rfl (XW.nilU (sz := 5)) ?_
   exact aR (fin_x (x := .tup [_, _, _]) (H) (.tmp rfl (.tmp rfl (.tmp rfl .nil))) rfl ((fun j o h => upd_sub hkt j o h)) (⟨b3e (hI.symm.trans (bld_err hi (by rw [stE, if_neg h22, if_neg hn3, if_neg (fun h => h hgd), if_pos hnw]) (by decide))), rfl⟩))
  exact absurd (by decide) h70
 have hnw : nwP s1 l[i] := qY.1 (jK h62)
 refine AW.skip (AW.seq (D3 ?_))
 refine cD ?_ ?_ <;> intro h70
 ·
  exact absurd rfl h70
 refine AW.skip (AW.seq ?_)
 have hst : stE i s1 l[i] = 0 := by rw [stE, if_neg h22, if_neg hn3, if_neg (fun h => h hgd), if_neg (fun h => h hnw)]
 have hg : ∀ f ∈ l[i].fks, f.cols.length = f.tgt.length := fun f hf => by obtain ⟨j, hj, rfl⟩ := qN.1 hf; exact (hgd.2.2.2 j hj).2
 refine B1 ?_
 refine SeqK.xw 74 rfl (XW.ts.trans (XW.es hzs)) ?_
 refine G4 ?_
 refine sQ (q_call _ rfl fn85 rfl (table_any s1 .un l[i] hs hk (by omega) (by omega) (by omega) hg) rfl) ?_
 refine G6 ?_
 refine AW.seq (D3 ?_)
 refine cD ?_ ?_ <;> intro h83
 ·
  refine D5 ?_
  refine AW.xw 2 rfl (XW.nilU (sz := 5)) ?_
  exact aR (fin_x (x := .tup [_, _, _]) (H) (.tmp rfl (.tmp rfl (.tmp rfl .nil))) rfl ((fun j o h => upd_sub hkt j o h)) (⟨b3e (hI.symm.trans (bld_tab hi hst h83)), rfl⟩))
 refine AW.skip (B3 ?_)
 refine SeqK.app1 rfl (hkt) rfl el23 rfl rfl (by have := congrArg List.length hzs; rw [qA] at this; simp; omega) rfl rfl (fun k89 hk89 => ?_)
 refine sB ?_
 refine B3 ?_
 exact ⟨i + 1, _, by exact wK 91, by omega, k89, zs ++ [tbT (tbX s1 l[i]).1], s1 ++ [(tbX s1 l[i]).1], ⟨hi, hk89, by rw [hzs, qK]; rfl, ⟨by rw [qG, hsl]; rfl, by omega⟩, okS_add hs (by omega) hk (by omega) (by omega), by rw [← hI, bld_go hi hst (qY.1 h83)]⟩, rfl⟩
abbrev dfsOf (s : List Tb) : List Df := s.map (dfOf s)
abbrev vldS (s : List Tb) : Prop := vP s ∧ (bld (dfsOf s) 0 []).2.2 = 0
theorem okV_of {s : List Tb} (h : ssP s) (ho : ∀ t ∈ s, okT t) : okV s := by
  have at_ : ∀ t ∈ s, ssD t := fun t ht => by obtain ⟨j, hj, rfl⟩ := qN.1 ht; exact h.1 j hj
  refine ⟨fun t ht => (ho t ht).cols, fun t ht => by have := (at_ t ht).1.1; omega, fun t ht k hk => ?_, fun t ht => by have := (at_ t ht).1.2.1; omega, fun t ht f hf => ?_⟩
  · obtain ⟨j, hj, rfl⟩ := qN.1 hk
    have := ((at_ t ht).2.1 j hj).2.1; omega
  · obtain ⟨j, hj, rfl⟩ := qN.1 hf
    have := ((at_ t ht).2.2 j hj).2.1; omega
theorem colAt_size {t : Tb} (h : okT t) (v : Int) : (colAt t v).nm.size ≤ 1000000000000000 := by
  unfold colAt
  rw [qI]
  by_cases hv : v.toNat < t.cols.length
  · rw [qF hv]; exact h.colsn _ (qC hv)
  · rw [List.getElem?_eq_none (by omega)]; show (0 : Nat) ≤ _; omega
theorem tbAt_ok {s : List Tb} (ho : ∀ t ∈ s, okT t) (v : Int) : okT (tbAt s v) := by
  unfold tbAt
  rw [qI]
  by_cases hv : v.toNat < s.length
  · rw [qF hv]; exact ho _ (qC hv)
  · rw [List.getElem?_eq_none (by omega)]
    exact ⟨by show (0 : Nat) ≤ _; omega, by simp, by simp, by simp, by simp, by simp, by simp, by simp, by simp⟩
theorem tbAt_v {s : List Tb} (hv : okV s) (v : Int) : ∀ k ∈ (tbAt s v).keys, k.length ≤ 1000 := by
  unfold tbAt
  rw [qI]
  by_cases h : v.toNat < s.length
  · rw [qF h]; exact hv.keysl _ (qC h)
  · rw [List.getElem?_eq_none (by omega)]; simp
theorem okD_df {s : List Tb} (hv : okV s) (ho : ∀ t ∈ s, okT t) {t : Tb} (ht : t ∈ s) : okD (dfOf s t) := by
  have h := ho t ht
  refine ⟨h.nm, h.cols, h.colsn, by show (List.map _ _).length ≤ _; rw [qA]; have := hv.keys t ht; omega, fun k hk => ?_, fun k hk u hu => ?_, by show (List.map _ _).length ≤ _; rw [qA]; have := hv.fks t ht; omega, fun f hf => ?_, fun f hf => ?_, h.chks, h.chkso⟩
  · obtain ⟨y, hy, rfl⟩ := jE.1 hk
    rw [qA]; have := hv.keysl t ht y hy; omega
  · obtain ⟨y, hy, rfl⟩ := jE.1 hk
    obtain ⟨v, _, rfl⟩ := jE.1 hu
    exact colAt_size h v
  · obtain ⟨y, hy, rfl⟩ := jE.1 hf
    refine ⟨by show (List.map _ _).length ≤ _; rw [qA]; have := hv.fksl t ht y hy; omega, ?_⟩
    show (List.map _ _).length ≤ _
    rw [qA, qI]
    by_cases hk : y.key.toNat < (tbAt s y.tab).keys.length
    · rw [qF hk]; have := tbAt_v hv y.tab _ (qC hk); simp only [Option.getD_some]; omega
    · rw [List.getElem?_eq_none (by omega)]; simp
  · obtain ⟨y, hy, rfl⟩ := jE.1 hf
    exact (tbAt_ok ho y.tab).nm
theorem rvalid_any (d0 : List Tb) (z : Nz) (hl : d0.length ≤ 1000) (hss : ssP d0) (ho : ∀ t ∈ d0, okT t) : Pu 20 [scC z d0] (.c (bC (decide (vldS d0)))) := by
 intro H
 refine Spec.enter Tryz.func20 rfl ?_
 refine AW.wk (wK 116 (l := [(0, .c (scC z d0))]) (ll := []) (H := (H))) ?_
 refine D1 ?_
 refine AW.seq (AW.seq ?_)
 have hv0 := okV_of hss ho
 refine B1 ?_
 refine AW.block (AW.loop (fun (i : Nat) s => (i ≤ d0.length ∧ ∀ j (h : j < d0.length), j < i → tvP d0 j d0[j]) ∧ s = ⟨116, sp [(0, .c (scC z d0)), (2, .c (bC false)), (3, nX i)], lv [], H⟩) (fun i => d0.length - i) 0 ⟨_, by exact wK 116, ⟨qZ _, up0⟩, rfl⟩ (fun i s hs => ?_))
 obtain ⟨⟨hi0, hU⟩, rfl⟩ := hs
 refine AW.seq (D5 ?_)
 refine cD ?_ ?_ <;> intro h15
 rotate_left
 ·
  refine AW.exit ?_
  refine eth_e ?_
  refine eth_e ?_
  refine exit_here ?_
  refine AW.seq ?_
  have hV : vP d0 := upE hU (by rw [qA] at h15; omega)
  refine B1 ?_
  refine AW.seq (D1 ?_)
  refine AW.block (AW.tip 7 40 22 rfl (fun k0 hk0 => ?_))
  refine AW.loop (fun (i : Nat) s => ∃ (kt : Nat) (zs : List (List E.T)), (i ≤ d0.length ∧ H kt = none ∧ zs = ((d0.take i).map (dfOf d0)).map dfT) ∧ s = ⟨116, sp [(0, .c (scC z d0)), (7, .c (.a (.ts kt .ne 22 zs))), (8, nX i)], lv [], upd H kt (some (.tip 40 22 zs.length))⟩) (fun i => d0.length - i) 0 ⟨_, by exact wK 116, k0, [], ⟨qZ _, hk0, rfl⟩, rfl⟩ (fun i s hs => ?_)
  obtain ⟨kt, zs, ⟨hi0, hkt, hzs⟩, rfl⟩ := hs
  refine AW.seq (D5 ?_)
  refine cD ?_ ?_ <;> intro h99
  ·
   have hi := oI h99
   refine AW.skip (AW.seq (AW.block (B3 ?_)))
   refine Z16 fn42 (definition_any d0 z i hi hV hv0) ?_
   refine G1 ?_
   refine SeqK.app1 rfl (hkt) rfl el98 rfl rfl (by simp [hzs]; omega) rfl rfl (fun k107 hk107 => ?_)
   refine sB ?_
   refine B3 ?_
   exact ⟨i + 1, _, by exact wK 116, by omega, k107, zs ++ [dfT (dfOf d0 d0[i])], ⟨hi, hk107, by rw [hzs, take_put hi, qK, qK]; rfl⟩, rfl⟩
  refine AW.exit ?_
  refine eth_e ?_
  refine eth_e ?_
  refine exit_here ?_
  refine AW.seq ?_
  obtain rfl := oE h99 hi0
  rw [qT] at hzs
  refine AW.xw 7 rfl (XW.ts.trans (XW.es hzs)) ?_
  refine B1 ?_
  refine sQ (q_call _ rfl fn43 rfl (build_any (dfsOf d0) .un (by rw [qA]; omega) (fun x hx => by obtain ⟨t, ht, rfl⟩ := jE.1 hx; exact okD_df hv0 ho ht)) rfl) ?_
  refine G7 ?_
  refine D3 ?_
  exact aR (fin_x (x := .c _) (H) (.tmp rfl .nil) rfl ((fun j o h => upd_sub hkt j o h)) (⟨bCe (dI ⟨fun h => ⟨hV, h⟩, fun h => h.2⟩), rfl⟩))
 have hi := oI h15
 have hm := qC hi
 have kb1 := hv0.keys _ hm
 have kb2 := hv0.fks _ hm
 refine AW.skip (AW.seq (AW.block (AW.seq (D1 ?_))))
 refine AW.block (AW.loop (fun (j : Nat) s => (j ≤ d0[i].keys.length ∧ ∀ k (h : k < d0[i].keys.length), k < j → insP d0[i] d0[i].keys[k]) ∧ s = ⟨116, sp [(0, .c (scC z d0)), (2, .c (bC false)), (3, nX i), (4, nX j)], lv [], H⟩) (fun j => d0[i].keys.length - j) 0 ⟨_, by exact wK 116, ⟨qZ _, up0⟩, rfl⟩ (fun j s hs => ?_))
 obtain ⟨⟨hj0, hU1⟩, rfl⟩ := hs
 refine AW.seq (D9 ?_)
 refine cD ?_ ?_ <;> intro h25
 ·
  have hj := oI h25
  refine AW.skip (AW.seq (AW.block (AW.seq (AW.draw mo ?_))))
  refine N7 ?_
  refine lQ (q_fieldP _ rfl fl72_2 rfl rfl) ?_
  refine N4 ?_
  refine lQ (q_call _ rfl fn41 rfl (inside_any d0[i] _ .un (by first | (have := hv0.keysl _ hm _ (qC hj); omega) | (have := hv0.fksl _ hm _ (qC hj); omega))) rfl) ?_
  refine lQ (q_not rfl rfl) ?_
  refine Z43 ?_
  refine AW.cond _ rfl (fun h41 => ?_) (fun h41 => ?_)
  ·
   refine D1 ?_
   exact aR (fE (e := bCe (dF (fun h => nd_t h41 ((h.1 i hi).1 j hj)))))
  refine AW.skip (B3 ?_)
  exact ⟨j + 1, _, by exact wK 116, by omega, ⟨hj, upS hj hU1 (nd_f h41)⟩, rfl⟩
 refine AW.exit ?_
 refine eth_e ?_
 refine eth_e ?_
 refine exit_here ?_
 refine AW.seq ?_
 have hA := upE hU1 (by rw [qA] at h25; omega)
 refine B1 ?_
 refine AW.block (AW.loop (fun (j : Nat) s => (j ≤ d0[i].fks.length ∧ ∀ k (h : k < d0[i].fks.length), k < j → fkP d0 i d0[i] d0[i].fks[k]) ∧ s = ⟨116, sp [(0, .c (scC z d0)), (2, .c (bC false)), (3, nX i), (5, nX j)], lv [], H⟩) (fun j => d0[i].fks.length - j) 0 ⟨_, by exact wK 116, ⟨qZ _, up0⟩, rfl⟩ (fun j s hs => ?_))
 obtain ⟨⟨hj0, hU2⟩, rfl⟩ := hs
 refine AW.seq (D9 ?_)
 refine cD ?_ ?_ <;> intro h49
 rotate_left
 ·
  refine AW.exit ?_
  refine eth_e ?_
  refine eth_e ?_
  refine exit_here ?_
  have hB := upE hU2 (by rw [qA] at h49; omega)
  refine B3 ?_
  exact ⟨i + 1, _, by exact wK 116, by omega, ⟨hi, upS hi hU (⟨hA, hB⟩)⟩, rfl⟩
 have hj := oI h49
 refine AW.skip (AW.seq (AW.block (D11 ?_)))
 refine AW.seq (AW.draw mo ?_)
 refine N6 ?_
 refine lQ (q_call _ rfl fn41 rfl (inside_any d0[i] _ .un (by first | (have := hv0.keysl _ hm _ (qC hj); omega) | (have := hv0.fksl _ hm _ (qC hj); omega))) rfl) ?_
 refine lQ (q_not rfl rfl) ?_
 refine LexK.qB (q_mvC rfl rfl) rfl rfl rfl (fun g68 => ?_) (fun g68 => ?_)
 ·
  iterate 3 refine LexK.off rfl rfl rfl rfl rfl rfl ?_
  refine lQ (q_pkT rfl rfl rfl) ?_
  refine Z27 ?_
  iterate 4 refine LexK.off rfl rfl rfl rfl rfl rfl ?_
  refine lQ (q_pkT rfl rfl rfl) ?_
  refine Z27 ?_
  iterate 3 refine LexK.off rfl rfl rfl rfl rfl rfl ?_
  refine lQ (q_pkT rfl rfl rfl) ?_
  refine Z27 ?_
  iterate 10 refine LexK.off rfl rfl rfl rfl rfl rfl ?_
  refine lQ (q_pkT rfl rfl rfl) ?_
  refine Z43 ?_
  refine AW.condT rfl ?_
  refine D1 ?_
  exact aR (fE (e := bCe (dF (fun h => by have h9 := (h.1 i hi).2 j hj; first | exact nd_t g68 h9.1 | (have := h9.2.1; omega) | (have := h9.2.2; omega) | (have := h9.2.2.2; rw [qA] at h95; omega)))))
 refine lO (q_fieldL _ rfl fl101_1 rfl rfl) ?_
 refine LexK.rOn (b_load (r := .a _) rfl ty3 rfl rfl rfl rfl rfl rfl) rfl rfl rfl ?_
 refine lO (q_lss rfl rfl rfl) ?_
 refine lQ (q_pkF rfl rfl rfl) ?_
 refine LexK.qD (q_mvC rfl rfl) rfl rfl rfl (fun g73 => ?_) (fun g73 => ?_)
 ·
  iterate 4 refine LexK.off rfl rfl rfl rfl rfl rfl ?_
  refine lQ (q_pkT rfl rfl rfl) ?_
  refine Z27 ?_
  iterate 3 refine LexK.off rfl rfl rfl rfl rfl rfl ?_
  refine lQ (q_pkT rfl rfl rfl) ?_
  refine Z27 ?_
  iterate 10 refine LexK.off rfl rfl rfl rfl rfl rfl ?_
  refine lQ (q_pkT rfl rfl rfl) ?_
  refine Z43 ?_
  refine AW.condT rfl ?_
  refine D1 ?_
  exact aR (fE (e := bCe (dF (fun h => by have h9 := (h.1 i hi).2 j hj; first | exact nd_t g68 h9.1 | (have := h9.2.1; omega) | (have := h9.2.2; omega) | (have := h9.2.2.2; rw [qA] at h95; omega)))))
 refine lO (q_fieldL _ rfl fl101_1 rfl rfl) ?_
 refine LexK.rOn (b_load (r := .a _) rfl ty3 rfl rfl rfl rfl rfl rfl) rfl rfl rfl ?_
 refine lO (q_mvC rfl rfl) ?_
 refine lO (q_gtr rfl rfl rfl) ?_
 refine lQ (q_pkF rfl rfl rfl) ?_
 refine LexK.qD (q_mvC rfl rfl) rfl rfl rfl (fun g79 => ?_) (fun g79 => ?_)
 ·
  iterate 3 refine LexK.off rfl rfl rfl rfl rfl rfl ?_
  refine lQ (q_pkT rfl rfl rfl) ?_
  refine Z27 ?_
  iterate 10 refine LexK.off rfl rfl rfl rfl rfl rfl ?_
  refine lQ (q_pkT rfl rfl rfl) ?_
  refine Z43 ?_
  refine AW.condT rfl ?_
  refine D1 ?_
  exact aR (fE (e := bCe (dF (fun h => by have h9 := (h.1 i hi).2 j hj; first | exact nd_t g68 h9.1 | (have := h9.2.1; omega) | (have := h9.2.2; omega) | (have := h9.2.2.2; rw [qA] at h95; omega)))))
 refine lO (q_fieldL _ rfl fl101_2 rfl rfl) ?_
 refine LexK.rOn (b_load (r := .a _) rfl ty3 rfl rfl rfl rfl rfl rfl) rfl rfl rfl ?_
 refine lO (q_lss rfl rfl rfl) ?_
 refine lQ (q_pkF rfl rfl rfl) ?_
 refine LexK.qD (q_mvC rfl rfl) rfl rfl rfl (fun g84 => ?_) (fun g84 => ?_)
 ·
  iterate 10 refine LexK.off rfl rfl rfl rfl rfl rfl ?_
  refine lQ (q_pkT rfl rfl rfl) ?_
  refine Z43 ?_
  refine AW.condT rfl ?_
  refine D1 ?_
  exact aR (fE (e := bCe (dF (fun h => by have h9 := (h.1 i hi).2 j hj; first | exact nd_t g68 h9.1 | (have := h9.2.1; omega) | (have := h9.2.2; omega) | (have := h9.2.2.2; rw [qA] at h95; omega)))))
 have hu : d0[i].fks[j].tab.toNat < d0.length := by omega
 have eu := tbAt_get hu
 have hidx : (d0.map tbT)[d0[i].fks[j].tab.toNat]? = some (tbT (tbAt d0 d0[i].fks[j].tab)) := by rw [qR, qF hu, ← eu]; rfl
 refine lO (q_fieldL _ rfl fl101_2 rfl rfl) ?_
 refine LexK.rOn (b_load (r := .a _) rfl ty3 rfl rfl rfl rfl rfl rfl) rfl rfl rfl ?_
 refine lO (q_mvC rfl rfl) ?_
 refine lO (q_fieldL _ rfl fl101_1 rfl rfl) ?_
 refine LexK.rOn (b_load (r := .a _) rfl ty3 rfl rfl rfl rfl rfl rfl) rfl rfl rfl ?_
 refine lO (q_index _ rfl sl23 rfl rfl (by omega) (hidx)) ?_
 refine lO (q_fieldP _ rfl fl72_2 rfl rfl) ?_
 refine lO (q_load (.a _) rfl ty69 rfl rfl rfl) ?_
 refine lO (q_len rfl un69 rfl) ?_
 refine lO (q_geq rfl rfl rfl) ?_
 refine lQ (q_pkF rfl rfl rfl) ?_
 refine Z43 ?_
 refine cD ?_ ?_ <;> intro h95
 ·
  refine D1 ?_
  exact aR (fE (e := bCe (dF (fun h => by have h9 := (h.1 i hi).2 j hj; first | exact nd_t g68 h9.1 | (have := h9.2.1; omega) | (have := h9.2.2; omega) | (have := h9.2.2.2; rw [qA] at h95; omega)))))
 refine AW.skip (B3 ?_)
 exact ⟨j + 1, _, by exact wK 116, by omega, ⟨hj, upS hj hU2 (⟨nd_f g68, ⟨by omega, by omega⟩, by omega, by rw [qA] at h95; omega⟩)⟩, rfl⟩
theorem part25_0 (x0 : Int) (x1 : Int) (x2 : ByteArray) (w : World) : (part 3 #[.int .i64 x0, .int .i64 x1, .string x2] 0).run Tryz.prog w = .ok (.int .i64 x0) w := by kernel_rfl
theorem part25_1 (x0 : Int) (x1 : Int) (x2 : ByteArray) (w : World) : (part 2 #[.int .i64 x0, .int .i64 x1, .string x2] 1).run Tryz.prog w = .ok (.int .i64 x1) w := by kernel_rfl
theorem part25_2 (x0 : Int) (x1 : Int) (x2 : ByteArray) (w : World) : (part 9 #[.int .i64 x0, .int .i64 x1, .string x2] 2).run Tryz.prog w = .ok (.string x2) w := by kernel_rfl
theorem eq25 (x0 : Int) (x1 : Int) (x2 : ByteArray) (y0 : Int) (y1 : Int) (y2 : ByteArray) (w : World) : (Op.equalIn 10000 35 (.agg #[.int .i64 x0, .int .i64 x1, .string x2]) (.agg #[.int .i64 y0, .int .i64 y1, .string y2])).run Tryz.prog w = .ok (decide (x0 = y0) && decide (x1 = y1) && decide (x2 = y2)) w := by
  have e2 : ∀ (a b : Int), (Op.equalIn 9999 2 (.int .i64 a) (.int .i64 b)).run Tryz.prog w = .ok (a == b) w := fun a b => run_equalIn_int w 9998 2 .i64 .i64 _ _ Tryz.underlying2
  have e3 : ∀ (a b : Int), (Op.equalIn 9999 3 (.int .i64 a) (.int .i64 b)).run Tryz.prog w = .ok (a == b) w := fun a b => run_equalIn_int w 9998 3 .i64 .i64 _ _ Tryz.underlying3
  have e9 : ∀ (a b : ByteArray), (Op.equalIn 9999 9 (.string a) (.string b)).run Tryz.prog w = .ok (a.toList == b.toList) w := fun a b => run_equalIn_string w 9998 9 _ _ Tryz.underlying9
  rw [show (10000 : Nat) = 9999 + 1 from rfl, run_equalIn_agg w 9999 35 _ _ (by kernel_rfl) (by kernel_rfl)]
  simp only [Program.fieldsOf, Tryz.underlying35, Op.eqFields, Sem.run_bind, part25_0, part25_1, part25_2, e2, e3, e9, Result.andThen_ok, eqI, eqBt, eqBo]
  by_cases h0 : x0 = y0 <;> by_cases h1 : x1 = y1 <;> by_cases h2 : x2 = y2 <;> simp [Sem.run_bind, part25_0, part25_1, part25_2, e2, e3, e9, Result.andThen_ok, Result.andThen, eqI, eqBt, eqBo, h0, h1, h2]
mutual
def exE : Ex → Ex → Bool
  | .mk a1 a2 a3 a4 a5 a6 a7 xs, .mk b1 b2 b3 b4 b5 b6 b7 ys => decide (a1 = b1) && (decide (a2 = b2) && (decide (a3 = b3) && (decide (a4 = b4) && (decide (a5 = b5) && (decide (a6 = b6) && (decide (a7 = b7) && exEs xs ys))))))
def exEs : List Ex → List Ex → Bool
  | [], [] => true
  | a :: r, b :: q => exE a b && exEs r q
  | _, _ => false
end
mutual
theorem exE_iff : ∀ a b, exE a b = true ↔ a = b
  | .mk a1 a2 a3 a4 a5 a6 a7 xs, .mk b1 b2 b3 b4 b5 b6 b7 ys => by
    have := exEs_iff xs ys
    simp only [exE, jG, decide_eq_true_eq, this, Ex.mk.injEq]
theorem exEs_iff : ∀ a b, exEs a b = true ↔ a = b
  | [], [] => by simp [exEs]
  | a :: r, b :: q => by
    have h1 := exE_iff a b
    have h2 := exEs_iff r q
    simp only [exEs, jG, h1, h2, List.cons.injEq]
  | [], b :: q => by simp [exEs]
  | a :: r, [] => by simp [exEs]
end
instance : DecidableEq Ex := fun a b => decidable_of_iff (exE a b = true) (exE_iff a b)
theorem Ex.rec' {motive : Ex → Prop} (h : ∀ e, (∀ a ∈ e.args, motive a) → motive e) (e : Ex) : motive e := by
  have key : ∀ n, ∀ e : Ex, SizeOf.sizeOf e < n → motive e := by
    intro n
    induction n with
    | zero => intro e he; omega
    | succ n ih => intro e he; exact h e fun a ha => ih a (by have := args_lt ha; omega)
  exact key _ e (Nat.lt_succ_self _)
theorem bI {b : Bool} {p : Prop} [Decidable p] (h : b = true ↔ p) : b = decide p := by
  cases b
  · exact (jI fun hp => absurd (h.2 hp) (by simp)).symm
  · exact (jH (h.1 rfl)).symm
abbrev ex0 : Ex := ⟨0, ⟨#[]⟩, ⟨#[]⟩, 0, 0, 0, ⟨#[]⟩, []⟩
abbrev FB (f : FuncId) (cs : List A) (H : Heap) (c : C) (b : Bool) : Prop := ∀ H' : Heap, (∀ j o, H j = some o → H' j = some o) → E.Spec Tryz.prog f (c :: cs.map C.a) H' fun x H'' => x = .c (bC b) ∧ H'' = H'
def ixF {α : Type} (p : α → Bool) : List α → Nat → Int
  | [], _ => -1
  | a :: r, i => if p a = true then (i : Int) else ixF p r (i + 1)
theorem ixF_hit {α : Type} {p : α → Bool} {l : List α} {i : Nat} (hi : i < l.length) (h : p l[i] = true) : ixF p (l.drop i) i = i := by
  rw [qH hi, ixF, if_pos h]
theorem ixF_miss {α : Type} {p : α → Bool} {l : List α} {i : Nat} (hi : i < l.length) (h : p l[i] = false) : ixF p (l.drop i) i = ixF p (l.drop (i + 1)) (i + 1) := by
  rw [qH hi, ixF, if_neg (by rw [h]; simp)]
theorem ixF_any {α : Type} {p : α → Bool} : ∀ (l : List α) (i : Nat), 0 ≤ ixF p l i ↔ l.any p = true
  | [], i => by simp [ixF]
  | a :: r, i => by
    rw [ixF]
    by_cases h : p a = true
    · rw [if_pos h]; simp [h]
    · rw [if_neg h, ixF_any r (i + 1)]; simp [h]
theorem idxF_ex (H : Heap) (f : FuncId) (cs : List A) (gv : Ex → Bool) (l : List Ex) (z : Nz) (hfn : fnB Tryz.prog f = true) (hl : l.length ≤ 17592186044000) (hcall : ∀ x ∈ l, FB f cs H (exC x) (gv x)) : E.Spec Tryz.prog 155 [exsC z l, .a (.fn f cs)] H fun x H' => x = .c (iC (ixF gv l 0)) ∧ H' = H := by
 refine Spec.enter Tryz.func155 rfl ?_
 refine AW.wk (wK 19 (l := [(0, .c (exsC z l)), (1, .c (.a (.fn f cs)))]) (ll := []) (H := (H))) ?_
 refine D1 ?_
 refine AW.seq (D4 ?_)
 refine AW.block (AW.loop (fun (i : Nat) s => (i ≤ l.length ∧ ixF gv (l.drop i) i = ixF gv l 0) ∧ s = ⟨19, sp [(0, .c (exsC z l)), (1, .c (.a (.fn f cs))), (4, .c (iC 0)), (7, iX .i64 (((l.map exT').length : Nat) : Int)), (8, nX i)], lv [], H⟩) (fun i => l.length - i) 0 ⟨_, by exact wK 19, ⟨qZ _, rfl⟩, rfl⟩ (fun i s hs => ?_))
 obtain ⟨⟨hi0, hI⟩, rfl⟩ := hs
 refine D2 ?_
 refine AW.seq ?_
 refine cD ?_ ?_ <;> intro h9
 ·
  have hi := oI h9
  refine AW.skip (AW.seq (AW.block (D2 ?_)))
  refine D5 ?_
  refine SeqK.r (g_callV (f := f) (cs := cs) rfl rfl hfn rfl (hcall _ (qC hi) _ (fun _ _ h => h)) rfl rfl rfl) rfl ?_
  refine Z4 ?_
  refine AW.cond _ rfl (fun h16 => ?_) (fun h16 => ?_)
  ·
   refine D2 ?_
   exact aR (fE (e := iCe (by rw [← hI, ixF_hit hi h16])))
  refine AW.skip (B3 ?_)
  exact ⟨i + 1, _, by exact wK 19, by omega, ⟨hi, by rw [← hI, ixF_miss hi h16]⟩, rfl⟩
 refine AW.exit ?_
 refine eth_e ?_
 refine eth_e ?_
 refine exit_here ?_
 refine D1 ?_
 exact aR (fE (e := iCe (by rw [← hI, qW (by rw [qA] at h9; omega), ixF])))
theorem anyF_ex (H : Heap) (f : FuncId) (cs : List A) (gv : Ex → Bool) (l : List Ex) (z : Nz) (hfn : fnB Tryz.prog f = true) (hl : l.length ≤ 17592186044000) (hcall : ∀ x ∈ l, FB f cs H (exC x) (gv x)) : E.Spec Tryz.prog 120 [exsC z l, .a (.fn f cs)] H fun x H' => x = .c (bC (l.any gv)) ∧ H' = H := by
 refine Spec.enter Tryz.func120 rfl ?_
 refine AW.wk (wK 9 (l := [(0, .c (exsC z l)), (1, .c (.a (.fn f cs)))]) (ll := []) (H := (H))) ?_
 refine D1 ?_
 refine D2 ?_
 refine SeqK.r (g_call rfl fn155 rfl (idxF_ex H f cs gv l z hfn hl hcall) rfl rfl rfl) rfl ?_
 refine G2 ?_
 exact aR (fE (e := bCe (bI (ixF_any l 0).symm).symm))
theorem any_not {α : Type} {p : α → Bool} : ∀ l : List α, (!(l.any fun a => !p a)) = l.all p
  | [] => rfl
  | a :: r => by rw [List.any_cons, List.all_cons, ← any_not r]; cases p a <;> simp
theorem iCe2 {a b : Int} (h : a = b) : X.c (iC a) = X.c (iC b) := by rw [h]
abbrev opsN (n : Int) : Int := if n = 1 ∨ n = 2 then 0 else if n = 3 ∨ n = 9 ∨ n = 17 ∨ n = 20 then 1 else if (4 ≤ n ∧ n ≤ 8) ∨ (10 ≤ n ∧ n ≤ 16) ∨ n = 18 ∨ n = 19 then 2 else -1
abbrev lvA (n : Int) : Int := if n = 19 then 1 else if n = 18 then 2 else if n = 20 then 3 else if n = 4 ∨ n = 5 then 5 else if 6 ≤ n ∧ n ≤ 8 then 6 else if n = 3 then 7 else if n = 1 ∨ n = 2 ∨ n = 9 then 8 else 4
abbrev lvR (n : Int) : Int := if n = 19 then 1 else if n = 18 then 2 else if n = 20 then 3 else if 10 ≤ n ∧ n ≤ 17 then 4 else if n = 4 ∨ n = 5 then 5 else if 6 ≤ n ∧ n ≤ 8 then 6 else if n = 3 then 7 else 8
theorem ops_rng {n : Int} (h : opsN n ≠ -1) : 1 ≤ n ∧ n ≤ 20 := by unfold opsN at h; grind
theorem lv_eq {n : Int} (h : opsN n ≠ -1) : lvR n = lvA n := by
  have h2 := ops_rng h
  have h3 : n = 1 ∨ n = 2 ∨ n = 3 ∨ n = 4 ∨ n = 5 ∨ n = 6 ∨ n = 7 ∨ n = 8 ∨ n = 9 ∨ n = 10 ∨ n = 11 ∨ n = 12 ∨ n = 13 ∨ n = 14 ∨ n = 15 ∨ n = 16 ∨ n = 17 ∨ n = 18 ∨ n = 19 ∨ n = 20 := by omega
  rcases h3 with rfl | rfl | rfl | rfl | rfl | rfl | rfl | rfl | rfl | rfl | rfl | rfl | rfl | rfl | rfl | rfl | rfl | rfl | rfl | rfl <;> decide
theorem lvA_pos (n : Int) : 1 ≤ lvA n ∧ lvA n ≤ 8 := by unfold lvA; grind
theorem args_any (n : Int) : Pu 135 [iC n] (.c (iC (opsN n))) := by
 intro H
 refine Spec.enter Tryz.func135 rfl ?_
 refine AW.wk (wK 27 (l := [(0, .c (iC n))]) (ll := []) (H := (H))) ?_
 refine D1 ?_
 refine AW.seq (D2 ?_)
 refine AW.block (AW.seq (D2 ?_))
 refine cD ?_ ?_ <;> intro h4
 ·
  refine AW.skip ?_
  refine AW.condD rfl (fun _ => ?_) (fun hq => absurd h4 hq)
  refine D1 ?_
  exact aR (fE (e := iCe2 (by unfold opsN; grind)))
 refine B2 ?_
 refine cD ?_ ?_ <;> intro h4
 ·
  refine D1 ?_
  exact aR (fE (e := iCe2 (by unfold opsN; grind)))
 refine AW.seq (D2 ?_)
 refine cD ?_ ?_ <;> intro h7
 ·
  refine AW.skip ?_
  refine AW.condD rfl (fun _ => ?_) (fun hq => absurd h7 hq)
  refine D1 ?_
  exact aR (fE (e := iCe2 (by unfold opsN; grind)))
 refine D2 ?_
 refine cD ?_ ?_ <;> intro h7
 ·
  refine AW.skip ?_
  refine AW.condD rfl (fun _ => ?_) (fun hq => absurd h7 hq)
  refine D1 ?_
  exact aR (fE (e := iCe2 (by unfold opsN; grind)))
 refine D2 ?_
 refine cD ?_ ?_ <;> intro h7
 ·
  refine AW.skip ?_
  refine AW.condD rfl (fun _ => ?_) (fun hq => absurd h7 hq)
  refine D1 ?_
  exact aR (fE (e := iCe2 (by unfold opsN; grind)))
 refine B2 ?_
 refine cD ?_ ?_ <;> intro h7
 ·
  refine D1 ?_
  exact aR (fE (e := iCe2 (by unfold opsN; grind)))
 refine AW.seq (D2 ?_)
 refine cD ?_ ?_ <;> intro h12
 ·
  refine AW.skip ?_
  refine AW.condD rfl (fun _ => ?_) (fun hq => absurd h12 hq)
  refine D1 ?_
  exact aR (fE (e := iCe2 (by unfold opsN; grind)))
 refine D2 ?_
 refine cD ?_ ?_ <;> intro h12
 ·
  refine AW.skip ?_
  refine AW.condD rfl (fun _ => ?_) (fun hq => absurd h12 hq)
  refine D1 ?_
  exact aR (fE (e := iCe2 (by unfold opsN; grind)))
 refine D2 ?_
 refine cD ?_ ?_ <;> intro h12
 ·
  refine AW.skip ?_
  refine AW.condD rfl (fun _ => ?_) (fun hq => absurd h12 hq)
  refine D1 ?_
  exact aR (fE (e := iCe2 (by unfold opsN; grind)))
 refine D2 ?_
 refine cD ?_ ?_ <;> intro h12
 ·
  refine AW.skip ?_
  refine AW.condD rfl (fun _ => ?_) (fun hq => absurd h12 hq)
  refine D1 ?_
  exact aR (fE (e := iCe2 (by unfold opsN; grind)))
 refine D2 ?_
 refine cD ?_ ?_ <;> intro h12
 ·
  refine AW.skip ?_
  refine AW.condD rfl (fun _ => ?_) (fun hq => absurd h12 hq)
  refine D1 ?_
  exact aR (fE (e := iCe2 (by unfold opsN; grind)))
 refine D2 ?_
 refine cD ?_ ?_ <;> intro h12
 ·
  refine AW.skip ?_
  refine AW.condD rfl (fun _ => ?_) (fun hq => absurd h12 hq)
  refine D1 ?_
  exact aR (fE (e := iCe2 (by unfold opsN; grind)))
 refine D2 ?_
 refine cD ?_ ?_ <;> intro h12
 ·
  refine AW.skip ?_
  refine AW.condD rfl (fun _ => ?_) (fun hq => absurd h12 hq)
  refine D1 ?_
  exact aR (fE (e := iCe2 (by unfold opsN; grind)))
 refine D2 ?_
 refine cD ?_ ?_ <;> intro h12
 ·
  refine AW.skip ?_
  refine AW.condD rfl (fun _ => ?_) (fun hq => absurd h12 hq)
  refine D1 ?_
  exact aR (fE (e := iCe2 (by unfold opsN; grind)))
 refine D2 ?_
 refine cD ?_ ?_ <;> intro h12
 ·
  refine AW.skip ?_
  refine AW.condD rfl (fun _ => ?_) (fun hq => absurd h12 hq)
  refine D1 ?_
  exact aR (fE (e := iCe2 (by unfold opsN; grind)))
 refine D2 ?_
 refine cD ?_ ?_ <;> intro h12
 ·
  refine AW.skip ?_
  refine AW.condD rfl (fun _ => ?_) (fun hq => absurd h12 hq)
  refine D1 ?_
  exact aR (fE (e := iCe2 (by unfold opsN; grind)))
 refine D2 ?_
 refine cD ?_ ?_ <;> intro h12
 ·
  refine AW.skip ?_
  refine AW.condD rfl (fun _ => ?_) (fun hq => absurd h12 hq)
  refine D1 ?_
  exact aR (fE (e := iCe2 (by unfold opsN; grind)))
 refine D2 ?_
 refine cD ?_ ?_ <;> intro h12
 ·
  refine AW.skip ?_
  refine AW.condD rfl (fun _ => ?_) (fun hq => absurd h12 hq)
  refine D1 ?_
  exact aR (fE (e := iCe2 (by unfold opsN; grind)))
 refine D2 ?_
 refine cD ?_ ?_ <;> intro h12
 ·
  refine AW.skip ?_
  refine AW.condD rfl (fun _ => ?_) (fun hq => absurd h12 hq)
  refine D1 ?_
  exact aR (fE (e := iCe2 (by unfold opsN; grind)))
 refine B2 ?_
 refine cD ?_ ?_ <;> intro h12
 ·
  refine D1 ?_
  exact aR (fE (e := iCe2 (by unfold opsN; grind)))
 refine AW.skip (D1 ?_)
 exact aR (fE (e := iCe2 (by unfold opsN; grind)))
theorem level_any (e : Ex) : Pu 148 [exC e] (.c (iC (lvA e.op))) := by
 intro H
 refine Spec.enter Tryz.func148 rfl ?_
 refine AW.wk (wK 24 (l := [(0, .c (exC e))]) (ll := []) (H := (H))) ?_
 refine D2 ?_
 refine AW.seq (D3 ?_)
 refine AW.block (D2 ?_)
 refine cD ?_ ?_ <;> intro h5
 ·
  refine D1 ?_
  exact aR (fE (e := iCe2 (by unfold lvA; grind)))
 refine D2 ?_
 refine cD ?_ ?_ <;> intro h7
 ·
  refine D1 ?_
  exact aR (fE (e := iCe2 (by unfold lvA; grind)))
 refine D2 ?_
 refine cD ?_ ?_ <;> intro h9
 ·
  refine D1 ?_
  exact aR (fE (e := iCe2 (by unfold lvA; grind)))
 refine AW.seq (D2 ?_)
 refine cD ?_ ?_ <;> intro h11
 ·
  refine AW.skip ?_
  refine AW.condD rfl (fun _ => ?_) (fun hq => absurd h11 hq)
  refine D1 ?_
  exact aR (fE (e := iCe2 (by unfold lvA; grind)))
 refine B2 ?_
 refine cD ?_ ?_ <;> intro h11
 ·
  refine D1 ?_
  exact aR (fE (e := iCe2 (by unfold lvA; grind)))
 refine AW.seq (D2 ?_)
 refine cD ?_ ?_ <;> intro h14
 ·
  refine AW.skip ?_
  refine AW.condD rfl (fun _ => ?_) (fun hq => absurd h14 hq)
  refine D1 ?_
  exact aR (fE (e := iCe2 (by unfold lvA; grind)))
 refine D2 ?_
 refine cD ?_ ?_ <;> intro h14
 ·
  refine AW.skip ?_
  refine AW.condD rfl (fun _ => ?_) (fun hq => absurd h14 hq)
  refine D1 ?_
  exact aR (fE (e := iCe2 (by unfold lvA; grind)))
 refine B2 ?_
 refine cD ?_ ?_ <;> intro h14
 ·
  refine D1 ?_
  exact aR (fE (e := iCe2 (by unfold lvA; grind)))
 refine D2 ?_
 refine cD ?_ ?_ <;> intro h18
 ·
  refine D1 ?_
  exact aR (fE (e := iCe2 (by unfold lvA; grind)))
 refine AW.seq (D2 ?_)
 refine cD ?_ ?_ <;> intro h20
 ·
  refine AW.skip ?_
  refine AW.condD rfl (fun _ => ?_) (fun hq => absurd h20 hq)
  refine D1 ?_
  exact aR (fE (e := iCe2 (by unfold lvA; grind)))
 refine D2 ?_
 refine cD ?_ ?_ <;> intro h20
 ·
  refine AW.skip ?_
  refine AW.condD rfl (fun _ => ?_) (fun hq => absurd h20 hq)
  refine D1 ?_
  exact aR (fE (e := iCe2 (by unfold lvA; grind)))
 refine B2 ?_
 refine cD ?_ ?_ <;> intro h20
 ·
  refine D1 ?_
  exact aR (fE (e := iCe2 (by unfold lvA; grind)))
 refine AW.skip (D1 ?_)
 exact aR (fE (e := iCe2 (by unfold lvA; grind)))
theorem rlevel_any (e : Ex) : Pu 104 [exC e] (.c (iC (lvR e.op))) := by
 intro H
 refine Spec.enter Tryz.func104 rfl ?_
 refine AW.wk (wK 46 (l := [(0, .c (exC e))]) (ll := []) (H := (H))) ?_
 refine D2 ?_
 refine AW.seq (AW.block (D4 ?_))
 refine cD ?_ ?_ <;> intro h3
 ·
  refine D1 ?_
  exact aR (fE (e := iCe2 (by unfold lvR; grind)))
 refine D4 ?_
 refine cD ?_ ?_ <;> intro h7
 ·
  refine D1 ?_
  exact aR (fE (e := iCe2 (by unfold lvR; grind)))
 refine D4 ?_
 refine cD ?_ ?_ <;> intro h11
 ·
  refine D1 ?_
  exact aR (fE (e := iCe2 (by unfold lvR; grind)))
 refine D3 ?_
 refine Z17 ?_ ?_ <;> intro g19
 ·
  refine G5 ?_
  refine cD ?_ ?_ <;> intro h15
  ·
   refine D1 ?_
   exact aR (fE (e := iCe2 (by unfold lvR; grind)))
  refine D3 ?_
  refine Z17 ?_ ?_ <;> intro g28
  ·
   iterate 3 refine oF ?_
   refine G2 ?_
   refine AW.condT rfl ?_
   refine D1 ?_
   exact aR (fE (e := iCe2 (by unfold lvR; grind)))
  refine G5 ?_
  refine cD ?_ ?_ <;> intro h24
  ·
   refine D1 ?_
   exact aR (fE (e := iCe2 (by unfold lvR; grind)))
  refine D3 ?_
  refine Z17 ?_ ?_ <;> intro g37
  ·
   refine G5 ?_
   refine cD ?_ ?_ <;> intro h33
   ·
    refine D1 ?_
    exact aR (fE (e := iCe2 (by unfold lvR; grind)))
   refine D4 ?_
   refine cD ?_ ?_ <;> intro h42
   ·
    refine D1 ?_
    exact aR (fE (e := iCe2 (by unfold lvR; grind)))
   refine AW.skip (D1 ?_)
   exact aR (fE (e := iCe2 (by unfold lvR; grind)))
  iterate 3 refine oF ?_
  refine G2 ?_
  refine AW.condF rfl ?_
  refine D4 ?_
  refine cD ?_ ?_ <;> intro h42
  ·
   refine D1 ?_
   exact aR (fE (e := iCe2 (by unfold lvR; grind)))
  refine AW.skip (D1 ?_)
  exact aR (fE (e := iCe2 (by unfold lvR; grind)))
 iterate 3 refine oF ?_
 refine G2 ?_
 refine AW.condF rfl ?_
 refine D3 ?_
 refine Z17 ?_ ?_ <;> intro g28
 ·
  iterate 3 refine oF ?_
  refine G2 ?_
  refine AW.condT rfl ?_
  refine D1 ?_
  exact aR (fE (e := iCe2 (by unfold lvR; grind)))
 refine G5 ?_
 refine cD ?_ ?_ <;> intro h24
 ·
  refine D1 ?_
  exact aR (fE (e := iCe2 (by unfold lvR; grind)))
 refine D3 ?_
 refine Z17 ?_ ?_ <;> intro g37
 ·
  refine G5 ?_
  refine cD ?_ ?_ <;> intro h33
  ·
   refine D1 ?_
   exact aR (fE (e := iCe2 (by unfold lvR; grind)))
  refine D4 ?_
  refine cD ?_ ?_ <;> intro h42
  ·
   refine D1 ?_
   exact aR (fE (e := iCe2 (by unfold lvR; grind)))
  refine AW.skip (D1 ?_)
  exact aR (fE (e := iCe2 (by unfold lvR; grind)))
 iterate 3 refine oF ?_
 refine G2 ?_
 refine AW.condF rfl ?_
 refine D4 ?_
 refine cD ?_ ?_ <;> intro h42
 ·
  refine D1 ?_
  exact aR (fE (e := iCe2 (by unfold lvR; grind)))
 refine AW.skip (D1 ?_)
 exact aR (fE (e := iCe2 (by unfold lvR; grind)))
mutual
def depN : Ex → Nat
  | .mk op _ _ _ _ _ _ xs => depNs xs + if op ≠ 0 then 1 else 0
def depNs : List Ex → Nat
  | [] => 0
  | e :: r => max (depN e) (depNs r)
end
theorem depN_eq (e : Ex) : depN e = depNs e.args + if e.op ≠ 0 then 1 else 0 := by cases e; rw [depN]
theorem depNs_app : ∀ (a b : List Ex), depNs (a ++ b) = max (depNs a) (depNs b)
  | [], b => by simp [depNs]
  | e :: r, b => by rw [List.cons_append, depNs, depNs_app r b, depNs]; omega
theorem depNs_take {l : List Ex} {i : Nat} (hi : i < l.length) : depNs (l.take (i + 1)) = max (depNs (l.take i)) (depN l[i]) := by
  rw [take_put hi, depNs_app, depNs, depNs]; omega
theorem depNs_mem {l : List Ex} {a : Ex} (h : a ∈ l) : depN a ≤ depNs l := by
  induction l with
  | nil => cases h
  | cons x r ih =>
    rw [depNs]
    rcases jD.1 h with rfl | h
    · omega
    · have := ih h; omega
theorem depth_of (e : Ex) (ho : okE e) (hd : depN e ≤ 1000000) (ih : ∀ a ∈ e.args, Pu 170 [exC a] (.c (iC ((depN a : Nat) : Int)))) : Pu 170 [exC e] (.c (iC ((depN e : Nat) : Int))) := by
 have k4 := (okE_iff.1 ho).1.2.2.2
 have hde := depN_eq e
 have hd2 : depNs e.args ≤ 1000000 := by omega
 intro H
 refine Spec.enter Tryz.func170 rfl ?_
 refine AW.wk (wK 24 (l := [(0, .c (exC e))]) (ll := []) (H := (H))) ?_
 refine D2 ?_
 refine D1 ?_
 refine AW.seq (D5 ?_)
 refine AW.block (AW.loop (fun (i : Nat) s => ∃ (m : Int), (i ≤ e.args.length ∧ m = ((depNs (e.args.take i) : Nat) : Int)) ∧ s = ⟨24, sp [(1, .lp 1 0), (2, .c (iC 0)), (3, .c (iC m)), (7, .c (exsC .un e.args)), (8, iX .i64 (((e.args.map exT').length : Nat) : Int)), (9, nX i)], lv [(1, .box (zEx e))], H⟩) (fun i => e.args.length - i) 0 ⟨_, by exact wK 24, 0, ⟨qZ _, rfl⟩, rfl⟩ (fun i s hs => ?_))
 obtain ⟨m, ⟨hi0, hm⟩, rfl⟩ := hs
 refine D2 ?_
 refine AW.seq ?_
 refine cD ?_ ?_ <;> intro h10
 ·
  have hi := oI h10
  refine AW.skip (AW.seq (AW.block (D5 ?_)))
  refine B2 ?_
  refine Z16 fn170 (ih _ (qC hi)) ?_
  refine sQ (q_max rfl rfl rfl) ?_
  refine sB ?_
  refine B3 ?_
  exact ⟨i + 1, _, by exact wK 24, by omega, max m ((depN e.args[i] : Nat) : Int), ⟨hi, by rw [hm, depNs_take hi]; omega⟩, rfl⟩
 refine AW.exit ?_
 refine eth_e ?_
 refine eth_e ?_
 refine exit_here ?_
 refine AW.seq (AW.seq ?_)
 have hf : m = ((depNs e.args : Nat) : Int) := by rw [hm, qU (by rw [qA] at h10; omega)]
 refine B4 ?_
 refine cD ?_ ?_ <;> intro h20
 ·
  have hv : depN e = depNs e.args + 1 := by rw [hde, if_pos h20]
  refine B3 ?_
  refine D2 ?_
  exact aR (fE (e := iCe2 (by omega)))
 have hv : depN e = depNs e.args := by rw [hde, if_neg h20]; rfl
 refine AW.skip (D2 ?_)
 exact aR (fE (e := iCe2 (by omega)))
theorem rdepth_of (e : Ex) (ho : okE e) (hd : depN e ≤ 1000000) (ih : ∀ a ∈ e.args, Pu 48 [exC a] (.c (iC ((depN a : Nat) : Int)))) : Pu 48 [exC e] (.c (iC ((depN e : Nat) : Int))) := by
 have k4 := (okE_iff.1 ho).1.2.2.2
 have hde := depN_eq e
 have hd2 : depNs e.args ≤ 1000000 := by omega
 intro H
 refine Spec.enter Tryz.func48 rfl ?_
 refine AW.wk (wK 26 (l := [(0, .c (exC e))]) (ll := []) (H := (H))) ?_
 refine D2 ?_
 refine D1 ?_
 refine AW.seq (D1 ?_)
 refine AW.block (AW.loop (fun (i : Nat) s => ∃ (m : Int), (i ≤ e.args.length ∧ m = ((depNs (e.args.take i) : Nat) : Int)) ∧ s = ⟨26, sp [(1, .lp 1 0), (2, .c (iC 0)), (3, .c (iC m)), (4, nX i)], lv [(1, .box (zEx e))], H⟩) (fun i => e.args.length - i) 0 ⟨_, by exact wK 26, 0, ⟨qZ _, rfl⟩, rfl⟩ (fun i s hs => ?_))
 obtain ⟨m, ⟨hi0, hm⟩, rfl⟩ := hs
 refine AW.seq (D6 ?_)
 refine cD ?_ ?_ <;> intro h9
 ·
  have hi := oI h9
  refine AW.skip (AW.seq (AW.block (B6 ?_)))
  refine Z16 fn48 (ih _ (qC hi)) ?_
  refine sQ (q_max rfl rfl rfl) ?_
  refine sB ?_
  refine B3 ?_
  exact ⟨i + 1, _, by exact wK 26, by omega, max m ((depN e.args[i] : Nat) : Int), ⟨hi, by rw [hm, depNs_take hi]; omega⟩, rfl⟩
 refine AW.exit ?_
 refine eth_e ?_
 refine eth_e ?_
 refine exit_here ?_
 refine AW.seq (AW.seq ?_)
 have hf : m = ((depNs e.args : Nat) : Int) := by rw [hm, qU (by rw [qA] at h9; omega)]
 refine B4 ?_
 refine cD ?_ ?_ <;> intro h22
 ·
  have hv : depN e = depNs e.args + 1 := by rw [hde, if_pos h22]
  refine B3 ?_
  refine D2 ?_
  exact aR (fE (e := iCe2 (by omega)))
 have hv : depN e = depNs e.args := by rw [hde, if_neg h22]; rfl
 refine AW.skip (D2 ?_)
 exact aR (fE (e := iCe2 (by omega)))
theorem depth_any (e : Ex) : okE e → depN e ≤ 1000000 → Pu 170 [exC e] (.c (iC ((depN e : Nat) : Int))) := by
  induction e using Ex.rec' with
  | h e ih => exact fun ho hd => depth_of e ho hd fun a ha => ih a ha ((okE_iff.1 ho).2 a ha) (by have h1 := depNs_mem ha; have h2 := depN_eq e; omega)
theorem rdepth_any (e : Ex) : okE e → depN e ≤ 1000000 → Pu 48 [exC e] (.c (iC ((depN e : Nat) : Int))) := by
  induction e using Ex.rec' with
  | h e ih => exact fun ho hd => rdepth_of e ho hd fun a ha => ih a ha ((okE_iff.1 ho).2 a ha) (by have h1 := depNs_mem ha; have h2 := depN_eq e; omega)
mutual
def ndE : Ex → Nat
  | .mk op _ _ _ _ _ _ xs => (if op ≠ 0 then 1 else 0) + ndS xs
def ndS : List Ex → Nat
  | [] => 0
  | e :: r => ndE e + ndS r
end
theorem ndE_eq (e : Ex) : ndE e = (if e.op ≠ 0 then 1 else 0) + ndS e.args := by cases e; rw [ndE]
theorem ndS_app : ∀ (a b : List Ex), ndS (a ++ b) = ndS a + ndS b
  | [], b => by simp [ndS]
  | e :: r, b => by rw [List.cons_append, ndS, ndS_app r b, ndS]; omega
theorem ndS_take {l : List Ex} {i : Nat} (hi : i < l.length) : ndS (l.take (i + 1)) = ndS (l.take i) + ndE l[i] := by
  rw [take_put hi, ndS_app, ndS, ndS]; omega
theorem ndS_mem {l : List Ex} {a : Ex} (h : a ∈ l) : ndE a ≤ ndS l := by
  induction l with
  | nil => cases h
  | cons x r ih =>
    rw [ndS]
    rcases jD.1 h with rfl | h
    · omega
    · have := ih h; omega
theorem ndS_tk {l : List Ex} {i : Nat} (hi : i < l.length) : ndS (l.take i) + ndE l[i] ≤ ndS l := by
  rw [← ndS_take hi]
  conv => rhs; rw [← List.take_append_drop (i + 1) l]
  rw [ndS_app]; omega
theorem dep_nd (e : Ex) : depN e ≤ ndE e := by
  induction e using Ex.rec' with
  | h e ih =>
    have key : ∀ l : List Ex, (∀ a ∈ l, depN a ≤ ndE a) → depNs l ≤ ndS l := by
      intro l
      induction l with
      | nil => simp [depNs]
      | cons a r ih2 =>
        intro h
        have h1 := h a (by simp)
        have h2 := ih2 fun x hx => h x (by simp [hx])
        rw [depNs, ndS]; omega
    have := key e.args ih
    rw [depN_eq, ndE_eq]; omega
theorem counted_of (l : List Ex) (z : Nz) (m : Nat) (hl : l.length ≤ 17592186044000) (hm : ndS l ≤ m) (hm2 : m ≤ 1000000) (ih : ∀ a ∈ l, ∀ n : Nat, ndS a.args ≤ n → n ≤ 1000000 → Pu 168 [exsC .un a.args, iC (n : Int)] (.c (iC ((ndS a.args : Nat) : Int)))) : Pu 168 [exsC z l, iC (m : Int)] (.c (iC ((ndS l : Nat) : Int))) := by
 intro H
 refine Spec.enter Tryz.func168 rfl ?_
 refine AW.wk (wK 35 (l := [(0, .c (exsC z l)), (1, .c (iC (m : Int)))]) (ll := []) (H := (H))) ?_
 refine D1 ?_
 refine D1 ?_
 refine AW.seq (D4 ?_)
 refine AW.block (AW.loop (fun (i : Nat) s => ∃ (n : Nat), (i ≤ l.length ∧ n = ndS (l.take i)) ∧ s = ⟨35, sp [(1, .c (iC (m : Int))), (4, .c (iC 0)), (5, nX n), (8, .c (exsC z l)), (9, iX .i64 (((l.map exT').length : Nat) : Int)), (10, nX i)], lv [], H⟩) (fun i => l.length - i) 0 ⟨_, by exact wK 35, 0, ⟨qZ _, rfl⟩, rfl⟩ (fun i s hs => ?_))
 obtain ⟨n, ⟨hi0, hn⟩, rfl⟩ := hs
 refine D2 ?_
 refine AW.seq ?_
 refine cD ?_ ?_ <;> intro h11
 rotate_left
 ·
  refine AW.exit ?_
  refine eth_e ?_
  refine eth_e ?_
  refine exit_here ?_
  refine AW.seq ?_
  have hf : n = ndS l := by rw [hn, qU (by rw [qA] at h11; omega)]
  refine B2 ?_
  exact aR (fE (e := iCe2 (by rw [hf])))
 have hi := oI h11
 have htk := ndS_tk hi
 have hne := ndE_eq l[i]
 refine AW.skip (AW.seq (AW.block (D5 ?_)))
 refine AW.seq (D4 ?_)
 refine cD ?_ ?_ <;> intro h16
 ·
  have hv : ndE l[i] = 1 + ndS l[i].args := by rw [hne, if_pos h16]
  refine B3 ?_
  refine AW.seq (D2 ?_)
  refine sQ (q_leq rfl rfl rfl) ?_
  refine Z4 ?_
  refine cD ?_ ?_ <;> intro h21
  rotate_left
  ·
   exfalso; omega
  refine B5 ?_
  refine sQ (q_sub _ rfl rfl rfl ((by rw [w64 (by omega) (by omega)]; omega : IntKind.i64.wrap _ = ((m - (n + 1) : Nat) : Int)))) ?_
  refine sQ (q_call _ rfl fn168 rfl (ih _ (qC hi) (m - (n + 1)) (by omega) (by omega)) rfl) ?_
  refine sQ (q_add _ rfl rfl rfl ((by rw [w64 (by omega) (by omega), hv]; omega : IntKind.i64.wrap _ = ((n + ndE l[i] : Nat) : Int)))) ?_
  refine sB ?_
  refine D4 ?_
  refine cD ?_ ?_ <;> intro h32
  ·
   exfalso; omega
  refine AW.skip (B3 ?_)
  exact ⟨i + 1, _, by exact wK 35, by omega, n + ndE l[i], ⟨hi, by rw [hn, ndS_take hi]⟩, rfl⟩
 have hv : ndE l[i] = ndS l[i].args := by rw [hne, if_neg h16, Nat.zero_add]
 refine AW.skip (AW.seq (D2 ?_))
 refine sQ (q_leq rfl rfl rfl) ?_
 refine Z4 ?_
 refine cD ?_ ?_ <;> intro h21
 rotate_left
 ·
  exfalso; omega
 refine B5 ?_
 refine sQ (q_sub _ rfl rfl rfl ((by rw [w64 (by omega) (by omega)]; omega : IntKind.i64.wrap _ = ((m - n : Nat) : Int)))) ?_
 refine sQ (q_call _ rfl fn168 rfl (ih _ (qC hi) (m - n) (by omega) (by omega)) rfl) ?_
 refine sQ (q_add _ rfl rfl rfl ((by rw [w64 (by omega) (by omega), hv]; omega : IntKind.i64.wrap _ = ((n + ndE l[i] : Nat) : Int)))) ?_
 refine sB ?_
 refine D4 ?_
 refine cD ?_ ?_ <;> intro h32
 ·
  exfalso; omega
 refine AW.skip (B3 ?_)
 exact ⟨i + 1, _, by exact wK 35, by omega, n + ndE l[i], ⟨hi, by rw [hn, ndS_take hi]⟩, rfl⟩
theorem counted_in (e : Ex) : okE e → ∀ n : Nat, ndS e.args ≤ n → n ≤ 1000000 → Pu 168 [exsC .un e.args, iC (n : Int)] (.c (iC ((ndS e.args : Nat) : Int))) := by
  induction e using Ex.rec' with
  | h e ih => exact fun ho n h1 h2 => counted_of e.args .un n (okE_iff.1 ho).1.2.2.2 h1 h2 fun a ha => ih a ha ((okE_iff.1 ho).2 a ha)
theorem counted_any (l : List Ex) (z : Nz) (m : Nat) (hl : l.length ≤ 17592186044000) (ho : ∀ a ∈ l, okE a) (hm : ndS l ≤ m) (hm2 : m ≤ 1000000) : Pu 168 [exsC z l, iC (m : Int)] (.c (iC ((ndS l : Nat) : Int))) :=
  counted_of l z m hl hm hm2 fun a ha => counted_in a (ho a ha)
abbrev txP (s : ByteArray) : Prop := (∀ j (h : j < s.data.toList.length), 32 ≤ s.data.toList[j].toNat ∧ s.data.toList[j].toNat ≤ 126) ∧ s.size ≤ 16
abbrev ltP (k n : Int) (s : ByteArray) : Prop := if k = 0 then n = 0 ∧ s = ⟨#[]⟩ else if k = 1 then (0 ≤ n ∧ n ≤ 2147483648) ∧ s = ⟨#[]⟩ else if k = 2 then n = 0 ∧ txP s else False
instance : ∀ k n s, Decidable (ltP k n s) := fun k n s => by
  unfold ltP
  exact inferInstance
abbrev vaC (k n : Int) (s : ByteArray) : C := .g [.t (.v (.int .i64 k)), .t (.v (.int .i64 n)), .t (.v (.string s))]
theorem rtext_any (u : ByteArray) (hs : u.size ≤ 1000000000000000) : Pu 163 [sC u] (.c (bC (decide (txP u)))) := by
 have hl := ba_len u
 intro H
 refine Spec.enter Tryz.func163 rfl ?_
 refine AW.wk (wK 23 (l := [(0, .c (sC u))]) (ll := []) (H := (H))) ?_
 refine D1 ?_
 refine AW.seq (D1 ?_)
 refine AW.block (AW.loop (fun (i : Nat) s => (i ≤ u.data.toList.length ∧ ∀ j (h : j < u.data.toList.length), j < i → 32 ≤ u.data.toList[j].toNat ∧ u.data.toList[j].toNat ≤ 126) ∧ s = ⟨23, sp [(0, .c (sC u)), (2, .c (bC false)), (3, nX i)], lv [], H⟩) (fun i => u.data.toList.length - i) 0 ⟨_, by exact wK 23, ⟨qZ _, up0⟩, rfl⟩ (fun i s hs => ?_))
 obtain ⟨⟨hi0, hU⟩, rfl⟩ := hs
 refine AW.seq (D5 ?_)
 refine cD ?_ ?_ <;> intro h7
 ·
  have hi : i < u.data.toList.length := by omega
  refine AW.skip (AW.seq (AW.block (D2 ?_)))
  refine Z58 un9 (idx_ba hi) ?_
  refine Z15 ?_
  refine Z17 ?_ ?_ <;> intro g14
  ·
   iterate 4 refine oF ?_
   refine G2 ?_
   refine AW.condT rfl ?_
   refine D1 ?_
   exact aR (fE (e := bCe (dF (fun h => by have h9 := h.1 i hi; omega))))
  refine G2 ?_
  refine Z34 un9 (idx_ba hi) ?_
  refine G3 ?_
  refine cD ?_ ?_ <;> intro h19
  ·
   refine D1 ?_
   exact aR (fE (e := bCe (dF (fun h => by have h9 := h.1 i hi; omega))))
  refine AW.skip (B3 ?_)
  exact ⟨i + 1, _, by exact wK 23, by omega, ⟨hi, upS (Q := fun j h => 32 ≤ u.data.toList[j].toNat ∧ u.data.toList[j].toNat ≤ 126) hi hU (by omega)⟩, rfl⟩
 refine AW.exit ?_
 refine eth_e ?_
 refine eth_e ?_
 refine exit_here ?_
 refine AW.seq ?_
 have hA := upE hU (by omega)
 refine B2 ?_
 refine sQ (q_leq rfl rfl rfl) ?_
 refine sB ?_
 exact aR (fE (e := bCe (dI ⟨fun h => ⟨hA, by omega⟩, fun h => by have := h.2; omega⟩)))
theorem number_num (n : Int) : Pu 139 [iC n] (.c (bC (decide (0 ≤ n ∧ n ≤ 2147483648)))) := by
 intro H
 refine Spec.enter Tryz.func139 rfl ?_
 refine AW.wk (wK 9 (l := [(0, .c (iC n))]) (ll := []) (H := (H))) ?_
 refine D1 ?_
 refine D2 ?_
 refine Z17 ?_ ?_ <;> intro g5
 ·
  refine G4 ?_
  exact aR (fE (e := bCe (by first | exact dI ⟨fun h => ⟨by omega, h⟩, fun h => h.2⟩ | exact dF (fun h => by omega))))
 iterate 2 refine oF ?_
 refine G2 ?_
 exact aR (fE (e := bCe (by first | exact dI ⟨fun h => ⟨by omega, h⟩, fun h => h.2⟩ | exact dF (fun h => by omega))))
theorem rliteral_any (k n : Int) (u : ByteArray) (hs : u.size ≤ 1000000000000000) : Pu 136 [vaC k n u] (.c (bC (decide (ltP k n u)))) := by
 intro H
 refine Spec.enter Tryz.func136 rfl ?_
 refine AW.wk (wK 35 (l := [(0, .c (vaC k n u))]) (ll := []) (H := (H))) ?_
 refine D2 ?_
 refine AW.seq (D3 ?_)
 refine AW.block (D2 ?_)
 refine cD ?_ ?_ <;> intro h5
 ·
  refine D3 ?_
  refine Z17 ?_ ?_ <;> intro g10
  ·
   refine G2 ?_
   refine sO (q_eqlS rfl rfl rfl) ?_
   refine G2 ?_
   exact aR (fE (e := bCe (by simp [ltP, *])))
  iterate 3 refine oF ?_
  refine G2 ?_
  exact aR (fE (e := bCe (by simp [ltP, *])))
 refine D2 ?_
 refine cD ?_ ?_ <;> intro h15
 ·
  refine D2 ?_
  refine Z16 fn139 (number_num n) ?_
  refine Z53 ?_ ?_ <;> intro g20
  ·
   refine G2 ?_
   refine sO (q_eqlS rfl rfl rfl) ?_
   refine G2 ?_
   exact aR (fE (e := bCe (by simp [ltP, *])))
  iterate 3 refine oF ?_
  refine G2 ?_
  exact aR (fE (e := bCe (by simp [ltP, *])))
 refine D2 ?_
 refine cD ?_ ?_ <;> intro h25
 ·
  refine D3 ?_
  refine Z17 ?_ ?_ <;> intro g30
  ·
   refine G2 ?_
   refine Z52 fn163 (rtext_any u hs) ?_
   refine G2 ?_
   exact aR (fE (e := bCe (by simp [ltP, *])))
  iterate 3 refine oF ?_
  refine G2 ?_
  exact aR (fE (e := bCe (by simp [ltP, *])))
 refine AW.skip (D1 ?_)
 exact aR (fE (e := bCe (by simp [ltP, *])))
theorem idx_inf : ∀ (a b : List UInt8), 0 ≤ Lib.index a b ↔ ∃ x y, a = x ++ b ++ y
  | [], b => by
    rw [Lib.index]
    cases b with
    | nil => simp
    | cons c r => simp
  | c :: a, b => by
    rw [Lib.index]
    by_cases h : b.isPrefixOf (c :: a) = true
    · rw [if_pos h]
      obtain ⟨y, hy⟩ := List.isPrefixOf_iff_prefix.1 h
      exact ⟨fun _ => ⟨[], y, by rw [List.nil_append, hy]⟩, fun _ => Int.le_refl _⟩
    · rw [if_neg h]
      have ih := idx_inf a b
      have hg := Lib.index_ge a b
      by_cases h2 : (Lib.index a b == -1) = true
      · rw [if_pos h2]
        have h3 : Lib.index a b = -1 := by simpa using h2
        refine ⟨fun h => absurd h (by decide), fun ⟨x, y, e⟩ => ?_⟩
        cases x with
        | nil => exact absurd (List.isPrefixOf_iff_prefix.2 ⟨y, by rw [e]; simp⟩) h
        | cons d x =>
          have := ih.2 ⟨x, y, by simp at e; simp [e.2]⟩
          omega
      · rw [if_neg h2]
        have h3 : Lib.index a b ≠ -1 := by simpa using h2
        refine ⟨fun _ => ?_, fun _ => by omega⟩
        obtain ⟨x, y, e⟩ := ih.1 (by omega)
        exact ⟨c :: x, y, by rw [e]; simp⟩
theorem sep_eq : ∀ {u w a b : List UInt8}, 32 ∉ u → 32 ∉ w → u ++ 32 :: a = w ++ 32 :: b → u = w
  | [], [], _, _, _, _, _ => rfl
  | [], x :: w, _, _, _, hw, h => by simp at h; exact absurd (by simp [h.1]) hw
  | x :: u, [], _, _, hu, _, h => by simp at h; exact absurd (by simp [h.1]) hu
  | x :: u, y :: w, _, _, hu, hw, h => by
    simp at h
    rw [h.1, sep_eq (u := u) (w := w) (fun k => hu (by simp [k])) (fun k => hw (by simp [k])) h.2]
def KW : List (List UInt8) → List UInt8
  | [] => [32]
  | w :: r => 32 :: (w ++ KW r)
theorem KW_32 : ∀ l, ∃ t, KW l = 32 :: t
  | [] => ⟨[], rfl⟩
  | w :: r => ⟨_, rfl⟩
theorem kw_inf {u : List UInt8} (hu : 32 ∉ u) (hn : u ≠ []) : ∀ ws : List (List UInt8), (∀ w ∈ ws, 32 ∉ w) → ((∃ x y, KW ws = x ++ (32 :: (u ++ [32])) ++ y) ↔ u ∈ ws)
  | [], _ => by
    refine ⟨fun ⟨x, y, e⟩ => ?_, fun h => by simp at h⟩
    have h1 := congrArg List.length e
    have h2 : 0 < u.length := List.length_pos_iff.2 hn
    simp [KW] at h1; omega
  | w :: r, hw => by
    have ih := kw_inf hu hn r fun x hx => hw x (by simp [hx])
    have hw0 := hw w (by simp)
    obtain ⟨t, ht⟩ := KW_32 r
    constructor
    · rintro ⟨x, y, e⟩
      rw [KW] at e
      cases x with
      | nil =>
        simp at e
        rw [ht] at e
        have h1 : u ++ 32 :: y = w ++ 32 :: t := by rw [e]
        rw [sep_eq hu hw0 h1]; simp
      | cons d x =>
        simp at e
        refine List.mem_cons_of_mem _ (ih.1 ?_)
        rcases List.append_eq_append_iff.1 e.2 with ⟨c, h1, h2⟩ | ⟨c, h1, h2⟩
        · exact ⟨c, y, by rw [h2]; simp⟩
        · cases c with
          | nil => exact ⟨[], y, by simp at h2; rw [← h2]; simp⟩
          | cons q c =>
            simp at h2
            exact absurd (by rw [h1, ← h2.1]; simp) hw0
    · intro h
      rcases jD.1 h with rfl | h
      · exact ⟨[], t, by rw [KW, ht]; simp⟩
      · obtain ⟨x, y, e⟩ := ih.2 h
        exact ⟨32 :: (w ++ x), y, by rw [KW, e]; simp⟩
def kwds : List ByteArray := [⟨#[97, 110, 100]⟩, ⟨#[97, 115]⟩, ⟨#[97, 115, 99]⟩, ⟨#[98, 101, 103, 105, 110]⟩, ⟨#[98, 101, 116, 119, 101, 101, 110]⟩, ⟨#[98, 121]⟩, ⟨#[99, 104, 101, 99, 107]⟩, ⟨#[99, 111, 109, 109, 105, 116]⟩, ⟨#[99, 111, 117, 110, 116]⟩, ⟨#[99, 114, 101, 97, 116, 101]⟩, ⟨#[100, 101, 108, 101, 116, 101]⟩, ⟨#[100, 101, 115, 99]⟩, ⟨#[102, 111, 114, 101, 105, 103, 110]⟩, ⟨#[102, 114, 111, 109]⟩, ⟨#[103, 114, 111, 117, 112]⟩, ⟨#[105, 110]⟩, ⟨#[105, 110, 115, 101, 114, 116]⟩, ⟨#[105, 110, 116, 101, 103, 101, 114]⟩, ⟨#[105, 110, 116, 111]⟩, ⟨#[105, 115]⟩, ⟨#[106, 111, 105, 110]⟩, ⟨#[107, 101, 121]⟩, ⟨#[108, 101, 110, 103, 116, 104]⟩, ⟨#[108, 105, 107, 101]⟩, ⟨#[108, 105, 109, 105, 116]⟩, ⟨#[109, 97, 120]⟩, ⟨#[109, 105, 110]⟩, ⟨#[110, 111, 116]⟩, ⟨#[110, 117, 108, 108]⟩, ⟨#[111, 110]⟩, ⟨#[111, 114]⟩, ⟨#[111, 114, 100, 101, 114]⟩, ⟨#[112, 114, 105, 109, 97, 114, 121]⟩, ⟨#[114, 101, 102, 101, 114, 101, 110, 99, 101, 115]⟩, ⟨#[114, 101, 108, 101, 97, 115, 101]⟩, ⟨#[114, 111, 108, 108, 98, 97, 99, 107]⟩, ⟨#[115, 97, 118, 101, 112, 111, 105, 110, 116]⟩, ⟨#[115, 101, 108, 101, 99, 116]⟩, ⟨#[115, 101, 116]⟩, ⟨#[115, 117, 109]⟩, ⟨#[116, 97, 98, 108, 101]⟩, ⟨#[116, 101, 120, 116]⟩, ⟨#[116, 111]⟩, ⟨#[117, 110, 105, 113, 117, 101]⟩, ⟨#[117, 112, 100, 97, 116, 101]⟩, ⟨#[118, 97, 108, 117, 101, 115]⟩, ⟨#[119, 104, 101, 114, 101]⟩]
theorem kwd_KW : kwd.data.toList = KW (kwds.map (·.data.toList)) := by decide +kernel
theorem kwds_sp : ∀ w ∈ kwds.map (·.data.toList), (32 : UInt8) ∉ w := by decide +kernel
def memD {α : Type} [DecidableEq α] (a : α) : ∀ l : List α, Decidable (a ∈ l)
  | [] => isFalse (by simp)
  | b :: r => match decEq a b with
    | isTrue e => isTrue (by simp [e])
    | isFalse e => match memD a r with
      | isTrue h => isTrue (by simp [h])
      | isFalse h => isFalse (by simp [e, h])
instance (u : ByteArray) : Decidable (u ∈ kwds) := memD u kwds
theorem ba_empty {u : ByteArray} (h : u.size = 0) : u = ⟨#[]⟩ := by
  cases u
  congr 1
  exact Array.eq_empty_of_size_eq_zero h
abbrev nmQ (u : ByteArray) : Prop := (1 ≤ u.size ∧ u.size ≤ 24) ∧ (∀ h : 0 < u.data.toList.length, 97 ≤ u.data.toList[0].toNat ∧ u.data.toList[0].toNat ≤ 122) ∧ (∀ j (h : j < u.data.toList.length), chrP u.data.toList[j]) ∧ u ∉ kwds
instance : DecidablePred nmQ := fun u => @instDecidableAnd _ _ inferInstance (@instDecidableAnd _ _ inferInstance (@instDecidableAnd _ _ inferInstance inferInstance))
theorem con_kw {u : ByteArray} (h0 : 1 ≤ u.size) (h : ∀ j (h : j < u.data.toList.length), chrP u.data.toList[j]) : Lib.contains kwd.data.toList (spc ++ u ++ spc).data.toList = true ↔ u ∈ kwds := by
  have hu : (32 : UInt8) ∉ u.data.toList := fun hm => by
    obtain ⟨j, hj, e⟩ := qN.1 hm
    have h1 : (97 ≤ u.data.toList[j].toNat ∧ u.data.toList[j].toNat ≤ 122) ∨ (48 ≤ u.data.toList[j].toNat ∧ u.data.toList[j].toNat ≤ 57) ∨ u.data.toList[j].toNat = 95 := h j hj
    rw [e] at h1
    have h2 : (32 : UInt8).toNat = 32 := rfl
    omega
  have hn : u.data.toList ≠ [] := fun e => by
    have := ba_len u
    rw [e] at this
    have h3 : (0 : Nat) = u.size := this
    omega
  have e1 : (spc ++ u ++ spc).data.toList = 32 :: (u.data.toList ++ [32]) := by simp [spc]
  rw [Lib.contains, decide_eq_true_eq, idx_inf, e1, kwd_KW, kw_inf hu hn _ kwds_sp, jE]
  constructor
  · rintro ⟨w, hw, e⟩
    have : w = u := by
      cases w; cases u
      congr 1
      exact Array.toList_inj.1 e
    rw [← this]; exact hw
  · intro hm; exact ⟨u, hm, rfl⟩
theorem contains_tab (u : ByteArray) (hu : u.size ≤ 1000000) : Pu 189 [sC kwd, sC (spc ++ u ++ spc)] (.c (bC (Lib.contains kwd.data.toList (spc ++ u ++ spc).data.toList))) :=
  Pure.of_tab [.string kwd, .string (spc ++ u ++ spc)] (fun w hw => by
    obtain ⟨m, hm⟩ := hw.int (g := 0) rfl
    exact Tryz.strings_Contains kwd (spc ++ u ++ spc) m w (by rw [kwd_size]; omega) hm) fun c => .t (.v rfl)
theorem aname_any (u : ByteArray) (hu : u.size ≤ 1000000000000000) : Pu 173 [sC u] (.c (bC (decide (nmQ u)))) := by
 intro H
 refine Spec.enter Tryz.func173 rfl ?_
 refine AW.wk (wK 55 (l := [(0, .c (sC u))]) (ll := []) (H := (H))) ?_
 refine D1 ?_
 refine AW.seq (AW.seq ?_)
 have hl := ba_len u
 have e1 : spc.size = 1 := rfl
 have e2 : (⟨#[32]⟩ : ByteArray).size = 1 := rfl
 refine B1 ?_
 refine sQ (q_eqlS rfl rfl rfl) ?_
 refine Z17 ?_ ?_ <;> intro g7
 ·
  iterate 3 refine oF ?_
  refine G2 ?_
  iterate 3 refine oF ?_
  refine G2 ?_
  iterate 3 refine oF ?_
  refine G2 ?_
  iterate 4 refine oF ?_
  refine G2 ?_
  refine AW.condT rfl ?_
  refine D1 ?_
  exact aR (fE (e := bCe (dF (fun h => by first | exact absurd h.1.1 (by rw [g7]; decide) | (first | (have := h.1; omega) | (have h9 := h.2.1 h0; omega) | exact h.2.2.2 ((con_kw h.1.1 h.2.2.1).1 h27))))))
 refine G4 ?_
 refine Z17 ?_ ?_ <;> intro g12
 ·
  iterate 3 refine oF ?_
  refine G2 ?_
  iterate 3 refine oF ?_
  refine G2 ?_
  iterate 4 refine oF ?_
  refine G2 ?_
  refine AW.condT rfl ?_
  refine D1 ?_
  exact aR (fE (e := bCe (dF (fun h => by first | exact absurd h.1.1 (by rw [g7]; decide) | (first | (have := h.1; omega) | (have h9 := h.2.1 h0; omega) | exact h.2.2.2 ((con_kw h.1.1 h.2.2.1).1 h27))))))
 have h0 : 0 < u.data.toList.length := by rw [hl]; by_cases hz : u.size = 0; exact absurd (ba_empty hz) g7; omega
 refine Z14 ?_
 refine Z34 un9 (idx_ba (i := 0) h0) ?_
 refine sO (q_lss rfl rfl rfl) ?_
 refine Z6 ?_
 refine Z17 ?_ ?_ <;> intro g17
 ·
  iterate 3 refine oF ?_
  refine G2 ?_
  iterate 4 refine oF ?_
  refine G2 ?_
  refine AW.condT rfl ?_
  refine D1 ?_
  exact aR (fE (e := bCe (dF (fun h => by first | exact absurd h.1.1 (by rw [g7]; decide) | (first | (have := h.1; omega) | (have h9 := h.2.1 h0; omega) | exact h.2.2.2 ((con_kw h.1.1 h.2.2.1).1 h27))))))
 refine Z14 ?_
 refine Z34 un9 (idx_ba (i := 0) h0) ?_
 refine G2 ?_
 refine Z17 ?_ ?_ <;> intro g22
 ·
  iterate 4 refine oF ?_
  refine G2 ?_
  refine AW.condT rfl ?_
  refine D1 ?_
  exact aR (fE (e := bCe (dF (fun h => by first | exact absurd h.1.1 (by rw [g7]; decide) | (first | (have := h.1; omega) | (have h9 := h.2.1 h0; omega) | exact h.2.2.2 ((con_kw h.1.1 h.2.2.1).1 h27))))))
 refine Z14 ?_
 refine sO (q_addS rfl rfl rfl (by omega)) ?_
 refine sO (q_addS rfl rfl rfl (by simp only [qE]; omega)) ?_
 refine sO (q_call _ rfl fn189 rfl (contains_tab u (by omega)) rfl) ?_
 refine G2 ?_
 refine AW.cond _ rfl (fun h27 => ?_) (fun h27 => ?_)
 ·
  refine D1 ?_
  exact aR (fE (e := bCe (dF (fun h => by first | exact absurd h.1.1 (by rw [g7]; decide) | (first | (have := h.1; omega) | (have h9 := h.2.1 h0; omega) | exact h.2.2.2 ((con_kw h.1.1 h.2.2.1).1 h27))))))
 refine AW.skip (AW.seq (AW.seq ?_))
 have hsz : 1 ≤ u.size ∧ u.size ≤ 24 := by omega
 have hfst : 97 ≤ u.data.toList[0].toNat ∧ u.data.toList[0].toNat ≤ 122 := by omega
 refine B4 ?_
 refine AW.block (AW.loop (fun (i : Nat) s => (i ≤ u.data.toList.length ∧ ∀ j (h : j < u.data.toList.length), j < i → chrP u.data.toList[j]) ∧ s = ⟨55, sp [(0, .c (sC u)), (2, .c (bC false)), (29, iX .i64 ((u.data.toList.length : Nat) : Int)), (30, nX i)], lv [], H⟩) (fun i => u.data.toList.length - i) 0 ⟨_, by exact wK 55, ⟨qZ _, up0⟩, rfl⟩ (fun i s hs => ?_))
 obtain ⟨⟨hi0, hU⟩, rfl⟩ := hs
 refine D2 ?_
 refine AW.seq ?_
 refine cD ?_ ?_ <;> intro h31
 rotate_left
 ·
  refine AW.exit ?_
  refine eth_e ?_
  refine eth_e ?_
  refine exit_here ?_
  refine AW.seq ?_
  have hA := upE hU (by omega)
  refine B1 ?_
  exact aR (fE (e := bCe (dT ⟨hsz, fun _ => hfst, hA, fun hk => by rw [(con_kw hsz.1 hA).2 hk] at h27; cases h27⟩)))
 have hi : i < u.data.toList.length := by omega
 refine AW.skip (AW.seq (AW.block (D2 ?_)))
 refine D2 ?_
 refine Z58 un9 (idx_ba hi) ?_
 refine sB ?_
 refine D2 ?_
 refine Z17 ?_ ?_ <;> intro g38
 rotate_left
 ·
  iterate 3 refine oF ?_
  iterate 2 refine oU ?_
  refine G3 ?_
  iterate 3 refine oF ?_
  iterate 2 refine oU ?_
  refine G3 ?_
  refine AW.condF rfl ?_
  refine AW.skip (B3 ?_)
  exact ⟨i + 1, _, by exact wK 55, by omega, ⟨hi, upS hi hU (by show (_ ∧ _) ∨ (_ ∧ _) ∨ _ = _; omega)⟩, rfl⟩
 refine Z14 ?_
 refine sO (q_lss rfl rfl rfl) ?_
 refine Z48 ?_ ?_ <;> intro g41
 ·
  iterate 2 refine oF ?_
  refine G4 ?_
  refine sO (q_lss rfl rfl rfl) ?_
  refine Z48 ?_ ?_ <;> intro g49
  ·
   iterate 2 refine oF ?_
   refine G3 ?_
   refine AW.condT rfl ?_
   refine D1 ?_
   exact aR (fE (e := bCe (dF (fun h => by have h9 : (97 ≤ u.data.toList[i].toNat ∧ u.data.toList[i].toNat ≤ 122) ∨ (48 ≤ u.data.toList[i].toNat ∧ u.data.toList[i].toNat ≤ 57) ∨ u.data.toList[i].toNat = 95 := h.2.2.1 i hi; omega))))
  refine G5 ?_
  refine cD ?_ ?_ <;> intro h53
  ·
   refine D1 ?_
   exact aR (fE (e := bCe (dF (fun h => by have h9 : (97 ≤ u.data.toList[i].toNat ∧ u.data.toList[i].toNat ≤ 122) ∨ (48 ≤ u.data.toList[i].toNat ∧ u.data.toList[i].toNat ≤ 57) ∨ u.data.toList[i].toNat = 95 := h.2.2.1 i hi; omega))))
  refine AW.skip (B3 ?_)
  exact ⟨i + 1, _, by exact wK 55, by omega, ⟨hi, upS hi hU (by show (_ ∧ _) ∨ (_ ∧ _) ∨ _ = _; omega)⟩, rfl⟩
 refine G4 ?_
 refine Z17 ?_ ?_ <;> intro g46
 ·
  refine Z14 ?_
  refine sO (q_lss rfl rfl rfl) ?_
  refine Z48 ?_ ?_ <;> intro g49
  ·
   iterate 2 refine oF ?_
   refine G3 ?_
   refine AW.condT rfl ?_
   refine D1 ?_
   exact aR (fE (e := bCe (dF (fun h => by have h9 : (97 ≤ u.data.toList[i].toNat ∧ u.data.toList[i].toNat ≤ 122) ∨ (48 ≤ u.data.toList[i].toNat ∧ u.data.toList[i].toNat ≤ 57) ∨ u.data.toList[i].toNat = 95 := h.2.2.1 i hi; omega))))
  refine G5 ?_
  refine cD ?_ ?_ <;> intro h53
  ·
   refine D1 ?_
   exact aR (fE (e := bCe (dF (fun h => by have h9 : (97 ≤ u.data.toList[i].toNat ∧ u.data.toList[i].toNat ≤ 122) ∨ (48 ≤ u.data.toList[i].toNat ∧ u.data.toList[i].toNat ≤ 57) ∨ u.data.toList[i].toNat = 95 := h.2.2.1 i hi; omega))))
  refine AW.skip (B3 ?_)
  exact ⟨i + 1, _, by exact wK 55, by omega, ⟨hi, upS hi hU (by show (_ ∧ _) ∨ (_ ∧ _) ∨ _ = _; omega)⟩, rfl⟩
 iterate 3 refine oF ?_
 iterate 2 refine oU ?_
 refine G3 ?_
 refine AW.condF rfl ?_
 refine AW.skip (B3 ?_)
 exact ⟨i + 1, _, by exact wK 55, by omega, ⟨hi, upS hi hU (by show (_ ∧ _) ∨ (_ ∧ _) ∨ _ = _; omega)⟩, rfl⟩
abbrev rQ (u : ByteArray) (j : Nat) (h : j < u.data.toList.length) : Prop := (97 ≤ u.data.toList[j].toNat ∧ u.data.toList[j].toNat ≤ 122) ∨ (j ≠ 0 ∧ (u.data.toList[j].toNat = 95 ∨ (48 ≤ u.data.toList[j].toNat ∧ u.data.toList[j].toNat ≤ 57)))
theorem nm_iff {u : ByteArray} : nmQ u ↔ (∀ j (h : j < u.data.toList.length), rQ u j h) ∧ (1 ≤ u.size ∧ u.size ≤ 24) ∧ u ∉ kwds := by
  constructor
  · rintro ⟨h1, h2, h3, h4⟩
    refine ⟨fun j h => ?_, h1, h4⟩
    by_cases hj : j = 0
    · subst hj; exact .inl (h2 h)
    · have h5 : (97 ≤ u.data.toList[j].toNat ∧ u.data.toList[j].toNat ≤ 122) ∨ (48 ≤ u.data.toList[j].toNat ∧ u.data.toList[j].toNat ≤ 57) ∨ u.data.toList[j].toNat = 95 := h3 j h
      show (_ ∧ _) ∨ (_ ∧ (_ ∨ (_ ∧ _)))
      omega
  · rintro ⟨h1, h2, h4⟩
    refine ⟨h2, fun h => ?_, fun j h => ?_, h4⟩
    · have h5 : (97 ≤ u.data.toList[0].toNat ∧ u.data.toList[0].toNat ≤ 122) ∨ ((0 : Nat) ≠ 0 ∧ (u.data.toList[0].toNat = 95 ∨ (48 ≤ u.data.toList[0].toNat ∧ u.data.toList[0].toNat ≤ 57))) := h1 0 h
      omega
    · have h5 : (97 ≤ u.data.toList[j].toNat ∧ u.data.toList[j].toNat ≤ 122) ∨ (j ≠ 0 ∧ (u.data.toList[j].toNat = 95 ∨ (48 ≤ u.data.toList[j].toNat ∧ u.data.toList[j].toNat ≤ 57))) := h1 j h
      show (_ ∧ _) ∨ (_ ∧ _) ∨ _ = _
      omega
theorem kwds_len : kwds.length = 47 := rfl
theorem keyword_any (u : ByteArray) : Pu 134 [sC u] (.c (bC (decide (u ∈ kwds)))) := by
 have hk47 := kwds_len
 intro H
 refine Spec.enter Tryz.func134 rfl ?_
 refine AW.wk (wK 18 (l := [(0, .c (sC u))]) (ll := []) (H := (H))) ?_
 refine D1 ?_
 refine D2 ?_
 refine AW.xw 3 rfl (XW.es (es' := kwds.map sT) rfl) ?_
 refine AW.seq (D1 ?_)
 refine AW.block (AW.loop (fun (i : Nat) s => (i ≤ kwds.length ∧ ∀ j (h : j < kwds.length), j < i → kwds[j] ≠ u) ∧ s = ⟨18, sp [(0, .c (sC u)), (2, .c (bC false)), (3, .c (.a (.t (.sl .un 1 (kwds.map sT))))), (4, nX i)], lv [], H⟩) (fun i => kwds.length - i) 0 ⟨_, by exact wK 18, ⟨qZ _, up0⟩, rfl⟩ (fun i s hs => ?_))
 obtain ⟨⟨hi0, hU⟩, rfl⟩ := hs
 refine AW.seq (D5 ?_)
 refine cD ?_ ?_ <;> intro h9
 ·
  have hi := oI h9
  refine AW.skip (AW.seq (AW.block (D5 ?_)))
  refine sQ (q_eqlS rfl rfl rfl) ?_
  refine Z4 ?_
  refine cD ?_ ?_ <;> intro h17
  ·
   refine D1 ?_
   exact aR (fE (e := bCe (dT (h17 ▸ qC hi))))
  refine AW.skip (B3 ?_)
  exact ⟨i + 1, _, by exact wK 18, by omega, ⟨hi, upS (Q := fun j h => kwds[j] ≠ u) hi hU h17⟩, rfl⟩
 refine AW.exit ?_
 refine eth_e ?_
 refine eth_e ?_
 refine exit_here ?_
 refine D1 ?_
 exact aR (fE (e := bCe (dF (fun h => by obtain ⟨j, hj, e⟩ := qN.1 h; exact upE hU (by rw [qA] at h9; omega) j hj e))))
theorem rname_any (u : ByteArray) (hu : u.size ≤ 1000000000000000) : Pu 86 [sC u] (.c (bC (decide (nmQ u)))) := by
 have hl := ba_len u
 intro H
 refine Spec.enter Tryz.func86 rfl ?_
 refine AW.wk (wK 58 (l := [(0, .c (sC u))]) (ll := []) (H := (H))) ?_
 refine D1 ?_
 refine AW.seq (D1 ?_)
 refine AW.block (AW.loop (fun (i : Nat) s => (i ≤ u.data.toList.length ∧ ∀ j (h : j < u.data.toList.length), j < i → rQ u j h) ∧ s = ⟨58, sp [(0, .c (sC u)), (2, .c (bC false)), (3, nX i)], lv [], H⟩) (fun i => u.data.toList.length - i) 0 ⟨_, by exact wK 58, ⟨qZ _, up0⟩, rfl⟩ (fun i s hs => ?_))
 obtain ⟨⟨hi0, hU⟩, rfl⟩ := hs
 refine AW.seq (D5 ?_)
 refine cD ?_ ?_ <;> intro h8
 rotate_left
 ·
  refine AW.exit ?_
  refine eth_e ?_
  refine eth_e ?_
  refine exit_here ?_
  refine AW.seq ?_
  have hA := upE hU (by omega)
  refine B3 ?_
  refine Z17 ?_ ?_ <;> intro g48
  ·
   refine G4 ?_
   refine Z17 ?_ ?_ <;> intro g53
   ·
    refine Z14 ?_
    refine Z52 fn134 (keyword_any u) ?_
    refine G3 ?_
    exact aR (fE (e := bCe (by first | (rw [show decide (nmQ u) = decide (u ∉ kwds) from decide_eq_decide.2 ⟨fun h => (nm_iff.1 h).2.2, fun h => nm_iff.2 ⟨hA, ⟨by omega, by omega⟩, h⟩⟩]; simp; done) | exact dF (fun h => by have h9 := h.1; omega))))
   iterate 3 refine oF ?_
   refine G2 ?_
   exact aR (fE (e := bCe (by first | (rw [show decide (nmQ u) = decide (u ∉ kwds) from decide_eq_decide.2 ⟨fun h => (nm_iff.1 h).2.2, fun h => nm_iff.2 ⟨hA, ⟨by omega, by omega⟩, h⟩⟩]; simp; done) | exact dF (fun h => by have h9 := h.1; omega))))
  iterate 3 refine oF ?_
  refine G2 ?_
  iterate 3 refine oF ?_
  refine G2 ?_
  exact aR (fE (e := bCe (by first | (rw [show decide (nmQ u) = decide (u ∉ kwds) from decide_eq_decide.2 ⟨fun h => (nm_iff.1 h).2.2, fun h => nm_iff.2 ⟨hA, ⟨by omega, by omega⟩, h⟩⟩]; simp; done) | exact dF (fun h => by have h9 := h.1; omega))))
 have hi : i < u.data.toList.length := by omega
 refine AW.skip (AW.seq (AW.block (D2 ?_)))
 refine Z58 un9 (idx_ba hi) ?_
 refine Z56 ?_
 refine Z17 ?_ ?_ <;> intro g15
 ·
  refine G2 ?_
  refine Z34 un9 (idx_ba hi) ?_
  refine G3 ?_
  refine D2 ?_
  refine Z53 ?_ ?_ <;> intro g23
  rotate_left
  ·
   have g23a := nd_f g23
   iterate 3 refine oF ?_
   iterate 16 refine oU ?_
   refine G3 ?_
   refine AW.condF rfl ?_
   refine AW.skip (B3 ?_)
   exact ⟨i + 1, _, by exact wK 58, by omega, ⟨hi, upS hi hU (by show (_ ∧ _) ∨ (_ ∧ (_ ∨ (_ ∧ _))); omega)⟩, rfl⟩
  have g23a := nd_t g23
  refine G2 ?_
  refine Z48 ?_ ?_ <;> intro g26
  ·
   iterate 5 refine oF ?_
   iterate 10 refine oU ?_
   refine G4 ?_
   refine AW.condT rfl ?_
   refine D1 ?_
   exact aR (fE (e := bCe (dF (fun h => by (have h5 : (97 ≤ u.data.toList[i].toNat ∧ u.data.toList[i].toNat ≤ 122) ∨ (i ≠ 0 ∧ (u.data.toList[i].toNat = 95 ∨ (48 ≤ u.data.toList[i].toNat ∧ u.data.toList[i].toNat ≤ 57))) := (nm_iff.1 h).1 i hi; omega)))))
  refine G2 ?_
  refine Z34 un9 (idx_ba hi) ?_
  refine Z55 ?_
  refine Z48 ?_ ?_ <;> intro g31
  rotate_left
  ·
   iterate 5 refine oF ?_
   iterate 4 refine oU ?_
   refine G5 ?_
   refine AW.condF rfl ?_
   refine AW.skip (B3 ?_)
   exact ⟨i + 1, _, by exact wK 58, by omega, ⟨hi, upS hi hU (by show (_ ∧ _) ∨ (_ ∧ (_ ∨ (_ ∧ _))); omega)⟩, rfl⟩
  refine G2 ?_
  refine Z34 un9 (idx_ba hi) ?_
  refine sO (q_lss rfl rfl rfl) ?_
  refine Z48 ?_ ?_ <;> intro g36
  ·
   iterate 4 refine oF ?_
   refine G5 ?_
   refine AW.condT rfl ?_
   refine D1 ?_
   exact aR (fE (e := bCe (dF (fun h => by (have h5 : (97 ≤ u.data.toList[i].toNat ∧ u.data.toList[i].toNat ≤ 122) ∨ (i ≠ 0 ∧ (u.data.toList[i].toNat = 95 ∨ (48 ≤ u.data.toList[i].toNat ∧ u.data.toList[i].toNat ≤ 57))) := (nm_iff.1 h).1 i hi; omega)))))
  refine G2 ?_
  refine Z34 un9 (idx_ba hi) ?_
  refine G6 ?_
  refine cD ?_ ?_ <;> intro h44
  ·
   refine D1 ?_
   exact aR (fE (e := bCe (dF (fun h => by (have h5 : (97 ≤ u.data.toList[i].toNat ∧ u.data.toList[i].toNat ≤ 122) ∨ (i ≠ 0 ∧ (u.data.toList[i].toNat = 95 ∨ (48 ≤ u.data.toList[i].toNat ∧ u.data.toList[i].toNat ≤ 57))) := (nm_iff.1 h).1 i hi; omega)))))
  refine AW.skip (B3 ?_)
  exact ⟨i + 1, _, by exact wK 58, by omega, ⟨hi, upS hi hU (by show (_ ∧ _) ∨ (_ ∧ (_ ∨ (_ ∧ _))); omega)⟩, rfl⟩
 iterate 4 refine oF ?_
 refine G2 ?_
 refine D5 ?_
 refine Z48 ?_ ?_ <;> intro g26
 ·
  iterate 5 refine oF ?_
  iterate 10 refine oU ?_
  refine G4 ?_
  refine AW.condT rfl ?_
  refine D1 ?_
  exact aR (fE (e := bCe (dF (fun h => by (have h5 : (97 ≤ u.data.toList[i].toNat ∧ u.data.toList[i].toNat ≤ 122) ∨ (i ≠ 0 ∧ (u.data.toList[i].toNat = 95 ∨ (48 ≤ u.data.toList[i].toNat ∧ u.data.toList[i].toNat ≤ 57))) := (nm_iff.1 h).1 i hi; omega)))))
 refine G2 ?_
 refine Z34 un9 (idx_ba hi) ?_
 refine Z55 ?_
 refine Z48 ?_ ?_ <;> intro g31
 rotate_left
 ·
  iterate 5 refine oF ?_
  iterate 4 refine oU ?_
  refine G5 ?_
  refine AW.condF rfl ?_
  refine AW.skip (B3 ?_)
  exact ⟨i + 1, _, by exact wK 58, by omega, ⟨hi, upS hi hU (by show (_ ∧ _) ∨ (_ ∧ (_ ∨ (_ ∧ _))); omega)⟩, rfl⟩
 refine G2 ?_
 refine Z34 un9 (idx_ba hi) ?_
 refine sO (q_lss rfl rfl rfl) ?_
 refine Z48 ?_ ?_ <;> intro g36
 ·
  iterate 4 refine oF ?_
  refine G5 ?_
  refine AW.condT rfl ?_
  refine D1 ?_
  exact aR (fE (e := bCe (dF (fun h => by (have h5 : (97 ≤ u.data.toList[i].toNat ∧ u.data.toList[i].toNat ≤ 122) ∨ (i ≠ 0 ∧ (u.data.toList[i].toNat = 95 ∨ (48 ≤ u.data.toList[i].toNat ∧ u.data.toList[i].toNat ≤ 57))) := (nm_iff.1 h).1 i hi; omega)))))
 refine G2 ?_
 refine Z34 un9 (idx_ba hi) ?_
 refine G6 ?_
 refine cD ?_ ?_ <;> intro h44
 ·
  refine D1 ?_
  exact aR (fE (e := bCe (dF (fun h => by (have h5 : (97 ≤ u.data.toList[i].toNat ∧ u.data.toList[i].toNat ≤ 122) ∨ (i ≠ 0 ∧ (u.data.toList[i].toNat = 95 ∨ (48 ≤ u.data.toList[i].toNat ∧ u.data.toList[i].toNat ≤ 57))) := (nm_iff.1 h).1 i hi; omega)))))
 refine AW.skip (B3 ?_)
 exact ⟨i + 1, _, by exact wK 58, by omega, ⟨hi, upS hi hU (by show (_ ∧ _) ∨ (_ ∧ (_ ∨ (_ ∧ _))); omega)⟩, rfl⟩
abbrev v0P (e : Ex) : Prop := e.vk = 0 ∧ e.vn = 0 ∧ e.vs = ⟨#[]⟩
def fmN (e : Ex) : Prop := if e.op = 2 then nmQ e.nm ∧ (e.tb = ⟨#[]⟩ ∨ nmQ e.tb) ∧ v0P e else if e.op = 1 then (e.tb = ⟨#[]⟩ ∧ e.nm = ⟨#[]⟩) ∧ ltP e.vk e.vn e.vs else (e.op = 16 → (e.args.getD 1 ex0).op = 1 ∧ (e.args.getD 1 ex0).vk = 2) ∧ (e.tb = ⟨#[]⟩ ∧ e.nm = ⟨#[]⟩) ∧ v0P e
instance : DecidablePred fmN := fun e => by
  unfold fmN
  exact inferInstance
def fmB (e : Ex) : Bool := decide (opsN e.op = e.args.length) && (e.args.attach.all (fun a => fmB a.1) && decide (fmN e))
termination_by SizeOf.sizeOf e
decreasing_by exact args_lt a.2
theorem fmB_eq (e : Ex) : fmB e = (decide (opsN e.op = e.args.length) && (e.args.all fmB && decide (fmN e))) := by
  rw [fmB]; congr 2
  rw [List.all_eq, List.all_eq, decide_eq_decide]
  exact ⟨fun h a ha => h ⟨a, ha⟩ (List.mem_attach _ _), fun h a _ => h a.1 a.2⟩
theorem fm_of {e : Ex} (h : opsN e.op = e.args.length) (k : e.args.all fmB = true) : fmB e = decide (fmN e) := by rw [fmB_eq, jH h, k]; rfl
theorem fm_no1 {e : Ex} (h : ¬ opsN e.op = e.args.length) : fmB e = false := by rw [fmB_eq, jI h]; rfl
theorem fm_no2 {e : Ex} (k : e.args.all fmB = false) : fmB e = false := by rw [fmB_eq, k]; simp
theorem rformed_of (e : Ex) (ho : okE e) (ih : ∀ a ∈ e.args, Pu 88 [exC a] (.c (bC (fmB a)))) : Pu 88 [exC e] (.c (bC (fmB e))) := by
 obtain ⟨k1, k2, k3, k4⟩ := (okE_iff.1 ho).1
 intro H
 refine Spec.enter Tryz.func88 rfl ?_
 refine AW.wk (wK 85 (l := [(0, .c (exC e))]) (ll := []) (H := (H))) ?_
 refine D2 ?_
 refine AW.seq (AW.seq (AW.draw mo ?_))
 refine N2 ?_
 refine Z35 fn135 (args_any e.op) ?_
 refine N2 ?_
 refine lQ (q_len rfl un27 rfl) ?_
 refine lQ (q_neq rfl rfl rfl) ?_
 refine Z43 ?_
 refine cD ?_ ?_ <;> intro h10
 ·
  refine D1 ?_
  exact aR (fE (e := bCe (by rw [fm_no1 (by rw [qA] at h10; exact h10)])))
 have hA : opsN e.op = e.args.length := by rw [qA] at h10; exact qY.1 h10
 refine AW.skip (AW.seq (D1 ?_))
 refine AW.block (AW.loop (fun (i : Nat) s => (i ≤ e.args.length ∧ ∀ j (h : j < e.args.length), j < i → fmB e.args[j] = true) ∧ s = ⟨85, sp [(1, .lp 1 0), (2, .c (bC false)), (3, nX i)], lv [(1, .box (zEx e))], H⟩) (fun i => e.args.length - i) 0 ⟨_, by exact wK 85, ⟨qZ _, up0⟩, rfl⟩ (fun i s hs => ?_))
 obtain ⟨⟨hi0, hU⟩, rfl⟩ := hs
 refine AW.seq (D6 ?_)
 refine cD ?_ ?_ <;> intro h15
 ·
  have hi := oI h15
  refine AW.skip (AW.seq (AW.block (D5 ?_)))
  refine Z16 fn88 (ih _ (qC hi)) ?_
  refine G2 ?_
  refine AW.cond _ rfl (fun h24 => ?_) (fun h24 => ?_)
  ·
   have hno : fmB e.args[i] = false := by simpa using h24
   refine D1 ?_
   exact aR (fE (e := bCe (by rw [fm_no2 (List.all_eq_false.2 ⟨_, qC hi, by simp [hno]⟩)])))
  have hyes : fmB e.args[i] = true := by simpa using h24
  refine AW.skip (B3 ?_)
  exact ⟨i + 1, _, by exact wK 85, by omega, ⟨hi, upS hi hU (hyes)⟩, rfl⟩
 refine AW.exit ?_
 refine eth_e ?_
 refine eth_e ?_
 refine exit_here ?_
 refine AW.seq (AW.seq ?_)
 have hB : e.args.all fmB = true := List.all_eq_true.2 fun x hx => by obtain ⟨j, hj, rfl⟩ := qN.1 hx; exact upE hU (by rw [qA] at h15; omega) j hj
 refine B4 ?_
 refine cD ?_ ?_ <;> intro h27
 ·
  refine D2 ?_
  refine sQ (q_call _ rfl fn86 rfl (rname_any e.nm (by omega)) rfl) ?_
  refine Z53 ?_ ?_ <;> intro g31
  rotate_left
  ·
   iterate 4 refine oF ?_
   iterate 3 refine oU ?_
   refine G3 ?_
   iterate 4 refine oF ?_
   refine G2 ?_
   exact aR (fE (e := bCe (by rw [fm_of hA hB]; (try simp only [ne_eq, qY] at *); simp [fmN, Bool.and_assoc, *])))
  refine G2 ?_
  refine sO (q_eqlS rfl rfl rfl) ?_
  refine Z48 ?_ ?_ <;> intro g35
  ·
   iterate 3 refine oF ?_
   refine G5 ?_
   refine sO (q_build2 (zs := [_, _, _]) (r := [_, _, _]) [(0, 1), (1, 1), (2, 1)] _ rfl ze35 rfl bp35 rfl rfl rfl rfl) ?_
   refine sO (q_eqlG [.int .i64 e.vk, .int .i64 e.vn, .string e.vs] [.int .i64 0, .int .i64 0, .string ⟨#[]⟩] rfl rfl rfl rfl rfl (by kernel_rfl) (fun w => eq25 _ _ _ _ _ _ w)) ?_
   refine G2 ?_
   exact aR (fE (e := bCe (by rw [fm_of hA hB]; (try simp only [ne_eq, qY] at *); simp [fmN, Bool.and_assoc, *])))
  refine G2 ?_
  refine sO (q_call _ rfl fn86 rfl (rname_any e.tb (by omega)) rfl) ?_
  refine G2 ?_
  refine Z53 ?_ ?_ <;> intro g41
  ·
   refine G2 ?_
   refine sO (q_build2 (zs := [_, _, _]) (r := [_, _, _]) [(0, 1), (1, 1), (2, 1)] _ rfl ze35 rfl bp35 rfl rfl rfl rfl) ?_
   refine sO (q_eqlG [.int .i64 e.vk, .int .i64 e.vn, .string e.vs] [.int .i64 0, .int .i64 0, .string ⟨#[]⟩] rfl rfl rfl rfl rfl (by kernel_rfl) (fun w => eq25 _ _ _ _ _ _ w)) ?_
   refine G2 ?_
   exact aR (fE (e := bCe (by rw [fm_of hA hB]; (try simp only [ne_eq, qY] at *); simp [fmN, Bool.and_assoc, *])))
  iterate 4 refine oF ?_
  refine G2 ?_
  exact aR (fE (e := bCe (by rw [fm_of hA hB]; (try simp only [ne_eq, qY] at *); simp [fmN, Bool.and_assoc, *])))
 refine AW.skip (AW.seq (D2 ?_))
 refine sQ (q_neqS rfl rfl rfl) ?_
 refine Z17 ?_ ?_ <;> intro g50
 ·
  iterate 3 refine oF ?_
  refine G2 ?_
  refine AW.condT rfl ?_
  refine D1 ?_
  exact aR (fE (e := bCe (by rw [fm_of hA hB]; (try simp only [ne_eq, qY] at *); simp [fmN, Bool.and_assoc, *])))
 refine G2 ?_
 refine sO (q_neqS rfl rfl rfl) ?_
 refine G2 ?_
 refine cD ?_ ?_ <;> intro h54
 ·
  refine D1 ?_
  exact aR (fE (e := bCe (by rw [fm_of hA hB]; (try simp only [ne_eq, qY] at *); simp [fmN, Bool.and_assoc, *])))
 refine AW.skip (AW.seq (D4 ?_))
 refine cD ?_ ?_ <;> intro h57
 ·
  refine D2 ?_
  refine sQ (q_call _ rfl fn136 rfl (rliteral_any e.vk e.vn e.vs (by omega)) rfl) ?_
  refine sB ?_
  exact aR (fE (e := bCe (by rw [fm_of hA hB]; (try simp only [ne_eq, qY] at *); simp [fmN, Bool.and_assoc, *])))
 refine AW.skip (AW.seq (D3 ?_))
 refine Z17 ?_ ?_ <;> intro g64
 rotate_left
 ·
  iterate 7 refine oF ?_
  iterate 7 refine oU ?_
  refine G3 ?_
  refine AW.condF rfl ?_
  refine AW.skip (D3 ?_)
  refine sQ (q_eqlG [.int .i64 e.vk, .int .i64 e.vn, .string e.vs] [.int .i64 0, .int .i64 0, .string ⟨#[]⟩] rfl rfl rfl rfl rfl (by kernel_rfl) (fun w => eq25 _ _ _ _ _ _ w)) ?_
  refine sB ?_
  exact aR (fE (e := bCe (by rw [fm_of hA hB]; (try simp only [ne_eq, qY] at *); simp [fmN, Bool.and_assoc, *])))
 have hl2 : e.args.length = 2 := by rw [g64] at hA; have h9 : (2 : Int) = e.args.length := hA; omega
 have hg : e.args.getD 1 ex0 = e.args[1] := by rw [qI, qF (by omega)]; rfl
 refine G2 ?_
 refine sO (q_index _ rfl sl27 rfl rfl (by omega) (idx_ex (show 1 < e.args.length by omega))) ?_
 refine sO (q_fieldP _ rfl fl37_0 rfl rfl) ?_
 refine G2 ?_
 refine Z48 ?_ ?_ <;> intro g71
 ·
  iterate 7 refine oF ?_
  refine G3 ?_
  refine AW.condT rfl ?_
  refine D1 ?_
  exact aR (fE (e := bCe (by rw [fm_of hA hB]; (try simp only [ne_eq, qY] at *); simp [fmN, Bool.and_assoc, *])))
 refine G2 ?_
 refine sO (q_index _ rfl sl27 rfl rfl (by omega) (idx_ex (show 1 < e.args.length by omega))) ?_
 refine sO (q_fieldP _ rfl fl37_4 rfl rfl) ?_
 refine sO (q_fieldP _ rfl fl35_0 rfl rfl) ?_
 refine G5 ?_
 refine cD ?_ ?_ <;> intro h80
 ·
  refine D1 ?_
  exact aR (fE (e := bCe (by rw [fm_of hA hB]; (try simp only [ne_eq, qY] at *); simp [fmN, Bool.and_assoc, *])))
 refine AW.skip (D3 ?_)
 refine sQ (q_eqlG [.int .i64 e.vk, .int .i64 e.vn, .string e.vs] [.int .i64 0, .int .i64 0, .string ⟨#[]⟩] rfl rfl rfl rfl rfl (by kernel_rfl) (fun w => eq25 _ _ _ _ _ _ w)) ?_
 refine sB ?_
 exact aR (fE (e := bCe (by rw [fm_of hA hB]; (try simp only [ne_eq, qY] at *); simp [fmN, Bool.and_assoc, *])))
theorem rformed_any (e : Ex) : okE e → Pu 88 [exC e] (.c (bC (fmB e))) := by
  induction e using Ex.rec' with
  | h e ih => exact fun ho => rformed_of e ho fun a ha => ih a ha ((okE_iff.1 ho).2 a ha)
def decB (n : Nat) : ByteArray := ⟨(Lib.decDigits n).toArray⟩
theorem decD_len (n : Nat) : n < 10000000000 → (Lib.decDigits n).length ≤ 10 := by
  intro h
  have key : ∀ k m : Nat, m < 10 ^ (k + 1) → (Lib.decDigits m).length ≤ k + 1 := by
    intro k
    induction k with
    | zero => intro m hm; rw [Lib.decDigits, dif_pos (by omega)]; simp
    | succ k ih =>
      intro m hm
      rw [Lib.decDigits]
      by_cases h10 : m < 10
      · rw [dif_pos h10]; simp
      · rw [dif_neg h10, qG]
        have := ih (m / 10) (by rw [Nat.pow_succ] at hm; omega)
        simp; omega
  exact key 9 n (by omega)
theorem decB_size {n : Nat} (h : n < 10000000000) : (decB n).size ≤ 10 := by
  have := decD_len n h
  show (Lib.decDigits n).toArray.size ≤ 10
  rw [List.size_toArray]; exact this
theorem w8d {n : Int} (h : 0 ≤ n) (h' : n ≤ 255) : IntKind.u8.wrap n = n := by
  simp only [IntKind.wrap, IntKind.bits, IntKind.signed, Bool.false_and, Bool.false_eq_true, if_false]; omega
theorem quo10 {n : Nat} (h : n < 10000000000) : IntKind.i64.wrap ((n : Int).tdiv 10) = ((n / 10 : Nat) : Int) := by
  have h1 : (n : Int).tdiv 10 = ((n / 10 : Nat) : Int) := rfl
  rw [h1, w64 (by omega) (by omega)]
theorem dec_lo {n : Nat} (h : n < 10) : bStr [48 + (n : Int)] = decB n := by
  have h1 : Lib.decDigits n = [UInt8.ofNat (48 + n)] := by rw [Lib.decDigits, dif_pos h]
  rw [decB, h1]
  show ByteArray.empty.push (UInt8.ofNat (48 + (n : Int)).toNat) = _
  rw [show (48 + (n : Int)).toNat = 48 + n by omega]; rfl
theorem dec_hi {n : Nat} (h : ¬ n < 10) : decB (n / 10) ++ decB (n % 10) = decB n := by
  have e : Lib.decDigits n = Lib.decDigits (n / 10) ++ [UInt8.ofNat (48 + n % 10)] := by rw [Lib.decDigits, dif_neg h]
  have e2 : Lib.decDigits (n % 10) = [UInt8.ofNat (48 + n % 10)] := by rw [Lib.decDigits, dif_pos (by omega)]
  rw [decB, decB, decB, e, e2]
  apply ByteArray.ext
  simp [ByteArray.data_append]
def qtL (l : List UInt8) : List UInt8 := l.flatMap fun b => if b = 39 then [39, 39] else [b]
def qtB (u : ByteArray) : ByteArray := ⟨(qtL u.data.toList).toArray⟩
theorem qtL_len : ∀ l : List UInt8, (qtL l).length ≤ 2 * l.length
  | [] => by simp [qtL]
  | b :: l => by
    have := qtL_len l
    have e : qtL (b :: l) = (if b = 39 then [39, 39] else [b]) ++ qtL l := by simp [qtL]
    rw [e, qG, qM]
    split <;> simp only [qM, qQ] <;> omega
theorem qtB_size {u : ByteArray} : (qtB u).size ≤ 2 * u.size := by
  have := qtL_len u.data.toList
  rw [ba_len] at this
  show (qtL u.data.toList).toArray.size ≤ _
  rw [List.size_toArray]; exact this
theorem num_of (n : Nat) (hn : n < 10000000000) (ih : ∀ m : Nat, m < n → Pu 105 [iC (m : Int)] (.c (sC (decB m)))) : Pu 105 [iC (n : Int)] (.c (sC (decB n))) := by
 intro H
 refine Spec.enter Tryz.func105 rfl ?_
 refine AW.wk (wK 23 (l := [(0, .c (iC (n : Int)))]) (ll := []) (H := (H))) ?_
 refine D1 ?_
 refine AW.seq (D3 ?_)
 refine cD ?_ ?_ <;> intro h4
 ·
  exfalso; omega
 refine AW.skip (AW.seq (D3 ?_))
 refine cD ?_ ?_ <;> intro h10
 ·
  refine D2 ?_
  refine sQ (q_conv _ rfl un5 rfl ((by show IntKind.u8.wrap _ = 48 + (n : Int); exact w8d (by omega) (by omega))) ⟨_, un2⟩) ?_
  refine G1 ?_
  refine sQ (q_convBS (l := [48 + (n : Int)]) rfl un204 un5 un9 rfl) ?_
  refine sB ?_
  exact aR (f1 (q := ⟨by rw [dec_lo (by omega)], rfl⟩))
 have hz1 := decB_size (n := n / 10) (by omega)
 have hz2 := decB_size (n := n % 10) (by omega)
 refine AW.skip (D1 ?_)
 refine sQ (q_quo _ rfl rfl rfl (by decide) (quo10 hn)) ?_
 refine sQ (q_call _ rfl fn105 rfl (ih (n / 10) (by omega)) rfl) ?_
 refine sM ?_
 refine sQ (q_remC (c := ((n % 10 : Nat) : Int)) rfl rfl rfl (by decide) rfl) ?_
 refine sQ (q_call _ rfl fn105 rfl (ih (n % 10) (by omega)) rfl) ?_
 refine sQ (q_addS rfl rfl rfl (by omega)) ?_
 refine sB ?_
 exact aR (f1 (q := ⟨by rw [dec_hi (by omega)], rfl⟩))
theorem num_any (n : Nat) : n < 10000000000 → Pu 105 [iC (n : Int)] (.c (sC (decB n))) := by
  induction n using Nat.strongRecOn with
  | ind n ih => exact fun h => num_of n h fun m hm => ih m hm (by omega)
theorem I_nat {P : Int → Prop} {v : Int} (h0 : 0 ≤ v) (h : ∀ n : Nat, n = v.toNat → P (n : Int)) : P v := by
  have := h v.toNat rfl
  rwa [Int.toNat_of_nonneg h0] at this
abbrev qS (l : List UInt8) : ByteArray := ⟨⟨(39 : UInt8) :: qtL l⟩⟩
theorem qtL_take {l : List UInt8} {i : Nat} (hi : i < l.length) : qtL (l.take (i + 1)) = qtL (l.take i) ++ if l[i] = 39 then [39, 39] else [l[i]] := by
  rw [take_put hi, qtL, qtL, List.flatMap_append]; simp
theorem ba_app (a b : List UInt8) : (⟨⟨a⟩⟩ : ByteArray) ++ ⟨⟨b⟩⟩ = ⟨⟨a ++ b⟩⟩ := by
  apply ByteArray.ext
  simp [ByteArray.data_append]
theorem cut1 {u : ByteArray} {i : Nat} (hi : i < u.data.toList.length) : u.extract i (i + 1) = ⟨⟨[u.data.toList[i]]⟩⟩ := by
  apply ByteArray.ext
  apply Array.toList_inj.1
  rw [ByteArray.data_extract, Array.toList_extract, List.extract_eq_take_drop]
  show (u.data.toList.drop i).take (i + 1 - i) = [u.data.toList[i]]
  rw [Nat.add_sub_cancel_left, qH hi]; simp
theorem quote_any (u : ByteArray) (hu : u.size ≤ 100000) : Pu 106 [sC u] (.c (sC (⟨#[39]⟩ ++ qtB u ++ ⟨#[39]⟩))) := by
 have hl := ba_len u
 intro H
 refine Spec.enter Tryz.func106 rfl ?_
 refine AW.wk (wK 26 (l := [(0, .c (sC u))]) (ll := []) (H := (H))) ?_
 refine D1 ?_
 refine D1 ?_
 refine AW.seq (D1 ?_)
 refine AW.block (AW.loop (fun (i : Nat) s => ∃ (tt : ByteArray), (i ≤ u.data.toList.length ∧ tt = (qS (u.data.toList.take i))) ∧ s = ⟨26, sp [(0, .c (sC u)), (2, .c (sC ⟨#[]⟩)), (3, .c (sC tt)), (4, nX i)], lv [], H⟩) (fun i => u.data.toList.length - i) 0 ⟨_, by exact wK 26, ⟨#[39]⟩, ⟨qZ _, rfl⟩, rfl⟩ (fun i s hs => ?_))
 obtain ⟨tt, ⟨hi0, htt⟩, rfl⟩ := hs
 refine AW.seq (D5 ?_)
 refine cD ?_ ?_ <;> intro h8
 rotate_left
 ·
  refine AW.exit ?_
  refine eth_e ?_
  refine eth_e ?_
  refine exit_here ?_
  refine AW.seq ?_
  have hs1 : (⟨#[39]⟩ : ByteArray).size = 1 := rfl
  have hq := qtL_len (u.data.toList.take i)
  rw [List.length_take] at hq
  have hsz : tt.size ≤ 200001 := by rw [htt]; show (List.toArray _).size ≤ _; rw [List.size_toArray, qM]; omega
  refine B3 ?_
  exact aR (f1 (q := ⟨by rw [htt, qU (by omega)]; exact sCe (by rw [show (⟨#[39]⟩ : ByteArray) ++ qtB u = qS u.data.toList from ba_app [39] _]), rfl⟩))
 have hi : i < u.data.toList.length := by omega
 have hq := qtL_len (u.data.toList.take i)
 rw [List.length_take] at hq
 have hsz : tt.size ≤ 200001 := by rw [htt]; show (List.toArray _).size ≤ _; rw [List.size_toArray, qM]; omega
 have hs1 : (⟨#[39]⟩ : ByteArray).size = 1 := rfl
 have hs2 : (u.extract i (i + 1)).size = 1 := by rw [cut1 hi]; rfl
 refine AW.skip (AW.seq (AW.block (AW.seq (D2 ?_))))
 refine Z58 un9 (idx_ba hi) ?_
 refine G2 ?_
 refine cD ?_ ?_ <;> intro h14
 ·
  have hb : u.data.toList[i] = 39 := UInt8.toNat_inj.1 (by show _ = 39; omega)
  refine B1 ?_
  refine sQ (q_addS rfl rfl rfl (by omega)) ?_
  refine sB ?_
  refine B4 ?_
  refine sQ (q_add _ rfl rfl rfl ((by rw [w64 (by omega) (by omega)]; rfl : IntKind.i64.wrap _ = ((i + 1 : Nat) : Int)))) ?_
  refine sQ (q_cutS i (i + 1) (u.extract i (i + 1)) rfl un9 rfl (by first | rfl | exact ⟨_, rfl⟩) (by first | rfl | exact ⟨_, rfl⟩) (by omega) (by omega) rfl) ?_
  refine G2 ?_
  refine B3 ?_
  exact ⟨i + 1, _, by exact wK 26, by omega, tt ++ ⟨#[39]⟩ ++ u.extract i (i + 1), ⟨hi, by rw [htt, cut1 hi, hb, qS, qS, qtL_take hi, if_pos hb]; exact (congrArg (· ++ _) (ba_app _ _)).trans ((ba_app _ _).trans (by simp))⟩, rfl⟩
 have hb : u.data.toList[i] ≠ 39 := fun e => h14 (by rw [e]; rfl)
 refine AW.skip (B4 ?_)
 refine sQ (q_add _ rfl rfl rfl ((by rw [w64 (by omega) (by omega)]; rfl : IntKind.i64.wrap _ = ((i + 1 : Nat) : Int)))) ?_
 refine sQ (q_cutS i (i + 1) (u.extract i (i + 1)) rfl un9 rfl (by first | rfl | exact ⟨_, rfl⟩) (by first | rfl | exact ⟨_, rfl⟩) (by omega) (by omega) rfl) ?_
 refine G2 ?_
 refine B3 ?_
 exact ⟨i + 1, _, by exact wK 26, by omega, tt ++ u.extract i (i + 1), ⟨hi, by rw [htt, cut1 hi, qS, qS, qtL_take hi, if_neg hb]; exact (ba_app _ _).trans (by simp)⟩, rfl⟩
def sgs : List ByteArray := [⟨#[]⟩, ⟨#[]⟩, ⟨#[]⟩, ⟨#[]⟩, ⟨#[43]⟩, ⟨#[45]⟩, ⟨#[42]⟩, ⟨#[47]⟩, ⟨#[37]⟩, ⟨#[]⟩, ⟨#[61]⟩, ⟨#[60, 62]⟩, ⟨#[60]⟩, ⟨#[60, 61]⟩, ⟨#[62]⟩, ⟨#[62, 61]⟩, ⟨#[76, 73, 75, 69]⟩, ⟨#[]⟩, ⟨#[65, 78, 68]⟩, ⟨#[79, 82]⟩]
abbrev sgB (n : Int) : ByteArray := sgs.getD n.toNat ⟨#[]⟩
def wrB (p : Int × ByteArray) (least : Int) : ByteArray := if p.1 < least then ⟨#[40]⟩ ++ p.2 ++ ⟨#[41]⟩ else p.2
abbrev lfN (n : Int) : Int := if lvA n = 4 then 5 else lvA n
def ndT (op : Int) (tb nm : ByteArray) (vk vn : Int) (vs : ByteArray) (l : List (Int × ByteArray)) : ByteArray :=
  if op = 1 then (if vk = 1 then decB vn.toNat else if vk = 2 then ⟨#[39]⟩ ++ qtB vs ++ ⟨#[39]⟩ else ⟨#[78, 85, 76, 76]⟩)
  else if op = 2 then (if tb = ⟨#[]⟩ then nm else tb ++ ⟨#[46]⟩ ++ nm)
  else if op = 3 then ⟨#[45]⟩ ++ wrB (l.getD 0 (0, ⟨#[]⟩)) 8
  else if op = 9 then ⟨#[76, 69, 78, 71, 84, 72, 40]⟩ ++ wrB (l.getD 0 (0, ⟨#[]⟩)) 1 ++ ⟨#[41]⟩
  else if op = 17 then wrB (l.getD 0 (0, ⟨#[]⟩)) 5 ++ ⟨#[32, 73, 83, 32, 78, 85, 76, 76]⟩
  else if op = 20 then ⟨#[78, 79, 84, 32]⟩ ++ wrB (l.getD 0 (0, ⟨#[]⟩)) 3
  else wrB (l.getD 0 (0, ⟨#[]⟩)) (lfN op) ++ ⟨#[32]⟩ ++ sgB op ++ ⟨#[32]⟩ ++ wrB (l.getD 1 (0, ⟨#[]⟩)) (lvA op + 1)
mutual
def prE : Ex → ByteArray
  | .mk op tb nm _ vk vn vs xs => ndT op tb nm vk vn vs (prS xs)
def prS : List Ex → List (Int × ByteArray)
  | [] => []
  | e :: r => (lvA e.op, prE e) :: prS r
end
abbrev prP (e : Ex) : Int × ByteArray := (lvA e.op, prE e)
theorem prS_map : ∀ l, prS l = l.map prP
  | [] => by rw [prS]; rfl
  | e :: r => by rw [prS, prS_map r]; rfl
abbrev prL (e : Ex) (l : Int) : ByteArray := wrB (prP e) l
theorem prE_eq (e : Ex) : prE e = ndT e.op e.tb e.nm e.vk e.vn e.vs (e.args.map prP) := by
  cases e; rw [prE, prS_map]
theorem fm_len {e : Ex} (h : fmB e = true) : opsN e.op = e.args.length := by
  rw [fmB_eq, jG] at h; exact jJ h.1
theorem fm_arg {e a : Ex} (h : fmB e = true) (ha : a ∈ e.args) : fmB a = true := by
  rw [fmB_eq, jG, jG, List.all_eq_true] at h; exact h.2.1 a ha
theorem fm_nd {e : Ex} (h : fmB e = true) : fmN e := by
  rw [fmB_eq, jG, jG] at h; exact jJ h.2.2
theorem fm_op {e : Ex} (h : fmB e = true) : opsN e.op ≠ -1 := by rw [fm_len h]; omega
theorem fm_lit {e : Ex} (h : fmB e = true) (k : e.op = 1) : ltP e.vk e.vn e.vs := by
  have := fm_nd h
  unfold fmN at this
  rw [if_neg (by omega), if_pos k] at this; exact this.2
theorem fm_col {e : Ex} (h : fmB e = true) (k : e.op = 2) : e.nm.size ≤ 24 ∧ e.tb.size ≤ 24 := by
  have := fm_nd h
  unfold fmN at this
  rw [if_pos k] at this
  refine ⟨this.1.1.2, ?_⟩
  rcases this.2.1 with h1 | h1
  · rw [h1]; decide
  · exact h1.1.2
theorem fm_bin {e : Ex} (h : fmB e = true) (h1 : ¬ e.op = 1) (h2 : ¬ e.op = 2) (h3 : ¬ e.op = 3) (h4 : ¬ e.op = 9) (h5 : ¬ e.op = 17) (h6 : ¬ e.op = 20) : e.args.length = 2 ∧ 0 ≤ e.op ∧ e.op.toNat < 20 := by
  have h7 := fm_len h
  have h8 := ops_rng (fm_op h)
  unfold opsN at h7
  rw [if_neg (by omega), if_neg (by omega)] at h7
  split at h7 <;> omega
theorem fm_una {e : Ex} (h : fmB e = true) (h1 : e.op = 3 ∨ e.op = 9 ∨ e.op = 17 ∨ e.op = 20) : e.args.length = 1 := by
  have h7 := fm_len h
  unfold opsN at h7
  rw [if_neg (by omega), if_pos h1] at h7; omega
theorem lt_num {k n : Int} {s : ByteArray} (h : ltP k n s) (h1 : k = 1) : 0 ≤ n ∧ n ≤ 2147483648 := by
  unfold ltP at h; rw [if_neg (by omega), if_pos h1] at h; exact h.1
theorem lt_txt {k n : Int} {s : ByteArray} (h : ltP k n s) (h1 : k = 2) : s.size ≤ 16 := by
  unfold ltP at h; rw [if_neg (by omega), if_neg (by omega), if_pos h1] at h; exact h.2.2
theorem lt_kind {k n : Int} {s : ByteArray} (h : ltP k n s) : k = 0 ∨ k = 1 ∨ k = 2 := by
  unfold ltP at h; split at h
  · omega
  · split at h
    · omega
    · split at h <;> first | omega | exact h.elim
theorem getD_map {e : Ex} {i : Nat} (h : i < e.args.length) : (e.args.map prP).getD i (0, ⟨#[]⟩) = prP e.args[i] := by
  rw [qI, qR, qF h]; rfl
theorem wr_size (p : Int × ByteArray) (l : Int) : (wrB p l).size ≤ p.2.size + 2 := by
  unfold wrB
  split
  · rw [qE, qE]
    have h1 : (⟨#[40]⟩ : ByteArray).size = 1 := rfl
    have h2 : (⟨#[41]⟩ : ByteArray).size = 1 := rfl
    omega
  · omega
theorem sg_size (n : Int) : (sgB n).size ≤ 4 := by
  have key : ∀ k : Nat, (sgs.getD k ⟨#[]⟩).size ≤ 4 := fun k => by
    by_cases h : k < 20
    · have : ∀ k : Fin 20, (sgs.getD k.1 ⟨#[]⟩).size ≤ 4 := by decide
      exact this ⟨k, h⟩
    · rw [qI, List.getElem?_eq_none (by show sgs.length ≤ k; rw [show sgs.length = 20 from rfl]; omega)]; decide
  exact key _
theorem pr_size (e : Ex) : fmB e = true → (prE e).size ≤ 70 * ndE e := by
  induction e using Ex.rec' with
  | h e ih =>
    intro h
    have h0 := ops_rng (fm_op h)
    have hn : ndE e = 1 + ndS e.args := by rw [ndE_eq, if_pos (by omega)]
    have hd : ∀ n : Nat, n < 10000000000 → (decB n).size ≤ 10 := fun n hn => decB_size hn
    rw [prE_eq]; unfold ndT
    split
    · rename_i h1
      have hl := fm_lit h h1
      split
      · rename_i h2
        have := lt_num hl h2
        have := hd e.vn.toNat (by omega); omega
      · split
        · rename_i h2
          have h3 := lt_txt hl h2
          have h4 := qtB_size (u := e.vs)
          rw [qE, qE]
          have h5 : (⟨#[39]⟩ : ByteArray).size = 1 := rfl
          omega
        · have h5 : (⟨#[78, 85, 76, 76]⟩ : ByteArray).size = 4 := rfl
          omega
    · split
      · rename_i h1 h2
        have hc := fm_col h h2
        split
        · omega
        · rw [qE, qE]
          have h5 : (⟨#[46]⟩ : ByteArray).size = 1 := rfl
          omega
      · have one : ∀ i (hi : i < e.args.length) (l : Int), (wrB ((e.args.map prP).getD i (0, ⟨#[]⟩)) l).size ≤ 70 * ndE e.args[i] + 2 := fun i hi l => by
          rw [getD_map hi]
          have h1 := wr_size (prP e.args[i]) l
          have h2 := ih _ (qC hi) (fm_arg h (qC hi))
          have h1 : (wrB (prP e.args[i]) l).size ≤ (prE e.args[i]).size + 2 := h1
          omega
        have mem : ∀ i (hi : i < e.args.length), ndE e.args[i] ≤ ndS e.args := fun i hi => ndS_mem (qC hi)
        have una : (e.op = 3 ∨ e.op = 9 ∨ e.op = 17 ∨ e.op = 20) → ∀ l : Int, (wrB ((e.args.map prP).getD 0 (0, ⟨#[]⟩)) l).size ≤ 70 * ndS e.args + 2 := fun hu l => by
          have h1 := fm_una h hu
          have h2 := one 0 (by omega) l
          have h3 := mem 0 (by omega)
          omega
        have c1 : (⟨#[45]⟩ : ByteArray).size = 1 := rfl
        have c2 : (⟨#[76, 69, 78, 71, 84, 72, 40]⟩ : ByteArray).size = 7 := rfl
        have c3 : (⟨#[41]⟩ : ByteArray).size = 1 := rfl
        have c4 : (⟨#[32, 73, 83, 32, 78, 85, 76, 76]⟩ : ByteArray).size = 8 := rfl
        have c5 : (⟨#[78, 79, 84, 32]⟩ : ByteArray).size = 4 := rfl
        have c6 : (⟨#[32]⟩ : ByteArray).size = 1 := rfl
        split
        · rename_i h3
          have := una (by omega) 8
          rw [qE]; omega
        · split
          · rename_i h3
            have := una (by omega) 1
            rw [qE, qE]; omega
          · split
            · rename_i h3
              have := una (by omega) 5
              rw [qE]; omega
            · split
              · rename_i h3
                have := una (by omega) 3
                rw [qE]; omega
              · have hb := fm_bin h (by assumption) (by assumption) (by assumption) (by assumption) (by assumption) (by assumption)
                have h1 := one 0 (by omega) (lfN e.op)
                have h2 := one 1 (by omega) (lvA e.op + 1)
                have h3 : ndS e.args = ndE e.args[0] + ndE e.args[1] := by
                  obtain ⟨a, b, hx⟩ : ∃ a b, e.args = [a, b] := by
                    match hx : e.args, hb.1 with
                    | [a, b], _ => exact ⟨a, b, rfl⟩
                  simp [hx, ndS]
                have h4 := sg_size e.op
                simp only [qE]
                omega
theorem num_I {v : Int} (h0 : 0 ≤ v) (h : v ≤ 2147483648) : Pu 105 [iC v] (.c (sC (decB v.toNat))) :=
  I_nat (P := fun v => Pu 105 [iC v] (.c (sC (decB v.toNat)))) h0 fun n hn => num_any n (by omega)
theorem prL_size {a : Ex} {l : Int} {N : Nat} (h : fmB a = true) (hn : ndE a ≤ N) : (prL a l).size ≤ 70 * N + 2 := by
  have h1 := wr_size (prP a) l
  have h2 := pr_size a h
  have h1 : (wrB (prP a) l).size ≤ (prE a).size + 2 := h1
  show (wrB (prP a) l).size ≤ _
  omega
theorem sign_any (n : Int) (h : 0 ≤ n ∧ n.toNat < 20) : Pu 107 [iC n] (.c (sC (sgB n))) := by
 have hl : n.toNat < sgs.length := h.2
 intro H
 refine Spec.enter Tryz.func107 rfl ?_
 refine AW.wk (wK 9 (l := [(0, .c (iC n))]) (ll := []) (H := (H))) ?_
 refine D1 ?_
 refine D2 ?_
 refine AW.xw 3 rfl (XW.es (es' := sgs.map sT) rfl) ?_
 refine D5 ?_
 exact aR (fE (e := sCe (by rw [sgB, qI, qF hl]; rfl)))
theorem print_hi (e : Ex) (l : Int) (ho : okE e) (hf : fmB e = true) (hn : ndE e ≤ 1000) (ih : ∀ a ∈ e.args, ∀ l : Int, Pu 62 [exC a, iC l] (.c (sC (prL a l)))) (hl : ¬ lvA e.op < l) : Pu 62 [exC e, iC l] (.c (sC (prL e l))) := by
 have hnd : ndE e = (if e.op ≠ 0 then 1 else 0) + ndS e.args := ndE_eq e
 have hns : ndS e.args ≤ 1000 := by omega
 have hlv := lv_eq (fm_op hf)
 have hlp := lvA_pos e.op
 have hz := pr_size e hf
 have c0 : (⟨#[39]⟩ : ByteArray).size = 1 := rfl
 have c1 : (⟨#[78, 85, 76, 76]⟩ : ByteArray).size = 4 := rfl
 have c2 : (⟨#[46]⟩ : ByteArray).size = 1 := rfl
 have c3 : (⟨#[45]⟩ : ByteArray).size = 1 := rfl
 have c4 : (⟨#[76, 69, 78, 71, 84, 72, 40]⟩ : ByteArray).size = 7 := rfl
 have c5 : (⟨#[41]⟩ : ByteArray).size = 1 := rfl
 have c6 : (⟨#[32, 73, 83, 32, 78, 85, 76, 76]⟩ : ByteArray).size = 8 := rfl
 have c7 : (⟨#[78, 79, 84, 32]⟩ : ByteArray).size = 4 := rfl
 have c8 : (⟨#[32]⟩ : ByteArray).size = 1 := rfl
 have c9 : (⟨#[40]⟩ : ByteArray).size = 1 := rfl
 have c10 : (⟨#[43]⟩ : ByteArray).size = 1 := rfl
 intro H
 refine Spec.enter Tryz.func62 rfl ?_
 refine AW.wk (wK 108 (l := [(0, .c (exC e)), (1, .c (iC l))]) (ll := []) (H := (H))) ?_
 refine D2 ?_
 refine AW.seq (D1 ?_)
 refine Z16 fn104 (rlevel_any e) ?_
 refine G3 ?_
 refine cD ?_ ?_ <;> intro h10
 ·
  exact absurd (hlv ▸ h10) hl
 refine AW.skip (AW.seq (D3 ?_))
 refine AW.block (D2 ?_)
 refine cD ?_ ?_ <;> intro h17
 ·
  have hlt := fm_lit hf h17
  have hkd := lt_kind hlt
  refine AW.seq (D5 ?_)
  refine cD ?_ ?_ <;> intro h22
  ·
   refine D1 ?_
   exact aR (fE (e := sCe (by show _ = wrB (prP e) l; unfold wrB; rw [if_neg (show ¬ (prP e).1 < l by show ¬ lvA e.op < l; rw [← hlv]; exact h10)]; show _ = prE e; rw [prE_eq, ndT, if_pos h17, if_neg (by omega), if_neg (by omega)])))
  refine AW.skip (AW.seq (D5 ?_))
  refine cD ?_ ?_ <;> intro h26
  ·
   have hv := lt_num hlt h26
   refine D3 ?_
   refine Z16 fn105 (num_I hv.1 hv.2) ?_
   refine sB ?_
   exact aR (fE (e := sCe (by show _ = wrB (prP e) l; unfold wrB; rw [if_neg (show ¬ (prP e).1 < l by show ¬ lvA e.op < l; rw [← hlv]; exact h10)]; show _ = prE e; rw [prE_eq, ndT, if_pos h17, if_pos h26])))
  have hv := lt_txt hlt (by omega)
  have hq := qtB_size (u := e.vs)
  refine AW.skip (D3 ?_)
  refine sQ (q_call _ rfl fn106 rfl (quote_any e.vs (by omega)) rfl) ?_
  refine sB ?_
  exact aR (fE (e := sCe (by show _ = wrB (prP e) l; unfold wrB; rw [if_neg (show ¬ (prP e).1 < l by show ¬ lvA e.op < l; rw [← hlv]; exact h10)]; show _ = prE e; rw [prE_eq, ndT, if_pos h17, if_neg h26, if_pos (by omega)])))
 refine D2 ?_
 refine cD ?_ ?_ <;> intro h35
 ·
  have hc := fm_col hf h35
  refine AW.seq (D2 ?_)
  refine sQ (q_neqS rfl rfl rfl) ?_
  refine Z4 ?_
  refine cD ?_ ?_ <;> intro h39
  ·
   refine D7 ?_
   exact aR (fE (e := sCe (by show _ = wrB (prP e) l; unfold wrB; rw [if_neg (show ¬ (prP e).1 < l by show ¬ lvA e.op < l; rw [← hlv]; exact h10)]; show _ = prE e; rw [prE_eq, ndT, if_neg h17, if_pos h35, if_neg h39])))
  refine AW.skip (D3 ?_)
  exact aR (fE (e := sCe (by show _ = wrB (prP e) l; unfold wrB; rw [if_neg (show ¬ (prP e).1 < l by show ¬ lvA e.op < l; rw [← hlv]; exact h10)]; show _ = prE e; rw [prE_eq, ndT, if_neg h17, if_pos h35, if_pos (qY.1 h39)])))
 refine D2 ?_
 refine cD ?_ ?_ <;> intro h48
 ·
  have hu := fm_una hf (.inl h48)
  have hz0 : ∀ l : Int, (prL (e.args[0]'(by omega)) l).size ≤ 70 * 1000 + 2 := fun l => prL_size (fm_arg hf (qC _)) (jB (ndS_mem (qC _)) (by omega))
  have hz0a := hz0 8
  have hz0b := hz0 1
  have hz0c := hz0 5
  have hz0d := hz0 3
  refine D2 ?_
  refine sQ (q_index _ rfl sl27 rfl rfl (by omega) (idx_ex (show 0 < e.args.length by omega))) ?_
  refine G1 ?_
  refine Z16 fn62 (ih _ (qC _) _) ?_
  refine G2 ?_
  exact aR (fE (e := sCe (by show _ = wrB (prP e) l; unfold wrB; rw [if_neg (show ¬ (prP e).1 < l by show ¬ lvA e.op < l; rw [← hlv]; exact h10)]; show _ = prE e; rw [prE_eq, ndT, if_neg h17, if_neg h35, if_pos h48, getD_map (show 0 < e.args.length by omega)])))
 refine D2 ?_
 refine cD ?_ ?_ <;> intro h56
 ·
  have hu := fm_una hf (.inr <| .inl h56)
  have hz0 : ∀ l : Int, (prL (e.args[0]'(by omega)) l).size ≤ 70 * 1000 + 2 := fun l => prL_size (fm_arg hf (qC _)) (jB (ndS_mem (qC _)) (by omega))
  have hz0a := hz0 8
  have hz0b := hz0 1
  have hz0c := hz0 5
  have hz0d := hz0 3
  refine D2 ?_
  refine sQ (q_index _ rfl sl27 rfl rfl (by omega) (idx_ex (show 0 < e.args.length by omega))) ?_
  refine G1 ?_
  refine Z16 fn62 (ih _ (qC _) _) ?_
  refine G3 ?_
  exact aR (fE (e := sCe (by show _ = wrB (prP e) l; unfold wrB; rw [if_neg (show ¬ (prP e).1 < l by show ¬ lvA e.op < l; rw [← hlv]; exact h10)]; show _ = prE e; rw [prE_eq, ndT, if_neg h17, if_neg h35, if_neg h48, if_pos h56, getD_map (show 0 < e.args.length by omega)])))
 refine D2 ?_
 refine cD ?_ ?_ <;> intro h65
 ·
  have hu := fm_una hf (.inr <| .inr <| .inl h65)
  have hz0 : ∀ l : Int, (prL (e.args[0]'(by omega)) l).size ≤ 70 * 1000 + 2 := fun l => prL_size (fm_arg hf (qC _)) (jB (ndS_mem (qC _)) (by omega))
  have hz0a := hz0 8
  have hz0b := hz0 1
  have hz0c := hz0 5
  have hz0d := hz0 3
  refine D2 ?_
  refine sQ (q_index _ rfl sl27 rfl rfl (by omega) (idx_ex (show 0 < e.args.length by omega))) ?_
  refine G1 ?_
  refine Z16 fn62 (ih _ (qC _) _) ?_
  refine G2 ?_
  exact aR (fE (e := sCe (by show _ = wrB (prP e) l; unfold wrB; rw [if_neg (show ¬ (prP e).1 < l by show ¬ lvA e.op < l; rw [← hlv]; exact h10)]; show _ = prE e; rw [prE_eq, ndT, if_neg h17, if_neg h35, if_neg h48, if_neg h56, if_pos h65, getD_map (show 0 < e.args.length by omega)])))
 refine D2 ?_
 refine cD ?_ ?_ <;> intro h73
 ·
  have hu := fm_una hf (.inr <| .inr <| .inr h73)
  have hz0 : ∀ l : Int, (prL (e.args[0]'(by omega)) l).size ≤ 70 * 1000 + 2 := fun l => prL_size (fm_arg hf (qC _)) (jB (ndS_mem (qC _)) (by omega))
  have hz0a := hz0 8
  have hz0b := hz0 1
  have hz0c := hz0 5
  have hz0d := hz0 3
  refine D2 ?_
  refine sQ (q_index _ rfl sl27 rfl rfl (by omega) (idx_ex (show 0 < e.args.length by omega))) ?_
  refine G1 ?_
  refine Z16 fn62 (ih _ (qC _) _) ?_
  refine G2 ?_
  exact aR (fE (e := sCe (by show _ = wrB (prP e) l; unfold wrB; rw [if_neg (show ¬ (prP e).1 < l by show ¬ lvA e.op < l; rw [← hlv]; exact h10)]; show _ = prE e; rw [prE_eq, ndT, if_neg h17, if_neg h35, if_neg h48, if_neg h56, if_neg h65, if_pos h73, getD_map (show 0 < e.args.length by omega)])))
 have hb := fm_bin hf h17 h35 h48 h56 h65 h73
 have hz0 : ∀ l : Int, (prL (e.args[0]'(by omega)) l).size ≤ 70 * 1000 + 2 := fun l => prL_size (fm_arg hf (qC _)) (jB (ndS_mem (qC _)) (by omega))
 have hz1 : ∀ l : Int, (prL (e.args[1]'(by omega)) l).size ≤ 70 * 1000 + 2 := fun l => prL_size (fm_arg hf (qC _)) (jB (ndS_mem (qC _)) (by omega))
 have hz0a := hz0 (lfN e.op)
 have hz1a := hz1 (lvA e.op + 1)
 have hsg := sg_size e.op
 refine AW.skip (AW.seq (AW.draw mo ?_))
 refine N1 ?_
 refine Z35 fn104 (rlevel_any e) ?_
 refine N1 ?_
 refine Z35 fn104 (rlevel_any e) ?_
 refine lQ (q_add _ rfl rfl rfl (w64 (by omega) (by omega))) ?_
 refine N3 ?_
 refine AW.seqM (fun s => s = ⟨108, sp [(1, .c (iC l)), (2, .lp 2 0), (4, .c (sC ⟨#[]⟩)), (5, .c (iC (lfN e.op))), (6, .c (iC (lvA e.op + 1)))], lv [(2, .box (zEx e))], H⟩) ?_ ?_
 ·
  refine D1 ?_
  refine Z16 fn104 (rlevel_any e) ?_
  refine G2 ?_
  refine cD ?_ ?_ <;> intro h88
  ·
   refine B1 ?_
   exact ⟨_, by exact Wk.keep 108 _ _ _ rfl ⟨rfl, rfl, rfl, iCe2 (by unfold lfN; rw [← hlv]; first | (rw [if_pos h88]; done) | (rw [if_neg h88]; done)), iCe2 (by rw [← hlv]), trivial⟩ ⟨rfl, trivial⟩ (fun _ _ h => h) rfl, rfl⟩
  refine AW.skip ?_
  exact ⟨_, by exact Wk.keep 108 _ _ _ rfl ⟨rfl, rfl, rfl, iCe2 (by unfold lfN; rw [← hlv]; first | (rw [if_pos h88]; done) | (rw [if_neg h88]; done)), iCe2 (by rw [← hlv]), trivial⟩ ⟨rfl, trivial⟩ (fun _ _ h => h) rfl, rfl⟩
 rintro s rfl
 refine AW.seq (AW.draw mo ?_)
 refine N2 ?_
 refine lQ (q_index _ rfl sl27 rfl rfl (by omega) (idx_ex (show 0 < e.args.length by omega))) ?_
 refine N2 ?_
 refine Z35 fn62 (ih _ (qC _) _) ?_
 refine N3 ?_
 refine Z35 fn107 (sign_any e.op hb.2) ?_
 refine N4 ?_
 refine lQ (q_index _ rfl sl27 rfl rfl (by omega) (idx_ex (show 1 < e.args.length by omega))) ?_
 refine N2 ?_
 refine Z35 fn62 (ih _ (qC _) _) ?_
 refine N3 ?_
 exact aR (fE (e := sCe (by show _ = wrB (prP e) l; unfold wrB; rw [if_neg (show ¬ (prP e).1 < l by show ¬ lvA e.op < l; rw [← hlv]; exact h10)]; show _ = prE e; rw [prE_eq, ndT, if_neg h17, if_neg h35, if_neg h48, if_neg h56, if_neg h65, if_neg h73, getD_map (show 0 < e.args.length by omega), getD_map (show 1 < e.args.length by omega)])))
theorem print_lo (e : Ex) (l : Int) (ho : okE e) (hf : fmB e = true) (hn : ndE e ≤ 1000) (ih : ∀ a ∈ e.args, ∀ l : Int, Pu 62 [exC a, iC l] (.c (sC (prL a l)))) (hl : lvA e.op < l) : Pu 62 [exC e, iC l] (.c (sC (prL e l))) := by
 have hnd : ndE e = (if e.op ≠ 0 then 1 else 0) + ndS e.args := ndE_eq e
 have hns : ndS e.args ≤ 1000 := by omega
 have hlv := lv_eq (fm_op hf)
 have hlp := lvA_pos e.op
 have hz := pr_size e hf
 have c0 : (⟨#[39]⟩ : ByteArray).size = 1 := rfl
 have c1 : (⟨#[78, 85, 76, 76]⟩ : ByteArray).size = 4 := rfl
 have c2 : (⟨#[46]⟩ : ByteArray).size = 1 := rfl
 have c3 : (⟨#[45]⟩ : ByteArray).size = 1 := rfl
 have c4 : (⟨#[76, 69, 78, 71, 84, 72, 40]⟩ : ByteArray).size = 7 := rfl
 have c5 : (⟨#[41]⟩ : ByteArray).size = 1 := rfl
 have c6 : (⟨#[32, 73, 83, 32, 78, 85, 76, 76]⟩ : ByteArray).size = 8 := rfl
 have c7 : (⟨#[78, 79, 84, 32]⟩ : ByteArray).size = 4 := rfl
 have c8 : (⟨#[32]⟩ : ByteArray).size = 1 := rfl
 have c9 : (⟨#[40]⟩ : ByteArray).size = 1 := rfl
 have c10 : (⟨#[43]⟩ : ByteArray).size = 1 := rfl
 have hz1 : (prL e 1).size ≤ 70 * 1000 + 2 := prL_size hf hn
 intro H
 refine Spec.enter Tryz.func62 rfl ?_
 refine AW.wk (wK 108 (l := [(0, .c (exC e)), (1, .c (iC l))]) (ll := []) (H := (H))) ?_
 refine D2 ?_
 refine AW.seq (D1 ?_)
 refine Z16 fn104 (rlevel_any e) ?_
 refine G3 ?_
 refine cD ?_ ?_ <;> intro h10
 ·
  refine D1 ?_
  refine sQ (q_call _ rfl fn62 rfl (print_hi e 1 ho hf hn ih (by omega)) rfl) ?_
  refine G3 ?_
  exact aR (fE (e := sCe (by rw [show prL e 1 = prE e from by show wrB (prP e) 1 = _; unfold wrB; rw [if_neg (show ¬ (prP e).1 < 1 by show ¬ lvA e.op < 1; omega)]]; show _ = wrB (prP e) l; unfold wrB; rw [if_pos (show (prP e).1 < l from hl)])))
 exact absurd hl (hlv ▸ h10)
theorem print_txt (e : Ex) : okE e → fmB e = true → ndE e ≤ 1000 → ∀ l : Int, Pu 62 [exC e, iC l] (.c (sC (prL e l))) := by
  induction e using Ex.rec' with
  | h e ih =>
    intro ho hf hn l
    have ih2 : ∀ a ∈ e.args, ∀ l : Int, Pu 62 [exC a, iC l] (.c (sC (prL a l))) := fun a ha => ih a ha ((okE_iff.1 ho).2 a ha) (fm_arg hf ha) (jB (ndS_mem ha) (by have := ndE_eq e; omega))
    by_cases hl : lvA e.op < l
    · exact print_lo e l ho hf hn ih2 hl
    · exact print_hi e l ho hf hn ih2 hl
abbrev vdN (e : Ex) : Int := if 50 < depN e then 3 else if fmB e = true then 0 else 1
abbrev tup2 (a : ByteArray) (n : Int) : X := .tup [sC a, iC n]
theorem deep_any (e : Ex) (ho : okE e) (hd : depN e ≤ 1000000) : Pu 169 [exC e] (.c (bC (decide (50 < depN e)))) := by
 intro H
 refine Spec.enter Tryz.func169 rfl ?_
 refine AW.wk (wK 6 (l := [(0, .c (exC e))]) (ll := []) (H := (H))) ?_
 refine D2 ?_
 refine D1 ?_
 refine sQ (q_call _ rfl fn170 rfl (depth_any e ho (by omega)) rfl) ?_
 refine G2 ?_
 exact aR (fE (e := bCe (dI ⟨fun h => by omega, fun h => by omega⟩)))
theorem large_any (e : Ex) (z : Nz) (ho : okE e) (hn : ndE e ≤ 400) (hd : depN e ≤ 1000000) : Pu 145 [exsC z [e]] (.c (bC (decide (50 < depN e)))) := by
 intro H
 refine Spec.enter Tryz.func145 rfl ?_
 refine AW.wk (wK 10 (l := [(0, .c (exsC z [e]))]) (ll := []) (H := (H))) ?_
 refine D1 ?_
 refine D1 ?_
 refine sQ (q_call _ rfl fn168 rfl (counted_any [e] z 400 (by simp) (fun a ha => by rw [jF.1 ha]; exact ho) (by rw [ndS, ndS]; omega) (by omega)) rfl) ?_
 refine Z40 ?_
 refine Z17 ?_ ?_ <;> intro g6
 ·
  have h9 : ndS [e] = ndE e := by rw [ndS, ndS]; rfl
  exfalso; rw [h9] at g6; omega
 refine Z14 ?_
 refine SeqK.rOn (g_call rfl fn120 rfl (Spec.arg (l := [exsC z [e]]) (r := []) XW.fn0 (anyF_ex _ 169 [] (fun a => decide (50 < depN a)) [e] z fn169 (by simp) fun a ha H1 h1 => by rw [jF.1 ha]; exact deep_any e ho hd H1)) rfl rfl rfl) rfl rfl rfl ?_
 refine G2 ?_
 exact aR (fE (e := bCe (by simp)))
end Go.Proofs.YtgnnjebfoffphaaGreatDoor.Q
