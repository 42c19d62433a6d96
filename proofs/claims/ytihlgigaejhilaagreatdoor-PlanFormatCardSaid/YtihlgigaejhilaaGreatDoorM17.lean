/- Parts of the proof, one after the other: W18, W19, W20, W21, W22. No condition. -/
import Derived.Test.YtihlgigaejhilaaGreatDoorM16
set_option linter.unusedSectionVars false
set_option linter.unusedSimpArgs false
set_option linter.unusedVariables false
namespace Go.Proofs.YtihlgigaejhilaaGreatDoor.W
open Go.RowKit E
abbrev csC (c : Cs) : C := .g [.t (.sl .un 5 (c.sch.map tbT)), .t (.sl .un 1 (c.frm.map i64T)), .t (.sl .un 1 (c.al.map sT)), .t (.v (.int .i64 c.wh.op)), .t (.v (.string c.wh.tb)), .t (.v (.string c.wh.nm)), .t (.v (.int .i64 c.wh.ix)), .t (.v (.int .i64 c.wh.vk)), .t (.v (.int .i64 c.wh.vn)), .t (.v (.string c.wh.vs)), .t (.sl .un 8 (c.wh.args.map exT'))]
structure okC (c : Cs) : Prop where
  sch : c.sch.length ≤ 17592186044000
  tab : ∀ t ∈ c.sch, okT t
  frm : c.frm.length ≤ 17592186044000
  al : c.al.length ≤ 17592186044000
  als : ∀ a ∈ c.al, a.size ≤ 1000000000000000
  wh : okE c.wh
abbrev frP (s : List Tb) (f : List Int) (a : List ByteArray) : List (ByteArray × ByteArray) := List.zipWith (fun t a => ((tbAt s t).nm, a)) f a
abbrev vrP (s : List Tb) (f : List Int) : List Vr := f.flatMap fun t => (tbAt s t).cols.map vrOf
/-- a case's bound statement, as far as its first sources -/
abbrev bdN (c : Cs) (i : Nat) : Bd := ⟨frP c.sch (c.frm.take i) (c.al.take i), c.wh, c.frm.take i, vrP c.sch (c.frm.take i)⟩
abbrev bdM (c : Cs) : Bd := ⟨frP c.sch c.frm c.al, c.wh, c.frm, vrP c.sch c.frm⟩
abbrev frQ (c : Cs) : Prop := (1 ≤ c.frm.length ∧ c.frm.length ≤ 3) ∧ c.al.length = c.frm.length
abbrev frR (c : Cs) (j : Nat) (h : j < c.frm.length) : Prop := (0 ≤ c.frm[j] ∧ c.frm[j] < c.sch.length) ∧ (c.al.getD j ⟨#[]⟩).size ≤ 30
abbrev num3 (n : Nat) : List Int := [0, 1, 2].take n
abbrev bndP (c : Cs) : Prop := ((ssP c.sch ∧ vldS c.sch) ∧ frQ c ∧ binB 8 c.wh = true) ∧ (∀ j (h : j < c.frm.length), frR c j h) ∧ witB c.sch c.frm (num3 c.frm.length) c.wh = true
theorem frP_take {s : List Tb} {f : List Int} {a : List ByteArray} {i : Nat} (hi : i < f.length) (ha : i < a.length) : frP s (f.take (i + 1)) (a.take (i + 1)) = frP s (f.take i) (a.take i) ++ [((tbAt s f[i]).nm, a[i])] := by
  rw [take_put hi, take_put ha, frP, List.zipWith_append (by rw [List.length_take, List.length_take]; omega)]; rfl
theorem b2e {b : Bd} {p q : Bool} (h : p = q) : X.tup [bdC b, bC p] = .tup [bdC b, bC q] := by rw [h]
theorem upd_ne3 {f : Heap} {a b c : Nat} {x y : Option AO} (h : f a = none) (n1 : a ≠ b) (n2 : a ≠ c) : upd (upd f b x) c y a = none := by rw [upd_ne _ _ n2, upd_ne _ _ n1, h]
theorem rot {f : Heap} {a b c : Nat} {x y z : Option AO} (n1 : a ≠ b) (n2 : a ≠ c) : upd (upd (upd f a x) b y) c z = upd (upd (upd f b y) c z) a x := by
  funext j
  by_cases h1 : j = a
  · subst h1; rw [upd_same, upd_ne _ _ n2, upd_ne _ _ n1, upd_same]
  · rw [upd_ne _ _ h1]
    by_cases h2 : j = c
    · subst h2; rw [upd_same, upd_same]
    · rw [upd_ne _ _ h2, upd_ne _ _ h2]
      by_cases h3 : j = b
      · subst h3; rw [upd_same, upd_same]
      · rw [upd_ne _ _ h3, upd_ne _ _ h3, upd_ne _ _ h1]
theorem lt3 {f : Heap} {a b c : Nat} {x y : AO} (h : upd (upd f b (some x)) c (some y) a = none) : f a = none ∧ a ≠ b ∧ a ≠ c := by
  obtain ⟨h1, h2⟩ := upd_lt h; obtain ⟨h3, h4⟩ := upd_lt h2; exact ⟨h4, h3, h1⟩
structure T3 (H : Heap) (a b c : Nat) : Prop where
  ha : H a = none
  hb : H b = none
  hc : H c = none
  ab : a ≠ b
  ac : a ≠ c
  bc : b ≠ c
theorem ss_cols {s : List Tb} (h : ssP s) (v : Int) : (tbAt s v).cols.length ≤ 20 := by
  unfold tbAt
  rw [List.getD_eq_getElem?_getD]
  by_cases hv : v.toNat < s.length
  · rw [List.getElem?_eq_getElem hv]
    exact ((h.1 _ hv).1.2.2.1 0 (by simp)).1.2.1
  · rw [List.getElem?_eq_none (by omega)]; simp
theorem vrP_len {s : List Tb} (h : ssP s) : ∀ f : List Int, (vrP s f).length ≤ f.length * 20
  | [] => by simp [vrP]
  | v :: f => by
    have h1 := ss_cols h v
    have h2 := vrP_len h f
    have : (vrP s (v :: f)).length = (tbAt s v).cols.length + (vrP s f).length := by simp [vrP]
    rw [this, List.length_cons]; omega
theorem bI {b : Bool} {p : Prop} [Decidable p] (h : b = true ↔ p) : b = decide p := by
  cases b
  · exact (decide_eq_false fun hp => absurd (h.2 hp) (by simp)).symm
  · exact (decide_eq_true (h.1 rfl)).symm
abbrev H3 (H : Heap) (a b c n m k : Nat) : Heap := upd (upd (upd H a (some (.tip 3 1 n))) b (some (.tip 66 2 m))) c (some (.tip 95 5 k))
theorem T3.up {H : Heap} {a b c n m k : Nat} (t : T3 H a b c) : ∀ j o, H j = some o → H3 H a b c n m k j = some o := fun j o h => by
  show upd _ _ _ j = _
  rw [upd_ne _ _ (fun e => by rw [e, t.hc] at h; cases h), upd_ne _ _ (fun e => by rw [e, t.hb] at h; cases h), upd_ne _ _ (fun e => by rw [e, t.ha] at h; cases h)]; exact h

abbrev zCs (x : Cs) : List A := [.t (.sl .un 5 (x.sch.map tbT)), .t (.sl .un 1 (x.frm.map i64T)), .t (.sl .un 1 (x.al.map sT)), .t (.v (.int .i64 x.wh.op)), .t (.v (.string x.wh.tb)), .t (.v (.string x.wh.nm)), .t (.v (.int .i64 x.wh.ix)), .t (.v (.int .i64 x.wh.vk)), .t (.v (.int .i64 x.wh.vn)), .t (.v (.string x.wh.vs)), .t (.sl .un 8 (x.wh.args.map exT'))]
set_option maxHeartbeats 16000000 in
set_option maxRecDepth 20000 in
theorem bound_any (H : Heap) (c : Cs) (ho : okC c) : E.Spec Tryz.prog 4 [csC c] H fun x H' => (∃ b : Bd, x = .tup [bdC b, bC (decide (bndP c))] ∧ (bndP c → b = bdM c)) ∧ H' = H := by
 refine Spec.enter Tryz.func4 rfl ?_
 refine AW.wk (Wk.keep 135 [(0, .c (csC c))] [] (H) rfl ⟨rfl, trivial⟩ trivial (fun _ _ h => h) rfl) ?_
 refine sR (Z16 (r := [_, _, _, _, _, _, _, _, _, _, _]) ?_)
 refine Z25 (r := [_, _, _, _, _, _, _, _, _, _, _, _, _, _, _, _, _, _, _, _, _, _, _, _, _, _]) Fx.ze51 ?_
 refine sB ?_
 refine sR (Z1 Fx.fl32_3 ?_)
 refine Z12 (r := .g [_, _, _, _, _, _, _, _]) Fx.ty30 ?_
 refine Z34 (zs := [_, _, _, _, _, _, _, _, _, _, _, _, _, _, _, _, _, _, _, _, _, _]) (r := [_, _, _, _, _, _, _, _, _, _, _, _, _, _, _, _, _, _, _, _, _, _]) [(0, 1), (1, 1), (2, 4), (6, 1), (7, 1), (8, 1), (9, 1), (10, 8), (18, 1), (19, 1), (20, 1), (21, 1)] Fx.ze47 Fx.bp47 ?_
 refine Z34 (zs := [_, _, _, _, _, _, _, _, _, _, _, _, _, _, _, _, _, _, _, _, _, _, _, _, _, _]) (r := [_, _, _, _, _, _, _, _, _, _, _, _, _, _, _, _, _, _, _, _, _, _, _, _, _, _]) [(0, 22), (22, 1), (23, 1), (24, 1), (25, 1)] Fx.ze51 Fx.bp51 ?_
 refine Z25 (r := [_, _, _, _, _, _, _, _, _, _, _, _, _, _, _, _, _, _, _, _, _, _, _, _, _, _]) Fx.ze51 ?_
 refine Z15 (r := [_, _, _, _, _, _, _, _, _, _, _, _, _, _, _, _, _, _, _, _, _, _, _, _, _, _]) Fx.ty51 ?_
 refine Z3 (AW.seq (AW.seq ?_))
 obtain ⟨o1, o2, o3, o4, o5, o6⟩ := ho
 refine AW.reg (Z1 Fx.fl32_0 ?_)
 refine Z0 Fx.ty23 ?_
 refine SeqK.q (q_call _ rfl Fx.fn10 rfl (smallSchema_any c.sch .un (by omega) o2) rfl) rfl rfl rfl ?_
 refine Z33 ?_
 refine SeqK.qB (q_mvC rfl rfl) rfl rfl rfl (fun g15 => ?_) (fun g15 => ?_)
 ·
  iterate 4 refine SeqK.off rfl rfl rfl rfl rfl rfl ?_
  refine Z4 ?_
  refine sM ?_
  iterate 4 refine SeqK.off rfl rfl rfl rfl rfl rfl ?_
  refine Z4 ?_
  refine sM ?_
  iterate 4 refine SeqK.off rfl rfl rfl rfl rfl rfl ?_
  refine Z4 ?_
  refine sM ?_
  iterate 7 refine SeqK.off rfl rfl rfl rfl rfl rfl ?_
  refine Z4 ?_
  refine sM ?_
  iterate 4 refine SeqK.off rfl rfl rfl rfl rfl rfl ?_
  refine Z4 ?_
  refine Z3 (AW.condT rfl ?_)
  refine AW.seq ?_
  have hno : ¬ bndP c := fun hb => by first | exact nd_t g15 hb.1.1.1 | exact nd_t g21 hb.1.1.2 | (rw [hb.1.2.2] at h47; cases h47) | (have h9 := hb.1.2.1; simp only [List.length_map] at *; omega)
  refine AW.xwL 4 rfl (.cons XW.reA (.cons XW.reA (.cons XW.reA (.cons XW.reA (.cons XW.reA (.cons XW.reA (.cons XW.reA (.cons XW.reA (.cons XW.reA (.cons (XW.nilU (sz := 2)) (.cons XW.reA (.cons XW.reA (.cons XW.reA (.cons XW.reA (.cons XW.reA (.cons XW.reA (.cons XW.reA (.cons XW.reA (.cons XW.reA (.cons XW.reA (.cons XW.reA (.cons XW.reA (.cons XW.reA (.cons (XW.nilU (sz := 1)) (.cons (XW.nilU (sz := 5)) (.cons XW.reA .nil)))))))))))))))))))))))))) ?_
  refine AW.reg (Z12 (r := .g [_, _, _, _, _, _, _, _, _, _, _, _, _, _, _, _, _, _, _, _, _, _, _, _, _, _]) Fx.ty51 ?_)
  refine Z15 (r := [_, _, _, _, _, _, _, _, _, _, _, _, _, _, _, _, _, _, _, _, _, _, _, _, _, _]) Fx.ty51 ?_
  refine sB ?_
  refine AW.ret ?_
  exact fin_x (x := .tup [_, _]) (H) (.cellL rfl rfl Fx.ty51 rfl rfl (.tmp rfl .nil)) rfl (fun _ _ h => h) (⟨⟨bdN c 0, b2e (b := bdN c 0) (decide_eq_false hno).symm, fun h => absurd h hno⟩, rfl⟩)
 refine Z6 Fx.fl32_0 ?_
 refine Z5 Fx.ty23 ?_
 refine SeqK.on (q_call _ rfl Fx.fn11 rfl (rvalid_any c.sch .un (by have := (nd_f g15).2; omega) (nd_f g15) o2) rfl) rfl rfl rfl rfl rfl ?_
 refine SeqK.on (q_not rfl rfl) rfl rfl rfl rfl rfl ?_
 refine Z7 ?_
 refine SeqK.qB (q_mvC rfl rfl) rfl rfl rfl (fun g21 => ?_) (fun g21 => ?_)
 ·
  iterate 4 refine SeqK.off rfl rfl rfl rfl rfl rfl ?_
  refine Z4 ?_
  refine sM ?_
  iterate 4 refine SeqK.off rfl rfl rfl rfl rfl rfl ?_
  refine Z4 ?_
  refine sM ?_
  iterate 7 refine SeqK.off rfl rfl rfl rfl rfl rfl ?_
  refine Z4 ?_
  refine sM ?_
  iterate 4 refine SeqK.off rfl rfl rfl rfl rfl rfl ?_
  refine Z4 ?_
  refine Z3 (AW.condT rfl ?_)
  refine AW.seq ?_
  have hno : ¬ bndP c := fun hb => by first | exact nd_t g15 hb.1.1.1 | exact nd_t g21 hb.1.1.2 | (rw [hb.1.2.2] at h47; cases h47) | (have h9 := hb.1.2.1; simp only [List.length_map] at *; omega)
  refine AW.xwL 4 rfl (.cons XW.reA (.cons XW.reA (.cons XW.reA (.cons XW.reA (.cons XW.reA (.cons XW.reA (.cons XW.reA (.cons XW.reA (.cons XW.reA (.cons (XW.nilU (sz := 2)) (.cons XW.reA (.cons XW.reA (.cons XW.reA (.cons XW.reA (.cons XW.reA (.cons XW.reA (.cons XW.reA (.cons XW.reA (.cons XW.reA (.cons XW.reA (.cons XW.reA (.cons XW.reA (.cons XW.reA (.cons (XW.nilU (sz := 1)) (.cons (XW.nilU (sz := 5)) (.cons XW.reA .nil)))))))))))))))))))))))))) ?_
  refine AW.reg (Z12 (r := .g [_, _, _, _, _, _, _, _, _, _, _, _, _, _, _, _, _, _, _, _, _, _, _, _, _, _]) Fx.ty51 ?_)
  refine Z15 (r := [_, _, _, _, _, _, _, _, _, _, _, _, _, _, _, _, _, _, _, _, _, _, _, _, _, _]) Fx.ty51 ?_
  refine sB ?_
  refine AW.ret ?_
  exact fin_x (x := .tup [_, _]) (H) (.cellL rfl rfl Fx.ty51 rfl rfl (.tmp rfl .nil)) rfl (fun _ _ h => h) (⟨⟨bdN c 0, b2e (b := bdN c 0) (decide_eq_false hno).symm, fun h => absurd h hno⟩, rfl⟩)
 refine Z6 Fx.fl32_1 ?_
 refine Z5 Fx.ty24 ?_
 refine Z28 Fx.un24 ?_
 refine SeqK.on (q_lss rfl rfl rfl) rfl rfl rfl rfl rfl ?_
 refine Z7 ?_
 refine Z19 (fun g27 => ?_) (fun g27 => ?_)
 ·
  iterate 4 refine SeqK.off rfl rfl rfl rfl rfl rfl ?_
  refine Z4 ?_
  refine sM ?_
  iterate 7 refine SeqK.off rfl rfl rfl rfl rfl rfl ?_
  refine Z4 ?_
  refine sM ?_
  iterate 4 refine SeqK.off rfl rfl rfl rfl rfl rfl ?_
  refine Z4 ?_
  refine Z3 (AW.condT rfl ?_)
  refine AW.seq ?_
  have hno : ¬ bndP c := fun hb => by first | exact nd_t g15 hb.1.1.1 | exact nd_t g21 hb.1.1.2 | (rw [hb.1.2.2] at h47; cases h47) | (have h9 := hb.1.2.1; simp only [List.length_map] at *; omega)
  refine AW.xwL 4 rfl (.cons XW.reA (.cons XW.reA (.cons XW.reA (.cons XW.reA (.cons XW.reA (.cons XW.reA (.cons XW.reA (.cons XW.reA (.cons XW.reA (.cons (XW.nilU (sz := 2)) (.cons XW.reA (.cons XW.reA (.cons XW.reA (.cons XW.reA (.cons XW.reA (.cons XW.reA (.cons XW.reA (.cons XW.reA (.cons XW.reA (.cons XW.reA (.cons XW.reA (.cons XW.reA (.cons XW.reA (.cons (XW.nilU (sz := 1)) (.cons (XW.nilU (sz := 5)) (.cons XW.reA .nil)))))))))))))))))))))))))) ?_
  refine AW.reg (Z12 (r := .g [_, _, _, _, _, _, _, _, _, _, _, _, _, _, _, _, _, _, _, _, _, _, _, _, _, _]) Fx.ty51 ?_)
  refine Z15 (r := [_, _, _, _, _, _, _, _, _, _, _, _, _, _, _, _, _, _, _, _, _, _, _, _, _, _]) Fx.ty51 ?_
  refine sB ?_
  refine AW.ret ?_
  exact fin_x (x := .tup [_, _]) (H) (.cellL rfl rfl Fx.ty51 rfl rfl (.tmp rfl .nil)) rfl (fun _ _ h => h) (⟨⟨bdN c 0, b2e (b := bdN c 0) (decide_eq_false hno).symm, fun h => absurd h hno⟩, rfl⟩)
 refine Z6 Fx.fl32_1 ?_
 refine Z5 Fx.ty24 ?_
 refine Z28 Fx.un24 ?_
 refine Z35 ?_
 refine Z7 ?_
 refine Z19 (fun g33 => ?_) (fun g33 => ?_)
 ·
  iterate 7 refine SeqK.off rfl rfl rfl rfl rfl rfl ?_
  refine Z4 ?_
  refine sM ?_
  iterate 4 refine SeqK.off rfl rfl rfl rfl rfl rfl ?_
  refine Z4 ?_
  refine Z3 (AW.condT rfl ?_)
  refine AW.seq ?_
  have hno : ¬ bndP c := fun hb => by first | exact nd_t g15 hb.1.1.1 | exact nd_t g21 hb.1.1.2 | (rw [hb.1.2.2] at h47; cases h47) | (have h9 := hb.1.2.1; simp only [List.length_map] at *; omega)
  refine AW.xwL 4 rfl (.cons XW.reA (.cons XW.reA (.cons XW.reA (.cons XW.reA (.cons XW.reA (.cons XW.reA (.cons XW.reA (.cons XW.reA (.cons XW.reA (.cons (XW.nilU (sz := 2)) (.cons XW.reA (.cons XW.reA (.cons XW.reA (.cons XW.reA (.cons XW.reA (.cons XW.reA (.cons XW.reA (.cons XW.reA (.cons XW.reA (.cons XW.reA (.cons XW.reA (.cons XW.reA (.cons XW.reA (.cons (XW.nilU (sz := 1)) (.cons (XW.nilU (sz := 5)) (.cons XW.reA .nil)))))))))))))))))))))))))) ?_
  refine AW.reg (Z12 (r := .g [_, _, _, _, _, _, _, _, _, _, _, _, _, _, _, _, _, _, _, _, _, _, _, _, _, _]) Fx.ty51 ?_)
  refine Z15 (r := [_, _, _, _, _, _, _, _, _, _, _, _, _, _, _, _, _, _, _, _, _, _, _, _, _, _]) Fx.ty51 ?_
  refine sB ?_
  refine AW.ret ?_
  exact fin_x (x := .tup [_, _]) (H) (.cellL rfl rfl Fx.ty51 rfl rfl (.tmp rfl .nil)) rfl (fun _ _ h => h) (⟨⟨bdN c 0, b2e (b := bdN c 0) (decide_eq_false hno).symm, fun h => absurd h hno⟩, rfl⟩)
 refine Z6 Fx.fl32_2 ?_
 refine Z5 Fx.ty25 ?_
 refine Z28 Fx.un25 ?_
 refine Z6 Fx.fl32_1 ?_
 refine Z5 Fx.ty24 ?_
 refine Z28 Fx.un24 ?_
 refine SeqK.on (q_neq rfl rfl rfl) rfl rfl rfl rfl rfl ?_
 refine Z7 ?_
 refine Z19 (fun g42 => ?_) (fun g42 => ?_)
 ·
  iterate 4 refine SeqK.off rfl rfl rfl rfl rfl rfl ?_
  refine Z4 ?_
  refine Z3 (AW.condT rfl ?_)
  refine AW.seq ?_
  have hno : ¬ bndP c := fun hb => by first | exact nd_t g15 hb.1.1.1 | exact nd_t g21 hb.1.1.2 | (rw [hb.1.2.2] at h47; cases h47) | (have h9 := hb.1.2.1; simp only [List.length_map] at *; omega)
  refine AW.xwL 4 rfl (.cons XW.reA (.cons XW.reA (.cons XW.reA (.cons XW.reA (.cons XW.reA (.cons XW.reA (.cons XW.reA (.cons XW.reA (.cons XW.reA (.cons (XW.nilU (sz := 2)) (.cons XW.reA (.cons XW.reA (.cons XW.reA (.cons XW.reA (.cons XW.reA (.cons XW.reA (.cons XW.reA (.cons XW.reA (.cons XW.reA (.cons XW.reA (.cons XW.reA (.cons XW.reA (.cons XW.reA (.cons (XW.nilU (sz := 1)) (.cons (XW.nilU (sz := 5)) (.cons XW.reA .nil)))))))))))))))))))))))))) ?_
  refine AW.reg (Z12 (r := .g [_, _, _, _, _, _, _, _, _, _, _, _, _, _, _, _, _, _, _, _, _, _, _, _, _, _]) Fx.ty51 ?_)
  refine Z15 (r := [_, _, _, _, _, _, _, _, _, _, _, _, _, _, _, _, _, _, _, _, _, _, _, _, _, _]) Fx.ty51 ?_
  refine sB ?_
  refine AW.ret ?_
  exact fin_x (x := .tup [_, _]) (H) (.cellL rfl rfl Fx.ty51 rfl rfl (.tmp rfl .nil)) rfl (fun _ _ h => h) (⟨⟨bdN c 0, b2e (b := bdN c 0) (decide_eq_false hno).symm, fun h => absurd h hno⟩, rfl⟩)
 refine Z6 Fx.fl32_3 ?_
 refine Z37 (r := .g [_, _, _, _, _, _, _, _]) Fx.ty30 ?_
 refine SeqK.on (q_call _ rfl Fx.fn12 rfl (binary_any 8 c.wh (by omega) o6) rfl) rfl rfl rfl rfl rfl ?_
 refine SeqK.on (q_not rfl rfl) rfl rfl rfl rfl rfl ?_
 refine Z7 ?_
 refine Z3 ?_
 refine AW.cond _ rfl (fun h47 => ?_) (fun h47 => ?_)
 ·
  refine AW.seq ?_
  have hno : ¬ bndP c := fun hb => by first | exact nd_t g15 hb.1.1.1 | exact nd_t g21 hb.1.1.2 | (rw [hb.1.2.2] at h47; cases h47) | (have h9 := hb.1.2.1; simp only [List.length_map] at *; omega)
  refine AW.xwL 4 rfl (.cons XW.reA (.cons XW.reA (.cons XW.reA (.cons XW.reA (.cons XW.reA (.cons XW.reA (.cons XW.reA (.cons XW.reA (.cons XW.reA (.cons (XW.nilU (sz := 2)) (.cons XW.reA (.cons XW.reA (.cons XW.reA (.cons XW.reA (.cons XW.reA (.cons XW.reA (.cons XW.reA (.cons XW.reA (.cons XW.reA (.cons XW.reA (.cons XW.reA (.cons XW.reA (.cons XW.reA (.cons (XW.nilU (sz := 1)) (.cons (XW.nilU (sz := 5)) (.cons XW.reA .nil)))))))))))))))))))))))))) ?_
  refine AW.reg (Z12 (r := .g [_, _, _, _, _, _, _, _, _, _, _, _, _, _, _, _, _, _, _, _, _, _, _, _, _, _]) Fx.ty51 ?_)
  refine Z15 (r := [_, _, _, _, _, _, _, _, _, _, _, _, _, _, _, _, _, _, _, _, _, _, _, _, _, _]) Fx.ty51 ?_
  refine sB ?_
  refine AW.ret ?_
  exact fin_x (x := .tup [_, _]) (H) (.cellL rfl rfl Fx.ty51 rfl rfl (.tmp rfl .nil)) rfl (fun _ _ h => h) (⟨⟨bdN c 0, b2e (b := bdN c 0) (decide_eq_false hno).symm, fun h => absurd h hno⟩, rfl⟩)
 refine AW.skip (AW.seq (sR (sB ?_)))
 refine AW.block ?_
 refine AW.tipL 4 23 3 1 rfl rfl (fun k0 hk0 => ?_)
 refine AW.tipL 4 9 66 2 rfl rfl (fun k8 hk8 => ?_)
 refine AW.tipL 4 24 95 5 rfl rfl (fun k9 hk9 => ?_)
 obtain ⟨n2, n3⟩ := upd_lt hk8
 obtain ⟨n4, n5⟩ := upd_lt hk9
 obtain ⟨n6, n7⟩ := upd_lt n5
 refine AW.loop (fun (i : Nat) s => ∃ (ka kf kv : Nat) (za zf zv : List (List E.T)), (i ≤ c.frm.length ∧ T3 H ka kf kv ∧ za = (c.frm.take i).map i64T ∧ zf = (frP c.sch (c.frm.take i) (c.al.take i)).map srT ∧ zv = (vrP c.sch (c.frm.take i)).map vrT ∧ ∀ j (h : j < c.frm.length), j < i → frR c j h) ∧ s = ⟨135, sp [(1, .lp 1 0), (2, .lp 2 0), (3, .c (bC false)), (4, .lp 4 0), (5, iX .i64 ((i : Nat) : Int))], lv [(1, .box (zCs c)), (2, .box [.t (.v (.int .i64 0)), .t (.v (.string ⟨#[]⟩)), .t (.v (.slice none 0 0)), .t (.v (.slice none 0 0)), .t (.v (.slice none 0 0)), .t (.v (.slice none 0 0)), .t (.v (.slice none 0 0)), .t (.v (.slice none 0 0)), .t (.v (.slice none 0 0)), .t (.v (.slice none 0 0)), .t (.v (.int .i64 0)), .t (.v (.string ⟨#[]⟩)), .t (.v (.string ⟨#[]⟩)), .t (.v (.int .i64 0)), .t (.v (.int .i64 0)), .t (.v (.int .i64 0)), .t (.v (.string ⟨#[]⟩)), .t (.v (.slice none 0 0)), .t (.v (.slice none 0 0)), .t (.v (.slice none 0 0)), .t (.v (.int .i64 0)), .t (.v (.string ⟨#[]⟩)), .t (.v (.int .i64 0)), .t (.v (.slice none 0 0)), .t (.v (.slice none 0 0)), .t (.v (.slice none 0 0))]), (4, .box [.t (.v (.int .i64 5)), .t (.v (.string ⟨#[]⟩)), .t (.v (.slice none 0 0)), .t (.v (.slice none 0 0)), .t (.v (.slice none 0 0)), .t (.v (.slice none 0 0)), .t (.v (.slice none 0 0)), .t (.v (.slice none 0 0)), .t (.v (.slice none 0 0)), .ts kf .ne 2 zf, .t (.v (.int .i64 c.wh.op)), .t (.v (.string c.wh.tb)), .t (.v (.string c.wh.nm)), .t (.v (.int .i64 c.wh.ix)), .t (.v (.int .i64 c.wh.vk)), .t (.v (.int .i64 c.wh.vn)), .t (.v (.string c.wh.vs)), .t (.sl .un 8 (c.wh.args.map exT')), .t (.v (.slice none 0 0)), .t (.v (.slice none 0 0)), .t (.v (.int .i64 0)), .t (.v (.string ⟨#[]⟩)), .t (.v (.int .i64 0)), .ts ka .ne 1 za, .ts kv .ne 5 zv, .t (.v (.slice none 0 0))])], upd (upd (upd H ka (some (.tip 3 1 za.length))) kf (some (.tip 66 2 zf.length))) kv (some (.tip 95 5 zv.length))⟩) (fun i => c.frm.length - i) 0 ⟨_, by exact Wk.keep 135 _ _ _ rfl ⟨rfl, rfl, rfl, rfl, rfl, trivial⟩ ⟨rfl, rfl, rfl, trivial⟩ (fun _ _ h => h) rfl, k0, k8, k9, [], [], [], ⟨Nat.zero_le _, ⟨hk0, n3, n7, n2.symm, n6.symm, n4.symm⟩, rfl, rfl, rfl, fun _ _ h => absurd h (by omega)⟩, rfl⟩ (fun i s hs => ?_)
 obtain ⟨ka, kf, kv, za, zf, zv, ⟨hi0, hT, hza, hzf, hzv, hU⟩, rfl⟩ := hs
 refine AW.seq (sR (sM ?_))
 refine Z1 Fx.fl32_1 ?_
 refine Z0 Fx.ty24 ?_
 refine Z14 Fx.un24 ?_
 refine Z10 ?_
 refine Z3 ?_
 refine AW.condD rfl ?_ ?_ <;> intro h53
 ·
  refine AW.skip (AW.seq (AW.block (AW.seq (AW.seq ?_))))
  have hi : i < c.frm.length := by rw [List.length_map] at h53; omega
  have hia : i < c.al.length := by simp only [List.length_map] at *; omega
  have hga : c.al.getD i ⟨#[]⟩ = c.al[i] := by rw [List.getD_eq_getElem?_getD, List.getElem?_eq_getElem hia]; rfl
  refine AW.draw Fx.mo ?_
  refine Z23 Fx.fl32_1 ?_
  refine Z20 Fx.ty24 ?_
  refine Z18 ?_
  refine Z27 Fx.sl24 (idx_map (f := i64T) hi) ?_
  refine Z26 (.a _) Fx.ty3 ?_
  refine LexK.q (q_lss rfl rfl rfl) rfl rfl rfl ?_
  refine LexK.qD (q_mvC rfl rfl) rfl rfl rfl (fun g62 => ?_) (fun g62 => ?_)
  ·
   iterate 9 refine LexK.off rfl rfl rfl rfl rfl rfl ?_
   refine Z43 ?_
   refine Z18 ?_
   iterate 7 refine LexK.off rfl rfl rfl rfl rfl rfl ?_
   refine Z43 ?_
   refine Z30 ?_
   refine AW.condT rfl ?_
   refine AW.seq ?_
   have hno : ¬ bndP c := fun hb => by have h9 := hb.2.1 i hi; rw [frR, hga] at h9; simp only [List.length_map] at *; omega
   refine AW.xwL 4 rfl (.cons XW.reA (.cons XW.reA (.cons XW.reA (.cons XW.reA (.cons XW.reA (.cons XW.reA (.cons XW.reA (.cons XW.reA (.cons XW.reA (.cons (XW.ts.trans (XW.es hzf)) (.cons XW.reA (.cons XW.reA (.cons XW.reA (.cons XW.reA (.cons XW.reA (.cons XW.reA (.cons XW.reA (.cons XW.reA (.cons XW.reA (.cons XW.reA (.cons XW.reA (.cons XW.reA (.cons XW.reA (.cons (XW.ts.trans (XW.es hza)) (.cons (XW.ts.trans (XW.es hzv)) (.cons XW.reA .nil)))))))))))))))))))))))))) ?_
   refine AW.reg (Z12 (r := .g [_, _, _, _, _, _, _, _, _, _, _, _, _, _, _, _, _, _, _, _, _, _, _, _, _, _]) Fx.ty51 ?_)
   refine Z15 (r := [_, _, _, _, _, _, _, _, _, _, _, _, _, _, _, _, _, _, _, _, _, _, _, _, _, _]) Fx.ty51 ?_
   refine sB ?_
   refine AW.ret ?_
   exact fin_x (x := .tup [_, _]) (H) (.cellL rfl rfl Fx.ty51 rfl rfl (.tmp rfl .nil)) rfl (hT.up) (⟨⟨bdN c i, b2e (b := bdN c i) (decide_eq_false hno).symm, fun h => absurd h hno⟩, rfl⟩)
  refine Z24 Fx.fl32_1 ?_
  refine Z21 Fx.ty24 ?_
  refine Z29 ?_
  refine Z48 Fx.sl24 (idx_map (f := i64T) hi) ?_
  refine Z39 (.a _) Fx.ty3 ?_
  refine Z24 Fx.fl32_0 ?_
  refine Z21 Fx.ty23 ?_
  refine LexK.on (q_len rfl Fx.un23 rfl) rfl rfl rfl rfl rfl ?_
  refine LexK.on (q_geq rfl rfl rfl) rfl rfl rfl rfl rfl ?_
  refine Z31 ?_
  refine LexK.qD (q_mvC rfl rfl) rfl rfl rfl (fun g73 => ?_) (fun g73 => ?_)
  ·
   iterate 7 refine LexK.off rfl rfl rfl rfl rfl rfl ?_
   refine Z43 ?_
   refine Z30 ?_
   refine AW.condT rfl ?_
   refine AW.seq ?_
   have hno : ¬ bndP c := fun hb => by have h9 := hb.2.1 i hi; rw [frR, hga] at h9; simp only [List.length_map] at *; omega
   refine AW.xwL 4 rfl (.cons XW.reA (.cons XW.reA (.cons XW.reA (.cons XW.reA (.cons XW.reA (.cons XW.reA (.cons XW.reA (.cons XW.reA (.cons XW.reA (.cons (XW.ts.trans (XW.es hzf)) (.cons XW.reA (.cons XW.reA (.cons XW.reA (.cons XW.reA (.cons XW.reA (.cons XW.reA (.cons XW.reA (.cons XW.reA (.cons XW.reA (.cons XW.reA (.cons XW.reA (.cons XW.reA (.cons XW.reA (.cons (XW.ts.trans (XW.es hza)) (.cons (XW.ts.trans (XW.es hzv)) (.cons XW.reA .nil)))))))))))))))))))))))))) ?_
   refine AW.reg (Z12 (r := .g [_, _, _, _, _, _, _, _, _, _, _, _, _, _, _, _, _, _, _, _, _, _, _, _, _, _]) Fx.ty51 ?_)
   refine Z15 (r := [_, _, _, _, _, _, _, _, _, _, _, _, _, _, _, _, _, _, _, _, _, _, _, _, _, _]) Fx.ty51 ?_
   refine sB ?_
   refine AW.ret ?_
   exact fin_x (x := .tup [_, _]) (H) (.cellL rfl rfl Fx.ty51 rfl rfl (.tmp rfl .nil)) rfl (hT.up) (⟨⟨bdN c i, b2e (b := bdN c i) (decide_eq_false hno).symm, fun h => absurd h hno⟩, rfl⟩)
  refine Z24 Fx.fl32_2 ?_
  refine Z21 Fx.ty25 ?_
  refine Z29 ?_
  refine Z48 Fx.sl25 (idx_map (f := sT) hia) ?_
  refine Z39 (.a _) Fx.ty9 ?_
  refine LexK.on (q_lenS rfl Fx.un9 rfl) rfl rfl rfl rfl rfl ?_
  refine LexK.on (q_gtr rfl rfl rfl) rfl rfl rfl rfl rfl ?_
  refine Z31 ?_
  refine Z30 ?_
  refine AW.condD rfl ?_ ?_ <;> intro h81
  ·
   refine AW.seq ?_
   have hno : ¬ bndP c := fun hb => by have h9 := hb.2.1 i hi; rw [frR, hga] at h9; simp only [List.length_map] at *; omega
   refine AW.xwL 4 rfl (.cons XW.reA (.cons XW.reA (.cons XW.reA (.cons XW.reA (.cons XW.reA (.cons XW.reA (.cons XW.reA (.cons XW.reA (.cons XW.reA (.cons (XW.ts.trans (XW.es hzf)) (.cons XW.reA (.cons XW.reA (.cons XW.reA (.cons XW.reA (.cons XW.reA (.cons XW.reA (.cons XW.reA (.cons XW.reA (.cons XW.reA (.cons XW.reA (.cons XW.reA (.cons XW.reA (.cons XW.reA (.cons (XW.ts.trans (XW.es hza)) (.cons (XW.ts.trans (XW.es hzv)) (.cons XW.reA .nil)))))))))))))))))))))))))) ?_
   refine AW.reg (Z12 (r := .g [_, _, _, _, _, _, _, _, _, _, _, _, _, _, _, _, _, _, _, _, _, _, _, _, _, _]) Fx.ty51 ?_)
   refine Z15 (r := [_, _, _, _, _, _, _, _, _, _, _, _, _, _, _, _, _, _, _, _, _, _, _, _, _, _]) Fx.ty51 ?_
   refine sB ?_
   refine AW.ret ?_
   exact fin_x (x := .tup [_, _]) (H) (.cellL rfl rfl Fx.ty51 rfl rfl (.tmp rfl .nil)) rfl (hT.up) (⟨⟨bdN c i, b2e (b := bdN c i) (decide_eq_false hno).symm, fun h => absurd h hno⟩, rfl⟩)
  refine AW.skip (AW.seq ?_)
  have hu : c.frm[i].toNat < c.sch.length := by simp only [List.length_map] at *; omega
  have eu := tbAt_get hu
  have hidx : (c.sch.map tbT)[c.frm[i].toNat]? = some (tbT (tbAt c.sch c.frm[i])) := by rw [List.getElem?_map, List.getElem?_eq_getElem hu, ← eu]; rfl
  have hcl : (tbAt c.sch c.frm[i]).cols.length ≤ 1000000 := Nat.le_trans (ss_cols (nd_f g15) _) (by omega)
  have hvl := vrP_len (nd_f g15) (c.frm.take i)
  rw [List.length_take] at hvl
  refine AW.draw Fx.mo ?_
  refine Z23 Fx.fl32_0 ?_
  refine Z20 Fx.ty23 ?_
  refine Z23 Fx.fl32_1 ?_
  refine Z20 Fx.ty24 ?_
  refine Z18 ?_
  refine Z27 Fx.sl24 (idx_map (f := i64T) hi) ?_
  refine Z26 (.a _) Fx.ty3 ?_
  refine Z27 Fx.sl23 (hidx) ?_
  refine Z26 (.g [_, _, _, _, _]) Fx.ty64 ?_
  refine LexK.r (b_alloc (r := [_, _, _, _, _]) rfl rfl Fx.ze64 rfl rfl rfl rfl) rfl ?_
  refine LexK.r (b_store (r := [_, _, _, _, _]) rfl rfl Fx.ty64 rfl rfl rfl rfl rfl rfl) rfl ?_
  refine Z30 ?_
  refine AW.seq ?_
  rw [rot hT.ab hT.ac]
  refine AW.drawO [0, 1, 2, 3, 4, 5, 6, 7, 8, 9, 10] Fx.mo (by kernel_rfl) ?_
  refine Z32 Fx.fl51_2 ?_
  refine Z40 Fx.ty24 ?_
  refine Z32 Fx.fl32_1 ?_
  refine Z40 Fx.ty24 ?_
  refine LexO.q rfl (by kernel_rfl) (q_mvC rfl rfl) rfl rfl rfl ?_
  refine LexO.q rfl (by kernel_rfl) (q_index _ rfl Fx.sl24 rfl rfl (by omega) (idx_map (f := i64T) hi)) rfl rfl rfl ?_
  refine LexO.q rfl (by kernel_rfl) (q_load (.a _) rfl Fx.ty3 rfl rfl rfl) rfl rfl rfl ?_
  refine LexO.q rfl (by kernel_rfl) (q_buildSlice _ rfl Fx.el24 rfl (by decide) rfl) rfl rfl rfl ?_
  refine LexO.app1 rfl (by kernel_rfl) (by kernel_rfl) (by kernel_rfl) rfl (upd_ne3 hT.ha hT.ab hT.ac) rfl Fx.el24 rfl rfl (by rw [hza]; simp only [List.length_map, List.length_take, List.length_cons, List.length_nil]; omega) rfl rfl (fun k100 hk100 => ?_)
  refine Z32 Fx.fl51_2 ?_
  refine LexO.r rfl (by kernel_rfl) (b_store (r := [_, _, _, _, _, _, _, _, _, _, _, _, _, _, _, _, _, _, _, _, _, _, _, _, _, _]) rfl rfl Fx.ty24 rfl rfl rfl rfl rfl rfl) rfl ?_
  refine LexO.nil (by kernel_rfl) ?_
  refine AW.seq ?_
  obtain ⟨m1, m2, m3⟩ := lt3 hk100
  rw [rot hT.bc m2.symm]
  refine AW.drawO [0, 1, 2, 3, 4, 5, 6, 7, 8, 9, 10, 11, 12, 13, 14, 15] Fx.mo (by kernel_rfl) ?_
  refine Z32 Fx.fl51_0 ?_
  refine Z32 Fx.fl47_6 ?_
  refine Z40 Fx.ty44 ?_
  refine Z32 Fx.fl64_0 ?_
  refine Z40 Fx.ty9 ?_
  refine Z32 Fx.fl32_2 ?_
  refine Z40 Fx.ty25 ?_
  refine LexO.q rfl (by kernel_rfl) (q_mvC rfl rfl) rfl rfl rfl ?_
  refine LexO.q rfl (by kernel_rfl) (q_index _ rfl Fx.sl25 rfl rfl (by omega) (idx_map (f := sT) hia)) rfl rfl rfl ?_
  refine LexO.q rfl (by kernel_rfl) (q_load (.a _) rfl Fx.ty9 rfl rfl rfl) rfl rfl rfl ?_
  refine LexO.q rfl (by kernel_rfl) (q_build2 (zs := [_, _]) (r := [_, _]) [(0, 1), (1, 1)] _ rfl Fx.ze66 rfl Fx.bp66 rfl rfl rfl rfl) rfl rfl rfl ?_
  refine LexO.q rfl (by kernel_rfl) (q_buildSlice _ rfl Fx.el44 rfl (by decide) rfl) rfl rfl rfl ?_
  refine LexO.app1 rfl (by kernel_rfl) (by kernel_rfl) (by kernel_rfl) rfl (upd_ne3 hT.hb hT.bc m2.symm) rfl Fx.el44 rfl rfl (by rw [hzf]; simp only [List.length_map, List.length_zipWith, List.length_take, List.length_cons, List.length_nil]; omega) rfl rfl (fun k114 hk114 => ?_)
  refine Z32 Fx.fl51_0 ?_
  refine Z32 Fx.fl47_6 ?_
  refine LexO.r rfl (by kernel_rfl) (b_store (r := [_, _, _, _, _, _, _, _, _, _, _, _, _, _, _, _, _, _, _, _, _, _, _, _, _, _]) rfl rfl Fx.ty44 rfl rfl rfl rfl rfl rfl) rfl ?_
  refine LexO.nil (by kernel_rfl) ?_
  obtain ⟨m4, m5, m6⟩ := lt3 hk114
  rw [rot m3.symm m5.symm]
  refine AW.drawO [0, 1, 2, 3, 4, 5, 6] Fx.mo (by kernel_rfl) ?_
  refine Z32 Fx.fl51_3 ?_
  refine Z40 Fx.ty48 ?_
  refine LexO.r rfl (by kernel_rfl) (b_load (r := .g [_, _, _, _, _]) rfl Fx.ty64 rfl rfl rfl rfl rfl rfl) rfl ?_
  refine LexO.q rfl (by kernel_rfl) (q_call _ rfl Fx.fn13 rfl (variables_any _ hcl) rfl) rfl rfl rfl ?_
  refine LexO.app1 rfl (by kernel_rfl) (by kernel_rfl) (by kernel_rfl) rfl (upd_ne3 hT.hc m3.symm m5.symm) rfl Fx.el48 rfl rfl (by rw [hzv]; simp only [List.length_map]; have := ss_cols (nd_f g15) c.frm[i]; omega) rfl rfl (fun k121 hk121 => ?_)
  refine Z32 Fx.fl51_3 ?_
  refine LexO.r rfl (by kernel_rfl) (b_store (r := [_, _, _, _, _, _, _, _, _, _, _, _, _, _, _, _, _, _, _, _, _, _, _, _, _, _]) rfl rfl Fx.ty48 rfl rfl rfl rfl rfl rfl) rfl ?_
  refine LexO.nil (by kernel_rfl) ?_
  refine AW.reg (sM ?_)
  refine Z2 ?_
  refine sB ?_
  obtain ⟨m7, m8, m9⟩ := lt3 hk121
  exact ⟨i + 1, _, by exact Wk.keep 135 _ _ _ rfl ⟨rfl, rfl, rfl, rfl, rfl, trivial⟩ ⟨rfl, rfl, rfl, trivial⟩ (fun _ _ h => h) rfl, by omega, k100, k114, k121, za ++ [i64T c.frm[i]], zf ++ [srT ((tbAt c.sch c.frm[i]).nm, c.al[i])], zv ++ ((tbAt c.sch c.frm[i]).cols.map vrOf).map vrT, ⟨hi, ⟨m1, m4, m7, m6.symm, m8.symm, m9.symm⟩, by rw [hza, take_put hi, List.map_append]; rfl, by rw [hzf, frP_take hi hia, List.map_append]; rfl, by rw [hzv, vrP, vrP, flat_take hi, List.map_append], upS (Q := fun j h => frR c j h) hi hU ⟨⟨by omega, by simp only [List.length_map] at *; omega⟩, by rw [hga]; omega⟩⟩, rfl⟩
 refine AW.exit ?_
 refine eth_e ?_
 refine eth_e ?_
 refine exit_here ?_
 refine AW.seq ?_
 have hc3 : c.frm.length ≤ 3 := by simp only [List.length_map] at *; omega
 obtain rfl : i = c.frm.length := by simp only [List.length_map] at *; omega
 rw [List.take_length] at hza hzv
 rw [List.take_length, List.take_of_length_le (by simp only [List.length_map] at *; omega)] at hzf
 refine AW.xwL 4 rfl (.cons XW.reA (.cons XW.reA (.cons XW.reA (.cons XW.reA (.cons XW.reA (.cons XW.reA (.cons XW.reA (.cons XW.reA (.cons XW.reA (.cons (XW.ts.trans (XW.es hzf)) (.cons XW.reA (.cons XW.reA (.cons XW.reA (.cons XW.reA (.cons XW.reA (.cons XW.reA (.cons XW.reA (.cons XW.reA (.cons XW.reA (.cons XW.reA (.cons XW.reA (.cons XW.reA (.cons XW.reA (.cons (XW.ts.trans (XW.es hza)) (.cons (XW.ts.trans (XW.es hzv)) (.cons XW.reA .nil)))))))))))))))))))))))))) ?_
 refine AW.draw Fx.mo ?_
 refine Z45 (r := .g [_, _, _, _, _, _, _, _, _, _, _, _, _, _, _, _, _, _, _, _, _, _, _, _, _, _]) Fx.ty51 ?_
 refine Z23 Fx.fl32_0 ?_
 refine Z20 Fx.ty23 ?_
 refine Z45 (r := .g [_, _, _, _, _, _, _, _, _, _, _, _, _, _, _, _, _, _, _, _, _, _, _, _, _, _]) Fx.ty51 ?_
 refine Z23 Fx.fl32_3 ?_
 refine Z45 (r := .g [_, _, _, _, _, _, _, _]) Fx.ty30 ?_
 refine LexK.q (q_buildSlice _ rfl Fx.el24 rfl (by decide) rfl) rfl rfl rfl ?_
 refine Z23 Fx.fl32_1 ?_
 refine Z20 Fx.ty24 ?_
 refine LexK.q (q_len rfl Fx.un24 rfl) rfl rfl rfl ?_
 refine LexK.q (q_cut 0 c.frm.length ((num3 c.frm.length).map i64T) rfl Fx.sl24 rfl (by first | rfl | exact ⟨_, rfl⟩) (by simp only [List.length_map]; first | rfl | exact ⟨_, rfl⟩) (by omega) (by show c.frm.length ≤ 3; omega) (by rw [List.drop_zero, num3, List.map_take]; rfl)) rfl rfl rfl ?_
 refine LexK.q (q_call _ rfl Fx.fn14 rfl (within_any c.sch .un (bdM c) (num3 c.frm.length) .un (fun t ht => (o2 t ht).cols) (fun j h => (hU j h h).1) (by show c.frm.length ≤ 1000; omega) (by show (List.take _ _).length ≤ _; rw [List.length_take]; omega) c.wh o6) rfl) rfl rfl rfl ?_
 refine LexK.r (b_store (r := [_, _, _, _, _, _, _, _, _, _, _, _, _, _, _, _, _, _, _, _, _, _, _, _, _, _]) rfl rfl Fx.ty51 rfl rfl rfl rfl rfl rfl) rfl ?_
 refine Z36 ?_
 refine Z30 ?_
 refine AW.ret ?_
 exact fin_x (x := .tup [_, _]) (H) (.cellL rfl rfl Fx.ty51 rfl rfl (.tmp rfl .nil)) rfl (hT.up) (⟨⟨bdM c, b2e (b := bdM c) (bI ⟨fun h => ⟨⟨⟨nd_f g15, nd_f g21⟩, ⟨by simp only [List.length_map] at *; omega, by simp only [List.length_map] at *; omega⟩, by simpa using h47⟩, fun j h => hU j h h, h⟩, fun h => h.2.2⟩), fun _ => rfl⟩, rfl⟩)

end Go.Proofs.YtihlgigaejhilaaGreatDoor.W
namespace Go.Proofs.YtihlgigaejhilaaGreatDoor.W
open Go.RowKit E
/-! equality by the program, searches in lists by a function -/
set_option maxHeartbeats 4000000 in
set_option maxRecDepth 20000 in
theorem eqf_any (a b : List Ex) (z z' : Nz) (hl : a.length ≤ 17592186044000) (ih : ∀ x ∈ a, ∀ y, Pure Tryz.prog 58 [exC x, exC y] (.c (bC (decide (x = y))))) : Pure Tryz.prog 89 [exsC z a, exsC z' b, .a (.fn 58 [])] (.c (bC (decide (a = b)))) := by
 intro H
 refine Spec.enter Tryz.func89 rfl ?_
 refine AW.wk (Wk.keep 32 [(0, .c (exsC z a)), (1, .c (exsC z' b)), (2, .c (.a (.fn 58 [])))] [] (H) rfl ⟨rfl, rfl, rfl, trivial⟩ trivial (fun _ _ h => h) rfl) ?_
 refine sR (sB ?_)
 refine AW.seq (sR (sM ?_))
 refine Z14 Fx.un28 ?_
 refine sM ?_
 refine Z14 Fx.un28 ?_
 refine Z49 ?_
 refine Z3 ?_
 refine AW.condD rfl ?_ ?_ <;> intro h14
 ·
  refine sR (sB ?_)
  refine AW.ret ?_
  exact f1 (q := ⟨bCe (dF (fun h => by subst h; simp only [List.length_map] at *; omega)), rfl⟩)
 refine AW.skip (AW.seq (AW.seq ?_))
 have hlen : a.length = b.length := by simp only [List.length_map] at *; omega
 refine AW.reg (sM ?_)
 refine Z14 Fx.un28 ?_
 refine sM ?_
 refine Z3 (AW.block ?_)
 refine AW.loop (fun (i : Nat) s => (i ≤ a.length ∧ ∀ j (h : j < a.length), j < i → a[j]? = b[j]?) ∧ s = ⟨32, sp [(0, .c (exsC z a)), (1, .c (exsC z' b)), (2, .c (.a (.fn 58 []))), (6, .c (bC false)), (15, .c (exsC z a)), (16, iX .i64 (((a.map exT').length : Nat) : Int)), (17, iX .i64 ((i : Nat) : Int))], lv [], H⟩) (fun i => a.length - i) 0 ⟨_, by exact Wk.keep 32 _ _ _ rfl ⟨rfl, rfl, rfl, rfl, rfl, rfl, rfl, trivial⟩ trivial (fun _ _ h => h) rfl, ⟨Nat.zero_le _, up0⟩, rfl⟩ (fun i s hs => ?_)
 obtain ⟨⟨hi0, hU⟩, rfl⟩ := hs
 refine sR (Z10 ?_)
 refine Z3 (AW.seq ?_)
 refine AW.condD rfl ?_ ?_ <;> intro h18
 ·
  have hi : i < a.length := by rw [List.length_map] at h18; omega
  have hib : i < b.length := by omega
  refine AW.skip (AW.seq (AW.block (sR (sM ?_))))
  refine Z9 Fx.sl28 (idx_ex hi) ?_
  refine Z11 (.g [_, _, _, _, _, _, _, _]) Fx.ty30 ?_
  refine Z25 (r := [_, _, _, _, _, _, _, _]) Fx.ze30 ?_
  refine sA ?_
  refine Z15 (r := [_, _, _, _, _, _, _, _]) Fx.ty30 ?_
  refine Z3 (sR (sM ?_))
  refine sM ?_
  refine Z9 Fx.sl28 (idx_ex hib) ?_
  refine Z11 (.g [_, _, _, _, _, _, _, _]) Fx.ty30 ?_
  refine Z25 (r := [_, _, _, _, _, _, _, _]) Fx.ze30 ?_
  refine Z15 (r := [_, _, _, _, _, _, _, _]) Fx.ty30 ?_
  refine Z3 (sR (sM ?_))
  refine Z12 (r := .g [_, _, _, _, _, _, _, _]) Fx.ty30 ?_
  refine Z12 (r := .g [_, _, _, _, _, _, _, _]) Fx.ty30 ?_
  refine SeqK.r (g_callV (f := 58) (cs := []) rfl rfl Fx.fn58 rfl (ih _ (List.getElem_mem hi) _ _) rfl rfl rfl) rfl ?_
  refine Z33 ?_
  refine Z3 ?_
  refine AW.cond _ rfl (fun h30 => ?_) (fun h30 => ?_)
  ·
   refine sR (sB ?_)
   refine AW.ret ?_
   exact f1 (q := ⟨bCe (dF (fun h => nd_t h30 (by subst h; rfl))), rfl⟩)
  refine AW.skip (AW.reg (Z2 ?_))
  refine sM ?_
  refine Z3 ?_
  exact ⟨i + 1, _, by exact Wk.keep 32 _ _ _ rfl ⟨rfl, rfl, rfl, rfl, rfl, rfl, rfl, trivial⟩ trivial (fun _ _ h => h) rfl, by omega, ⟨hi, upS hi hU (by rw [List.getElem?_eq_getElem hi, List.getElem?_eq_getElem hib, nd_f h30])⟩, rfl⟩
 refine AW.exit ?_
 refine eth_e ?_
 refine eth_e ?_
 refine exit_here ?_
 refine sR (sB ?_)
 refine AW.ret ?_
 exact f1 (q := ⟨bCe (dT (eq_up hlen (upE hU (by rw [List.length_map] at h18; omega)))), rfl⟩)

set_option maxHeartbeats 4000000 in
set_option maxRecDepth 20000 in
theorem equal_of (a b : Ex) (ha : okE a) (ih : ∀ x ∈ a.args, ∀ y, Pure Tryz.prog 58 [exC x, exC y] (.c (bC (decide (x = y))))) : Pure Tryz.prog 58 [exC a, exC b] (.c (bC (decide (a = b)))) := by
 intro H
 refine Spec.enter Tryz.func58 rfl ?_
 refine AW.wk (Wk.keep 45 [(0, .c (exC a)), (1, .c (exC b))] [] (H) rfl ⟨rfl, rfl, trivial⟩ trivial (fun _ _ h => h) rfl) ?_
 refine sR (Z16 (r := [_, _, _, _, _, _, _, _]) ?_)
 refine Z16 (r := [_, _, _, _, _, _, _, _]) ?_
 refine sB ?_
 refine sR (Z1 Fx.fl30_0 ?_)
 refine Z0 Fx.ty3 ?_
 refine Z1 Fx.fl30_0 ?_
 refine Z0 Fx.ty3 ?_
 refine Z8 ?_
 refine Z19 (fun g10 => ?_) (fun g10 => ?_)
 ·
  refine Z6 Fx.fl30_1 ?_
  refine Z5 Fx.ty9 ?_
  refine Z6 Fx.fl30_1 ?_
  refine Z5 Fx.ty9 ?_
  refine SeqK.on (q_eqlS rfl rfl rfl) rfl rfl rfl rfl rfl ?_
  refine Z4 ?_
  refine Z19 (fun g17 => ?_) (fun g17 => ?_)
  ·
   refine Z6 Fx.fl30_2 ?_
   refine Z5 Fx.ty9 ?_
   refine Z6 Fx.fl30_2 ?_
   refine Z5 Fx.ty9 ?_
   refine SeqK.on (q_eqlS rfl rfl rfl) rfl rfl rfl rfl rfl ?_
   refine Z4 ?_
   refine Z19 (fun g24 => ?_) (fun g24 => ?_)
   ·
    refine Z6 Fx.fl30_3 ?_
    refine Z5 Fx.ty3 ?_
    refine Z6 Fx.fl30_3 ?_
    refine Z5 Fx.ty3 ?_
    refine Z44 ?_
    refine Z4 ?_
    refine Z19 (fun g31 => ?_) (fun g31 => ?_)
    ·
     refine Z6 Fx.fl30_4 ?_
     refine Z37 (r := .g [_, _, _]) Fx.ty27 ?_
     refine Z6 Fx.fl30_4 ?_
     refine Z37 (r := .g [_, _, _]) Fx.ty27 ?_
     refine SeqK.on (q_eqlG [.int .i64 a.vk, .int .i64 a.vn, .string a.vs] [.int .i64 b.vk, .int .i64 b.vn, .string b.vs] rfl rfl rfl rfl rfl (by kernel_rfl) (fun w => eq25 _ _ _ _ _ _ w)) rfl rfl rfl rfl rfl ?_
     refine Z4 ?_
     refine SeqK.qB (q_mvC rfl rfl) rfl rfl rfl (fun g38 => ?_) (fun g38 => ?_)
     ·
      refine Z6 Fx.fl30_5 ?_
      refine Z5 Fx.ty28 ?_
      refine Z6 Fx.fl30_5 ?_
      refine Z5 Fx.ty28 ?_
      refine SeqK.on (q_call _ rfl Fx.fn89 rfl (Pure.arg (l := [exsC .un a.args, exsC .un b.args]) (r := []) XW.fn0 (eqf_any a.args b.args .un .un (okE_iff.1 ha).1.2.2.2 ih)) rfl) rfl rfl rfl rfl rfl ?_
      refine Z4 ?_
      refine sB ?_
      refine AW.ret ?_
      exact f1 (q := ⟨bCe (by first | exact dI ⟨fun h => (fun e5 : (a.vk = b.vk ∧ a.vn = b.vn) ∧ a.vs = b.vs => ex_ext g10 g17 g24 g31 e5.1.1 e5.1.2 e5.2 h) (by simpa using g38), fun h => by subst h; rfl⟩ | exact dF (fun h => by subst h; first | exact g31 rfl | exact g24 rfl | exact g17 rfl | exact g10 rfl | (simp at g38; done))), rfl⟩)
     iterate 5 refine SeqK.off rfl rfl rfl rfl rfl rfl ?_
     refine Z7 ?_
     refine sB ?_
     refine AW.ret ?_
     exact f1 (q := ⟨bCe (by first | exact dI ⟨fun h => (fun e5 : (a.vk = b.vk ∧ a.vn = b.vn) ∧ a.vs = b.vs => ex_ext g10 g17 g24 g31 e5.1.1 e5.1.2 e5.2 h) (by simpa using g38), fun h => by subst h; rfl⟩ | exact dF (fun h => by subst h; first | exact g31 rfl | exact g24 rfl | exact g17 rfl | exact g10 rfl | (simp at g38; done))), rfl⟩)
    iterate 5 refine SeqK.off rfl rfl rfl rfl rfl rfl ?_
    refine Z7 ?_
    refine sM ?_
    iterate 5 refine SeqK.off rfl rfl rfl rfl rfl rfl ?_
    refine Z7 ?_
    refine sB ?_
    refine AW.ret ?_
    exact f1 (q := ⟨bCe (by first | exact dI ⟨fun h => (fun e5 : (a.vk = b.vk ∧ a.vn = b.vn) ∧ a.vs = b.vs => ex_ext g10 g17 g24 g31 e5.1.1 e5.1.2 e5.2 h) (by simpa using g38), fun h => by subst h; rfl⟩ | exact dF (fun h => by subst h; first | exact g31 rfl | exact g24 rfl | exact g17 rfl | exact g10 rfl | (simp at g38; done))), rfl⟩)
   iterate 5 refine SeqK.off rfl rfl rfl rfl rfl rfl ?_
   refine Z7 ?_
   refine sM ?_
   iterate 5 refine SeqK.off rfl rfl rfl rfl rfl rfl ?_
   refine Z7 ?_
   refine sM ?_
   iterate 5 refine SeqK.off rfl rfl rfl rfl rfl rfl ?_
   refine Z7 ?_
   refine sB ?_
   refine AW.ret ?_
   exact f1 (q := ⟨bCe (by first | exact dI ⟨fun h => (fun e5 : (a.vk = b.vk ∧ a.vn = b.vn) ∧ a.vs = b.vs => ex_ext g10 g17 g24 g31 e5.1.1 e5.1.2 e5.2 h) (by simpa using g38), fun h => by subst h; rfl⟩ | exact dF (fun h => by subst h; first | exact g31 rfl | exact g24 rfl | exact g17 rfl | exact g10 rfl | (simp at g38; done))), rfl⟩)
  iterate 5 refine SeqK.off rfl rfl rfl rfl rfl rfl ?_
  refine Z7 ?_
  refine sM ?_
  iterate 5 refine SeqK.off rfl rfl rfl rfl rfl rfl ?_
  refine Z7 ?_
  refine sM ?_
  iterate 5 refine SeqK.off rfl rfl rfl rfl rfl rfl ?_
  refine Z7 ?_
  refine sM ?_
  iterate 5 refine SeqK.off rfl rfl rfl rfl rfl rfl ?_
  refine Z7 ?_
  refine sB ?_
  refine AW.ret ?_
  exact f1 (q := ⟨bCe (by first | exact dI ⟨fun h => (fun e5 : (a.vk = b.vk ∧ a.vn = b.vn) ∧ a.vs = b.vs => ex_ext g10 g17 g24 g31 e5.1.1 e5.1.2 e5.2 h) (by simpa using g38), fun h => by subst h; rfl⟩ | exact dF (fun h => by subst h; first | exact g31 rfl | exact g24 rfl | exact g17 rfl | exact g10 rfl | (simp at g38; done))), rfl⟩)
 iterate 5 refine SeqK.off rfl rfl rfl rfl rfl rfl ?_
 refine Z7 ?_
 refine sM ?_
 iterate 5 refine SeqK.off rfl rfl rfl rfl rfl rfl ?_
 refine Z7 ?_
 refine sM ?_
 iterate 5 refine SeqK.off rfl rfl rfl rfl rfl rfl ?_
 refine Z7 ?_
 refine sM ?_
 iterate 5 refine SeqK.off rfl rfl rfl rfl rfl rfl ?_
 refine Z7 ?_
 refine sM ?_
 iterate 5 refine SeqK.off rfl rfl rfl rfl rfl rfl ?_
 refine Z7 ?_
 refine sB ?_
 refine AW.ret ?_
 exact f1 (q := ⟨bCe (by first | exact dI ⟨fun h => (fun e5 : (a.vk = b.vk ∧ a.vn = b.vn) ∧ a.vs = b.vs => ex_ext g10 g17 g24 g31 e5.1.1 e5.1.2 e5.2 h) (by simpa using g38), fun h => by subst h; rfl⟩ | exact dF (fun h => by subst h; first | exact g31 rfl | exact g24 rfl | exact g17 rfl | exact g10 rfl | (simp at g38; done))), rfl⟩)

theorem equal_any (a : Ex) : ∀ b, okE a → Pure Tryz.prog 58 [exC a, exC b] (.c (bC (decide (a = b)))) := by
  induction a using Ex.rec' with
  | h a ih => exact fun b ho => equal_of a b ho fun x hx y => ih x hx y ((okE_iff.1 ho).2 x hx)
abbrev ex0 : Ex := ⟨0, ⟨#[]⟩, ⟨#[]⟩, 0, 0, 0, ⟨#[]⟩, []⟩
theorem exEmpty : XWs [.t (.v (.int .i64 0)), .t (.v (.string ⟨#[]⟩)), .t (.v (.string ⟨#[]⟩)), .t (.v (.int .i64 0)), .t (.v (.int .i64 0)), .t (.v (.int .i64 0)), .t (.v (.string ⟨#[]⟩)), .t (.v (.slice none 0 0))] (zEx ex0) := .cons XW.reA (.cons XW.reA (.cons XW.reA (.cons XW.reA (.cons XW.reA (.cons XW.reA (.cons XW.reA (.cons (XW.nilU (sz := 8)) .nil)))))))

set_option maxHeartbeats 4000000 in
set_option maxRecDepth 20000 in
theorem absent_any (e : Ex) (ho : okE e) : Pure Tryz.prog 70 [exC e] (.c (bC (decide (e = ex0)))) := by
 intro H
 refine Spec.enter Tryz.func70 rfl ?_
 refine AW.wk (Wk.keep 6 [(0, .c (exC e))] [] (H) rfl ⟨rfl, trivial⟩ trivial (fun _ _ h => h) rfl) ?_
 refine sR (Z16 (r := [_, _, _, _, _, _, _, _]) ?_)
 refine sB ?_
 refine sR (Z12 (r := .g [_, _, _, _, _, _, _, _]) Fx.ty30 ?_)
 refine Z34 (zs := [_, _, _, _, _, _, _, _]) (r := [_, _, _, _, _, _, _, _]) [(0, 1), (1, 1), (2, 1), (3, 1), (4, 3), (7, 1)] Fx.ze30 Fx.bp30 ?_
 refine SeqK.xw 4 rfl (XW.g exEmpty) ?_
 refine Z22 Fx.fn58 (equal_any e ex0 ho) ?_
 refine sB ?_
 refine AW.ret ?_
 exact f1 (q := ⟨rfl, rfl⟩)

abbrev FB (f : FuncId) (cs : List A) (H : Heap) (c : C) (b : Bool) : Prop := ∀ H' : Heap, (∀ j o, H j = some o → H' j = some o) → E.Spec Tryz.prog f (c :: cs.map C.a) H' fun x H'' => x = .c (bC b) ∧ H'' = H'
theorem FB.up {f : FuncId} {cs : List A} {H H1 : Heap} {c : C} {b : Bool} (h : FB f cs H c b) (s : ∀ j o, H j = some o → H1 j = some o) : FB f cs H1 c b := fun H' h' => h H' fun j o q => h' j o (s j o q)
def ixF {α : Type} (p : α → Bool) : List α → Nat → Int
  | [], _ => -1
  | a :: r, i => if p a = true then (i : Int) else ixF p r (i + 1)
theorem ixF_hit {α : Type} {p : α → Bool} {l : List α} {i : Nat} (hi : i < l.length) (h : p l[i] = true) : ixF p (l.drop i) i = i := by
  rw [List.drop_eq_getElem_cons hi, ixF, if_pos h]
theorem ixF_miss {α : Type} {p : α → Bool} {l : List α} {i : Nat} (hi : i < l.length) (h : p l[i] = false) : ixF p (l.drop i) i = ixF p (l.drop (i + 1)) (i + 1) := by
  rw [List.drop_eq_getElem_cons hi, ixF, if_neg (by rw [h]; simp)]
theorem ixF_any {α : Type} {p : α → Bool} : ∀ (l : List α) (i : Nat), 0 ≤ ixF p l i ↔ l.any p = true
  | [], i => by simp [ixF]
  | a :: r, i => by
    rw [ixF]
    by_cases h : p a = true
    · rw [if_pos h]; simp [h]
    · rw [if_neg h, ixF_any r (i + 1)]; simp [h]
abbrev usT (u : Int × Bool) : List E.T := [.v (.int .i64 u.1), .v (.bool u.2)]
abbrev usC (u : Int × Bool) : C := .g [.t (.v (.int .i64 u.1)), .t (.v (.bool u.2))]
abbrev ussC (z : Nz) (l : List (Int × Bool)) : C := .a (.t (.sl z 2 (l.map usT)))

set_option maxHeartbeats 4000000 in
set_option maxRecDepth 20000 in
theorem idxF_us (H : Heap) (f : FuncId) (cs : List A) (gv : (Int × Bool) → Bool) (l : List (Int × Bool)) (z : Nz) (hfn : fnB Tryz.prog f = true) (hl : l.length ≤ 17592186044000) (hcall : ∀ x ∈ l, FB f cs H (usC x) (gv x)) : E.Spec Tryz.prog 66 [ussC z l, .a (.fn f cs)] H fun x H' => x = .c (iC (ixF gv l 0)) ∧ H' = H := by
 refine Spec.enter Tryz.func66 rfl ?_
 refine AW.wk (Wk.keep 19 [(0, .c (ussC z l)), (1, .c (.a (.fn f cs)))] [] (H) rfl ⟨rfl, rfl, trivial⟩ trivial (fun _ _ h => h) rfl) ?_
 refine sR (sB ?_)
 refine AW.seq (sR (sM ?_))
 refine Z14 Fx.un98 ?_
 refine sM ?_
 refine Z3 (AW.block ?_)
 refine AW.loop (fun (i : Nat) s => (i ≤ l.length ∧ ixF gv (l.drop i) i = ixF gv l 0) ∧ s = ⟨19, sp [(0, .c (ussC z l)), (1, .c (.a (.fn f cs))), (4, .c (iC 0)), (7, iX .i64 (((l.map usT).length : Nat) : Int)), (8, iX .i64 ((i : Nat) : Int))], lv [], H⟩) (fun i => l.length - i) 0 ⟨_, by exact Wk.keep 19 _ _ _ rfl ⟨rfl, rfl, rfl, rfl, rfl, trivial⟩ trivial (fun _ _ h => h) rfl, ⟨Nat.zero_le _, rfl⟩, rfl⟩ (fun i s hs => ?_)
 obtain ⟨⟨hi0, hI⟩, rfl⟩ := hs
 refine sR (Z10 ?_)
 refine Z3 (AW.seq ?_)
 refine AW.condD rfl ?_ ?_ <;> intro h9
 ·
  have hi : i < l.length := by rw [List.length_map] at h9; omega
  refine AW.skip (AW.seq (AW.block (sR (sM ?_))))
  refine sB ?_
  refine sR (sM ?_)
  refine sM ?_
  refine sM ?_
  refine Z9 Fx.sl98 (idx_map (f := usT) hi) ?_
  refine Z11 (.g [_, _]) Fx.ty103 ?_
  refine SeqK.r (g_callV (f := f) (cs := cs) rfl rfl hfn rfl (hcall _ (List.getElem_mem hi) _ (fun _ _ h => h)) rfl rfl rfl) rfl ?_
  refine Z3 ?_
  refine AW.cond _ rfl (fun h16 => ?_) (fun h16 => ?_)
  ·
   refine sR (sM ?_)
   refine sB ?_
   refine AW.ret ?_
   exact f1 (q := ⟨iCe (by rw [← hI, ixF_hit hi h16]), rfl⟩)
  refine AW.skip (AW.reg (Z2 ?_))
  refine sM ?_
  refine Z3 ?_
  exact ⟨i + 1, _, by exact Wk.keep 19 _ _ _ rfl ⟨rfl, rfl, rfl, rfl, rfl, trivial⟩ trivial (fun _ _ h => h) rfl, by omega, ⟨hi, by rw [← hI, ixF_miss hi h16]⟩, rfl⟩
 refine AW.exit ?_
 refine eth_e ?_
 refine eth_e ?_
 refine exit_here ?_
 refine sR (sB ?_)
 refine AW.ret ?_
 exact f1 (q := ⟨iCe (by rw [← hI, List.drop_eq_nil_of_le (by rw [List.length_map] at h9; omega), ixF]), rfl⟩)

set_option maxHeartbeats 4000000 in
set_option maxRecDepth 20000 in
theorem anyF_us (H : Heap) (f : FuncId) (cs : List A) (gv : (Int × Bool) → Bool) (l : List (Int × Bool)) (z : Nz) (hfn : fnB Tryz.prog f = true) (hl : l.length ≤ 17592186044000) (hcall : ∀ x ∈ l, FB f cs H (usC x) (gv x)) : E.Spec Tryz.prog 36 [ussC z l, .a (.fn f cs)] H fun x H' => x = .c (bC (l.any gv)) ∧ H' = H := by
 refine Spec.enter Tryz.func36 rfl ?_
 refine AW.wk (Wk.keep 9 [(0, .c (ussC z l)), (1, .c (.a (.fn f cs)))] [] (H) rfl ⟨rfl, rfl, trivial⟩ trivial (fun _ _ h => h) rfl) ?_
 refine sR (sB ?_)
 refine sR (sM ?_)
 refine sM ?_
 refine Z53 Fx.fn66 (idxF_us H f cs gv l z hfn hl hcall) ?_
 refine SeqK.q (q_geq rfl rfl rfl) rfl rfl rfl ?_
 refine sB ?_
 refine AW.ret ?_
 exact f1 (q := ⟨bCe (bI (ixF_any l 0).symm).symm, rfl⟩)

set_option maxHeartbeats 4000000 in
set_option maxRecDepth 20000 in
theorem idxF_it (H : Heap) (f : FuncId) (cs : List A) (gv : Int → Bool) (l : List Int) (z : Nz) (hfn : fnB Tryz.prog f = true) (hl : l.length ≤ 17592186044000) (hcall : ∀ x ∈ l, FB f cs H (iC x) (gv x)) : E.Spec Tryz.prog 124 [iL z l, .a (.fn f cs)] H fun x H' => x = .c (iC (ixF gv l 0)) ∧ H' = H := by
 refine Spec.enter Tryz.func124 rfl ?_
 refine AW.wk (Wk.keep 19 [(0, .c (iL z l)), (1, .c (.a (.fn f cs)))] [] (H) rfl ⟨rfl, rfl, trivial⟩ trivial (fun _ _ h => h) rfl) ?_
 refine sR (sB ?_)
 refine AW.seq (sR (sM ?_))
 refine Z14 Fx.un24 ?_
 refine sM ?_
 refine Z3 (AW.block ?_)
 refine AW.loop (fun (i : Nat) s => (i ≤ l.length ∧ ixF gv (l.drop i) i = ixF gv l 0) ∧ s = ⟨19, sp [(0, .c (iL z l)), (1, .c (.a (.fn f cs))), (4, .c (iC 0)), (7, iX .i64 (((l.map i64T).length : Nat) : Int)), (8, iX .i64 ((i : Nat) : Int))], lv [], H⟩) (fun i => l.length - i) 0 ⟨_, by exact Wk.keep 19 _ _ _ rfl ⟨rfl, rfl, rfl, rfl, rfl, trivial⟩ trivial (fun _ _ h => h) rfl, ⟨Nat.zero_le _, rfl⟩, rfl⟩ (fun i s hs => ?_)
 obtain ⟨⟨hi0, hI⟩, rfl⟩ := hs
 refine sR (Z10 ?_)
 refine Z3 (AW.seq ?_)
 refine AW.condD rfl ?_ ?_ <;> intro h9
 ·
  have hi : i < l.length := by rw [List.length_map] at h9; omega
  refine AW.skip (AW.seq (AW.block (sR (sM ?_))))
  refine sB ?_
  refine sR (sM ?_)
  refine sM ?_
  refine sM ?_
  refine Z9 Fx.sl24 (idx_map (f := i64T) hi) ?_
  refine Z11 (.a _) Fx.ty3 ?_
  refine SeqK.r (g_callV (f := f) (cs := cs) rfl rfl hfn rfl (hcall _ (List.getElem_mem hi) _ (fun _ _ h => h)) rfl rfl rfl) rfl ?_
  refine Z3 ?_
  refine AW.cond _ rfl (fun h16 => ?_) (fun h16 => ?_)
  ·
   refine sR (sM ?_)
   refine sB ?_
   refine AW.ret ?_
   exact f1 (q := ⟨iCe (by rw [← hI, ixF_hit hi h16]), rfl⟩)
  refine AW.skip (AW.reg (Z2 ?_))
  refine sM ?_
  refine Z3 ?_
  exact ⟨i + 1, _, by exact Wk.keep 19 _ _ _ rfl ⟨rfl, rfl, rfl, rfl, rfl, trivial⟩ trivial (fun _ _ h => h) rfl, by omega, ⟨hi, by rw [← hI, ixF_miss hi h16]⟩, rfl⟩
 refine AW.exit ?_
 refine eth_e ?_
 refine eth_e ?_
 refine exit_here ?_
 refine sR (sB ?_)
 refine AW.ret ?_
 exact f1 (q := ⟨iCe (by rw [← hI, List.drop_eq_nil_of_le (by rw [List.length_map] at h9; omega), ixF]), rfl⟩)

set_option maxHeartbeats 4000000 in
set_option maxRecDepth 20000 in
theorem anyF_it (H : Heap) (f : FuncId) (cs : List A) (gv : Int → Bool) (l : List Int) (z : Nz) (hfn : fnB Tryz.prog f = true) (hl : l.length ≤ 17592186044000) (hcall : ∀ x ∈ l, FB f cs H (iC x) (gv x)) : E.Spec Tryz.prog 94 [iL z l, .a (.fn f cs)] H fun x H' => x = .c (bC (l.any gv)) ∧ H' = H := by
 refine Spec.enter Tryz.func94 rfl ?_
 refine AW.wk (Wk.keep 9 [(0, .c (iL z l)), (1, .c (.a (.fn f cs)))] [] (H) rfl ⟨rfl, rfl, trivial⟩ trivial (fun _ _ h => h) rfl) ?_
 refine sR (sB ?_)
 refine sR (sM ?_)
 refine sM ?_
 refine Z53 Fx.fn124 (idxF_it H f cs gv l z hfn hl hcall) ?_
 refine SeqK.q (q_geq rfl rfl rfl) rfl rfl rfl ?_
 refine sB ?_
 refine AW.ret ?_
 exact f1 (q := ⟨bCe (bI (ixF_any l 0).symm).symm, rfl⟩)

set_option maxHeartbeats 4000000 in
set_option maxRecDepth 20000 in
theorem idxF_ex (H : Heap) (f : FuncId) (cs : List A) (gv : Ex → Bool) (l : List Ex) (z : Nz) (hfn : fnB Tryz.prog f = true) (hl : l.length ≤ 17592186044000) (hcall : ∀ x ∈ l, FB f cs H (exC x) (gv x)) : E.Spec Tryz.prog 125 [exsC z l, .a (.fn f cs)] H fun x H' => x = .c (iC (ixF gv l 0)) ∧ H' = H := by
 refine Spec.enter Tryz.func125 rfl ?_
 refine AW.wk (Wk.keep 19 [(0, .c (exsC z l)), (1, .c (.a (.fn f cs)))] [] (H) rfl ⟨rfl, rfl, trivial⟩ trivial (fun _ _ h => h) rfl) ?_
 refine sR (sB ?_)
 refine AW.seq (sR (sM ?_))
 refine Z14 Fx.un28 ?_
 refine sM ?_
 refine Z3 (AW.block ?_)
 refine AW.loop (fun (i : Nat) s => (i ≤ l.length ∧ ixF gv (l.drop i) i = ixF gv l 0) ∧ s = ⟨19, sp [(0, .c (exsC z l)), (1, .c (.a (.fn f cs))), (4, .c (iC 0)), (7, iX .i64 (((l.map exT').length : Nat) : Int)), (8, iX .i64 ((i : Nat) : Int))], lv [], H⟩) (fun i => l.length - i) 0 ⟨_, by exact Wk.keep 19 _ _ _ rfl ⟨rfl, rfl, rfl, rfl, rfl, trivial⟩ trivial (fun _ _ h => h) rfl, ⟨Nat.zero_le _, rfl⟩, rfl⟩ (fun i s hs => ?_)
 obtain ⟨⟨hi0, hI⟩, rfl⟩ := hs
 refine sR (Z10 ?_)
 refine Z3 (AW.seq ?_)
 refine AW.condD rfl ?_ ?_ <;> intro h9
 ·
  have hi : i < l.length := by rw [List.length_map] at h9; omega
  refine AW.skip (AW.seq (AW.block (sR (sM ?_))))
  refine sB ?_
  refine sR (sM ?_)
  refine sM ?_
  refine sM ?_
  refine Z9 Fx.sl28 (idx_ex hi) ?_
  refine Z11 (.g [_, _, _, _, _, _, _, _]) Fx.ty30 ?_
  refine SeqK.r (g_callV (f := f) (cs := cs) rfl rfl hfn rfl (hcall _ (List.getElem_mem hi) _ (fun _ _ h => h)) rfl rfl rfl) rfl ?_
  refine Z3 ?_
  refine AW.cond _ rfl (fun h16 => ?_) (fun h16 => ?_)
  ·
   refine sR (sM ?_)
   refine sB ?_
   refine AW.ret ?_
   exact f1 (q := ⟨iCe (by rw [← hI, ixF_hit hi h16]), rfl⟩)
  refine AW.skip (AW.reg (Z2 ?_))
  refine sM ?_
  refine Z3 ?_
  exact ⟨i + 1, _, by exact Wk.keep 19 _ _ _ rfl ⟨rfl, rfl, rfl, rfl, rfl, trivial⟩ trivial (fun _ _ h => h) rfl, by omega, ⟨hi, by rw [← hI, ixF_miss hi h16]⟩, rfl⟩
 refine AW.exit ?_
 refine eth_e ?_
 refine eth_e ?_
 refine exit_here ?_
 refine sR (sB ?_)
 refine AW.ret ?_
 exact f1 (q := ⟨iCe (by rw [← hI, List.drop_eq_nil_of_le (by rw [List.length_map] at h9; omega), ixF]), rfl⟩)

set_option maxHeartbeats 4000000 in
set_option maxRecDepth 20000 in
theorem anyF_ex (H : Heap) (f : FuncId) (cs : List A) (gv : Ex → Bool) (l : List Ex) (z : Nz) (hfn : fnB Tryz.prog f = true) (hl : l.length ≤ 17592186044000) (hcall : ∀ x ∈ l, FB f cs H (exC x) (gv x)) : E.Spec Tryz.prog 95 [exsC z l, .a (.fn f cs)] H fun x H' => x = .c (bC (l.any gv)) ∧ H' = H := by
 refine Spec.enter Tryz.func95 rfl ?_
 refine AW.wk (Wk.keep 9 [(0, .c (exsC z l)), (1, .c (.a (.fn f cs)))] [] (H) rfl ⟨rfl, rfl, trivial⟩ trivial (fun _ _ h => h) rfl) ?_
 refine sR (sB ?_)
 refine sR (sM ?_)
 refine sM ?_
 refine Z53 Fx.fn125 (idxF_ex H f cs gv l z hfn hl hcall) ?_
 refine SeqK.q (q_geq rfl rfl rfl) rfl rfl rfl ?_
 refine sB ?_
 refine AW.ret ?_
 exact f1 (q := ⟨bCe (bI (ixF_any l 0).symm).symm, rfl⟩)

set_option maxHeartbeats 4000000 in
set_option maxRecDepth 20000 in
theorem index_it (l : List Int) (z : Nz) (n : Int) (hl : l.length ≤ 17592186044000) : Pure Tryz.prog 123 [iL z l, iC n] (.c (iC (ixF (fun x => decide (n = x)) l 0))) := by
 intro H
 refine Spec.enter Tryz.func123 rfl ?_
 refine AW.wk (Wk.keep 19 [(0, .c (iL z l)), (1, .c (iC n))] [] (H) rfl ⟨rfl, rfl, trivial⟩ trivial (fun _ _ h => h) rfl) ?_
 refine sR (sB ?_)
 refine AW.seq (sR (sM ?_))
 refine Z14 Fx.un24 ?_
 refine sM ?_
 refine Z3 (AW.block ?_)
 refine AW.loop (fun (i : Nat) s => (i ≤ l.length ∧ ixF (fun x => decide (n = x)) (l.drop i) i = ixF (fun x => decide (n = x)) l 0) ∧ s = ⟨19, sp [(0, .c (iL z l)), (1, .c (iC n)), (4, .c (iC 0)), (7, iX .i64 (((l.map i64T).length : Nat) : Int)), (8, iX .i64 ((i : Nat) : Int))], lv [], H⟩) (fun i => l.length - i) 0 ⟨_, by exact Wk.keep 19 _ _ _ rfl ⟨rfl, rfl, rfl, rfl, rfl, trivial⟩ trivial (fun _ _ h => h) rfl, ⟨Nat.zero_le _, rfl⟩, rfl⟩ (fun i s hs => ?_)
 obtain ⟨⟨hi0, hI⟩, rfl⟩ := hs
 refine sR (Z10 ?_)
 refine Z3 (AW.seq ?_)
 refine AW.condD rfl ?_ ?_ <;> intro h9
 ·
  have hi : i < l.length := by rw [List.length_map] at h9; omega
  refine AW.skip (AW.seq (AW.block (sR (sM ?_))))
  refine sB ?_
  refine sR (sM ?_)
  refine sM ?_
  refine sM ?_
  refine Z9 Fx.sl24 (idx_map (f := i64T) hi) ?_
  refine Z11 (.a _) Fx.ty3 ?_
  refine Z8 ?_
  refine Z3 ?_
  refine AW.condD rfl ?_ ?_ <;> intro h16
  ·
   refine sR (sM ?_)
   refine sB ?_
   refine AW.ret ?_
   exact f1 (q := ⟨iCe (by rw [← hI, ixF_hit hi (decide_eq_true h16)]), rfl⟩)
  refine AW.skip (AW.reg (Z2 ?_))
  refine sM ?_
  refine Z3 ?_
  exact ⟨i + 1, _, by exact Wk.keep 19 _ _ _ rfl ⟨rfl, rfl, rfl, rfl, rfl, trivial⟩ trivial (fun _ _ h => h) rfl, by omega, ⟨hi, by rw [← hI, ixF_miss hi (decide_eq_false h16)]⟩, rfl⟩
 refine AW.exit ?_
 refine eth_e ?_
 refine eth_e ?_
 refine exit_here ?_
 refine sR (sB ?_)
 refine AW.ret ?_
 exact f1 (q := ⟨iCe (by rw [← hI, List.drop_eq_nil_of_le (by rw [List.length_map] at h9; omega), ixF]), rfl⟩)

set_option maxHeartbeats 4000000 in
set_option maxRecDepth 20000 in
theorem cont_it (l : List Int) (z : Nz) (n : Int) (hl : l.length ≤ 17592186044000) : Pure Tryz.prog 92 [iL z l, iC n] (.c (bC (decide (n ∈ l)))) := by
 intro H
 refine Spec.enter Tryz.func92 rfl ?_
 refine AW.wk (Wk.keep 9 [(0, .c (iL z l)), (1, .c (iC n))] [] (H) rfl ⟨rfl, rfl, trivial⟩ trivial (fun _ _ h => h) rfl) ?_
 refine sR (sB ?_)
 refine sR (sM ?_)
 refine sM ?_
 refine Z22 Fx.fn123 (index_it l z n hl) ?_
 refine SeqK.q (q_geq rfl rfl rfl) rfl rfl rfl ?_
 refine sB ?_
 refine AW.ret ?_
 exact f1 (q := ⟨bCe (dI ((ixF_any l 0).trans (by simp))), rfl⟩)

end Go.Proofs.YtihlgigaejhilaaGreatDoor.W
namespace Go.Proofs.YtihlgigaejhilaaGreatDoor.W
open Go.RowKit E
/-! a statement with its schema -/
abbrev stA (d0 : List Tb) (b : Bd) : List A := [.t (.sl .un 5 (d0.map tbT)), .t (.v (.int .i64 5)), .t (.v (.string ⟨#[]⟩)), .t (.v (.slice none 0 0)), .t (.v (.slice none 0 0)), .t (.v (.slice none 0 0)), .t (.v (.slice none 0 0)), .t (.v (.slice none 0 0)), .t (.v (.slice none 0 0)), .t (.v (.slice none 0 0)), .t (.sl .un 2 (b.frm.map srT)), .t (.v (.int .i64 b.wh.op)), .t (.v (.string b.wh.tb)), .t (.v (.string b.wh.nm)), .t (.v (.int .i64 b.wh.ix)), .t (.v (.int .i64 b.wh.vk)), .t (.v (.int .i64 b.wh.vn)), .t (.v (.string b.wh.vs)), .t (.sl .un 8 (b.wh.args.map exT')), .t (.v (.slice none 0 0)), .t (.v (.slice none 0 0)), .t (.v (.int .i64 0)), .t (.v (.string ⟨#[]⟩)), .t (.v (.int .i64 0)), .t (.sl .un 1 (b.tabs.map i64T)), .t (.sl .un 5 (b.vars.map vrT)), .t (.v (.slice none 0 0))]
abbrev exA (e : Ex) : List A := (zEx e)
/-- what a walk over a statement asks of it -/
structure okB (d0 : List Tb) (b : Bd) : Prop where
  hc : ∀ t ∈ d0, t.cols.length ≤ 17592186044000
  ht : tabP d0 b.tabs
  hn : b.tabs.length ≤ 1000
theorem okB.off {d0 : List Tb} {b : Bd} (h : okB d0 b) (k : Nat) : offM d0 (b.tabs.take k) ≤ 1000 * 17592186044000 := Nat.le_trans (offM_le h.hc (b.tabs.take k)) (Nat.mul_le_mul_right _ (Nat.le_trans (Nat.min_le_right _ _ |> fun h9 => by rw [List.length_take]; exact h9) (by have := h.hn; omega)))
theorem idx_tab {d0 : List Tb} {v : Int} (h : 0 ≤ v ∧ v < d0.length) : (d0.map tbT)[v.toNat]? = some (tbT (tbAt d0 v)) := by
  have hu : v.toNat < d0.length := by omega
  rw [List.getElem?_map, List.getElem?_eq_getElem hu, ← tbAt_get hu]; rfl
abbrev tabI (l : List Int) (i : Int) : Int := l.getD i.toNat 0
theorem tabI_eq {l : List Int} {i : Int} (h : i.toNat < l.length) : tabI l i = l[i.toNat] := by
  rw [tabI, List.getD_eq_getElem?_getD, List.getElem?_eq_getElem h]; rfl
/-- whether a variable is a column of a source -/
abbrev ovP (d0 : List Tb) (l : List Int) (ix i : Int) : Prop := (offM d0 (l.take i.toNat) : Int) ≤ ix ∧ ix < (offM d0 (l.take i.toNat) + ncol d0 (tabI l i) : Nat)
mutual
def ovB (d0 : List Tb) (tabs l : List Int) : Ex → Bool
  | .mk op tb nm ix vk vn vs xs => (decide (op ≠ 2) || l.any fun i => decide (ovP d0 tabs ix i)) && ovBs d0 tabs l xs
def ovBs (d0 : List Tb) (tabs l : List Int) : List Ex → Bool
  | [] => true
  | e :: r => ovB d0 tabs l e && ovBs d0 tabs l r
end
theorem ovBs_all {d0 : List Tb} {tabs l : List Int} : ∀ {xs : List Ex}, ovBs d0 tabs l xs = xs.all (ovB d0 tabs l)
  | [] => by simp [ovBs]
  | e :: r => by rw [ovBs, ovBs_all, List.all_cons]
theorem ovB_eq {d0 : List Tb} {tabs l : List Int} (e : Ex) : ovB d0 tabs l e = ((decide (e.op ≠ 2) || l.any fun i => decide (ovP d0 tabs e.ix i)) && e.args.all (ovB d0 tabs l)) := by
  cases e; rw [ovB, ovBs_all]
theorem any_not {α : Type} {p : α → Bool} : ∀ l : List α, (!(l.any fun a => !p a)) = l.all p
  | [] => rfl
  | a :: r => by rw [List.any_cons, List.all_cons, ← any_not r]; cases p a <;> simp

set_option maxHeartbeats 4000000 in
set_option maxRecDepth 20000 in
theorem first_any (H : Heap) (kx : Nat) (d0 : List Tb) (b : Bd) (hx : H kx = some (.box (stA d0 b))) (hb : okB d0 b) (v : Int) (hv : 0 ≤ v ∧ v ≤ b.tabs.length) : E.Spec Tryz.prog 63 [.a (.bp kx 0), iC v] H fun x H' => x = .c (iC ((offM d0 (b.tabs.take v.toNat) : Nat) : Int)) ∧ H' = H := by
 obtain ⟨n, hvn⟩ : ∃ n : Nat, v = n := ⟨v.toNat, by omega⟩
 have hvt : v.toNat = n := by omega
 rw [hvt]
 have hn := hb.hn
 refine Spec.enter Tryz.func63 rfl ?_
 refine AW.wk (Wk.keep 33 [(0, .c (.a (.bp kx 0))), (1, .c (iC v))] [] (H) rfl ⟨rfl, rfl, trivial⟩ trivial (fun _ _ h => h) rfl) ?_
 refine sR (sB ?_)
 refine sR (sB ?_)
 refine AW.seq (sR (sM ?_))
 refine SeqK.q (q_nilH rfl rfl) rfl rfl rfl ?_
 refine SeqK.q (q_fieldH _ rfl Fx.fl78_1 rfl rfl) rfl rfl rfl ?_
 refine SeqK.q (q_fieldH _ rfl Fx.fl51_2 rfl rfl) rfl rfl rfl ?_
 refine Z17 Fx.ty24 ?_
 refine sM ?_
 refine SeqK.q (q_cut 0 n ((b.tabs.take n).map i64T) rfl Fx.sl24 rfl (by first | rfl | exact ⟨_, rfl⟩) (⟨.i64, by show iX .i64 v = _; rw [hvn]⟩) (by omega) (by simp only [List.length_map]; omega) (by rw [List.drop_zero, List.map_take])) rfl rfl rfl ?_
 refine Z14 Fx.un24 ?_
 refine sM ?_
 refine Z3 (AW.block ?_)
 refine AW.loop (fun (i : Nat) s => (i ≤ n) ∧ s = ⟨33, sp [(0, .c (.a (.bp kx 0))), (4, .c (iC 0)), (5, iX .i64 ((offM d0 (b.tabs.take i) : Nat) : Int)), (14, .c (iL .un (b.tabs.take n))), (15, iX .i64 ((((b.tabs.take n).map i64T).length : Nat) : Int)), (16, iX .i64 ((i : Nat) : Int))], lv [], H⟩) (fun i => n - i) 0 ⟨_, by exact Wk.keep 33 _ _ _ rfl ⟨rfl, rfl, rfl, rfl, rfl, rfl, trivial⟩ trivial (fun _ _ h => h) rfl, Nat.zero_le _, rfl⟩ (fun i s hs => ?_)
 obtain ⟨hi0, rfl⟩ := hs
 refine sR (Z10 ?_)
 refine Z3 (AW.seq ?_)
 refine AW.condD rfl ?_ ?_ <;> intro h17
 ·
  have hi : i < (b.tabs.take n).length := by rw [List.length_map] at h17; exact_mod_cast h17
  have hin : i < n := by rw [List.length_take] at hi; omega
  have hib : i < b.tabs.length := by omega
  have hg : (b.tabs.take n)[i] = b.tabs[i] := List.getElem_take
  have hidx : ((b.tabs.take n).map i64T)[i]? = some (i64T b.tabs[i]) := by rw [idx_map (f := i64T) hi, hg]
  obtain ⟨p1, p2⟩ := hb.ht i hib
  have hof := hb.off i
  have hnc := ncol_le hb.hc b.tabs[i]
  have hnn : ncol d0 b.tabs[i] = (tbAt d0 b.tabs[i]).cols.length := rfl
  refine AW.skip (AW.seq (AW.block (sR (Z9 Fx.sl24 (hidx) ?_))))
  refine Z11 (.a _) Fx.ty3 ?_
  refine sB ?_
  refine AW.reg (sM ?_)
  refine sM ?_
  refine SeqK.q (q_nilH rfl rfl) rfl rfl rfl ?_
  refine SeqK.q (q_fieldH _ rfl Fx.fl78_0 rfl rfl) rfl rfl rfl ?_
  refine Z17 Fx.ty23 ?_
  refine sM ?_
  refine Z9 Fx.sl23 (idx_tab ⟨p1, p2⟩) ?_
  refine SeqK.q (q_fieldP _ rfl Fx.fl64_1 rfl rfl) rfl rfl rfl ?_
  refine Z11 (.a _) Fx.ty36 ?_
  refine Z14 Fx.un36 ?_
  refine SeqK.q (q_add _ rfl rfl rfl ((by simp only [List.length_map]; rw [w64 (by omega) (by omega), offM_take hib]; rfl : IntKind.i64.wrap _ = ((offM d0 (b.tabs.take (i + 1)) : Nat) : Int)))) rfl rfl rfl ?_
  refine sB ?_
  refine AW.reg (Z2 ?_)
  refine sM ?_
  refine Z3 ?_
  exact ⟨i + 1, _, by exact Wk.keep 33 _ _ _ rfl ⟨rfl, rfl, rfl, rfl, rfl, rfl, trivial⟩ trivial (fun _ _ h => h) rfl, by omega, hin, rfl⟩
 refine AW.exit ?_
 refine eth_e ?_
 refine eth_e ?_
 refine exit_here ?_
 refine sR (sM ?_)
 refine sB ?_
 refine AW.ret ?_
 exact f1 (q := ⟨by (obtain rfl : i = n := by (rw [List.length_map, List.length_take] at h17; omega)); rfl, rfl⟩)

set_option maxHeartbeats 4000000 in
set_option maxRecDepth 20000 in
theorem table_st (H : Heap) (kx : Nat) (d0 : List Tb) (b : Bd) (hx : H kx = some (.box (stA d0 b))) (hb : okB d0 b) (v : Int) (hv : 0 ≤ v ∧ v < b.tabs.length) : E.Spec Tryz.prog 46 [.a (.bp kx 0), iC v] H fun x H' => x = .c (tbC (tbAt d0 (tabI b.tabs v))) ∧ H' = H := by
 have hu : v.toNat < b.tabs.length := by omega
 obtain ⟨p1, p2⟩ := hb.ht v.toNat hu
 rw [tabI_eq hu]
 have hn := hb.hn
 refine Spec.enter Tryz.func46 rfl ?_
 refine AW.wk (Wk.keep 19 [(0, .c (.a (.bp kx 0))), (1, .c (iC v))] [] (H) rfl ⟨rfl, rfl, trivial⟩ trivial (fun _ _ h => h) rfl) ?_
 refine sR (Z25 (r := [_, _, _, _, _]) Fx.ze64 ?_)
 refine Z3 (AW.seq (AW.draw Fx.mo ?_))
 refine Z18 ?_
 refine LexK.q (q_nilH rfl rfl) rfl rfl rfl ?_
 refine LexK.q (q_fieldH _ rfl Fx.fl78_0 rfl rfl) rfl rfl rfl ?_
 refine Z51 Fx.ty23 ?_
 refine Z18 ?_
 refine LexK.q (q_nilH rfl rfl) rfl rfl rfl ?_
 refine LexK.q (q_fieldH _ rfl Fx.fl78_1 rfl rfl) rfl rfl rfl ?_
 refine LexK.q (q_fieldH _ rfl Fx.fl51_2 rfl rfl) rfl rfl rfl ?_
 refine Z51 Fx.ty24 ?_
 refine Z18 ?_
 refine Z27 Fx.sl24 (idx_map (f := i64T) hu) ?_
 refine Z26 (.a _) Fx.ty3 ?_
 refine Z27 Fx.sl23 (idx_tab ⟨p1, p2⟩) ?_
 refine Z26 (.g [_, _, _, _, _]) Fx.ty64 ?_
 refine LexK.r (b_store (r := [_, _, _, _, _]) rfl rfl Fx.ty64 rfl rfl rfl rfl rfl rfl) rfl ?_
 refine Z30 ?_
 refine AW.ret ?_
 exact fin_x (x := .c _) (H) (.cellL rfl rfl Fx.ty64 rfl rfl .nil) rfl (fun _ _ h => h) (⟨rfl, rfl⟩)

set_option maxHeartbeats 4000000 in
set_option maxRecDepth 20000 in
theorem isSrc_any (H : Heap) (kx : Nat) (d0 : List Tb) (b : Bd) (hx : H kx = some (.box (stA d0 b))) (hb : okB d0 b) (v : Int) : E.Spec Tryz.prog 91 [.a (.bp kx 0), iC v] H fun x H' => x = .c (bC (decide (0 ≤ v ∧ v < b.tabs.length))) ∧ H' = H := by
 refine Spec.enter Tryz.func91 rfl ?_
 refine AW.wk (Wk.keep 17 [(0, .c (.a (.bp kx 0))), (1, .c (iC v))] [] (H) rfl ⟨rfl, rfl, trivial⟩ trivial (fun _ _ h => h) rfl) ?_
 refine sR (sB ?_)
 refine sR (sM ?_)
 refine SeqK.q (q_geq rfl rfl rfl) rfl rfl rfl ?_
 refine Z19 (fun g7 => ?_) (fun g7 => ?_)
 ·
  refine Z13 ?_
  refine Z13 ?_
  refine SeqK.on (q_nilH rfl rfl) rfl rfl rfl rfl rfl ?_
  refine SeqK.on (q_fieldH _ rfl Fx.fl78_1 rfl rfl) rfl rfl rfl rfl rfl ?_
  refine SeqK.on (q_fieldH _ rfl Fx.fl51_2 rfl rfl) rfl rfl rfl rfl rfl ?_
  refine SeqK.rOn (g_load (r := .a _) rfl Fx.ty24 rfl (by (repeat rw [upd_ne _ _ (by first | assumption | exact Ne.symm (by assumption))]); first | assumption | exact upd_same _ _ _) rfl rfl rfl rfl) rfl rfl rfl ?_
  refine Z28 Fx.un24 ?_
  refine SeqK.on (q_lss rfl rfl rfl) rfl rfl rfl rfl rfl ?_
  refine Z4 ?_
  refine sB ?_
  refine AW.ret ?_
  exact f1 (q := ⟨bCe (by first | exact dI ⟨fun h => ⟨by omega, by simp only [List.length_map] at *; omega⟩, fun h => by simp only [List.length_map] at *; omega⟩ | exact dF (fun h => by omega)), rfl⟩)
 iterate 8 refine SeqK.off rfl rfl rfl rfl rfl rfl ?_
 refine Z7 ?_
 refine sB ?_
 refine AW.ret ?_
 exact f1 (q := ⟨bCe (by first | exact dI ⟨fun h => ⟨by omega, by simp only [List.length_map] at *; omega⟩, fun h => by simp only [List.length_map] at *; omega⟩ | exact dF (fun h => by omega)), rfl⟩)

set_option maxHeartbeats 4000000 in
set_option maxRecDepth 20000 in
theorem over1_any (H : Heap) (k3 k4 kx : Nat) (d0 : List Tb) (b : Bd) (e : Ex) (h3 : H k3 = some (.box [.bp kx 0])) (h4 : H k4 = some (.box (exA e))) (hx : H kx = some (.box (stA d0 b))) (hb : okB d0 b) (v : Int) (hv : 0 ≤ v ∧ v < b.tabs.length) : E.Spec Tryz.prog 93 [iC v, .a (.bp k3 0), .a (.bp k4 0)] H fun x H' => x = .c (bC (decide (ovP d0 b.tabs e.ix v))) ∧ H' = H := by
 have hof := hb.off v.toNat
 have hnc := ncol_le hb.hc (tabI b.tabs v)
 have hnn : ncol d0 (tabI b.tabs v) = (tbAt d0 (tabI b.tabs v)).cols.length := rfl
 refine Spec.enter Tryz.func93 rfl ?_
 refine AW.wk (Wk.keep 25 [(0, .c (iC v)), (1, .c (.a (.bp k3 0))), (2, .c (.a (.bp k4 0)))] [] (H) rfl ⟨rfl, rfl, rfl, trivial⟩ trivial (fun _ _ h => h) rfl) ?_
 refine sR (sB ?_)
 refine sR (Z17 Fx.ty76 ?_)
 refine sM ?_
 refine SeqK.r (g_call rfl Fx.fn63 rfl (first_any H kx d0 b hx hb v ⟨hv.1, by omega⟩) rfl rfl rfl) rfl ?_
 refine sB ?_
 refine AW.seq (AW.draw Fx.mo ?_)
 refine LexK.q (q_fieldH _ rfl Fx.fl30_3 rfl rfl) rfl rfl rfl ?_
 refine Z51 Fx.ty3 ?_
 refine Z18 ?_
 refine LexK.q (q_geq rfl rfl rfl) rfl rfl rfl ?_
 refine LexK.qD (q_mvC rfl rfl) rfl rfl rfl (fun g13 => ?_) (fun g13 => ?_)
 ·
  refine LexK.on (q_fieldH _ rfl Fx.fl30_3 rfl rfl) rfl rfl rfl rfl rfl ?_
  refine LexK.rOn (g_load (r := .a _) rfl Fx.ty3 rfl (by (repeat rw [upd_ne _ _ (by first | assumption | exact Ne.symm (by assumption))]); first | assumption | exact upd_same _ _ _) rfl rfl rfl rfl) rfl rfl rfl ?_
  refine Z29 ?_
  refine LexK.rOn (g_load (r := .a _) rfl Fx.ty76 rfl (by (repeat rw [upd_ne _ _ (by first | assumption | exact Ne.symm (by assumption))]); first | assumption | exact upd_same _ _ _) rfl rfl rfl rfl) rfl rfl rfl ?_
  refine Z29 ?_
  refine LexK.rOn (g_call rfl Fx.fn46 rfl (table_st H kx d0 b hx hb v hv) rfl rfl rfl) rfl rfl rfl ?_
  refine LexK.on (q_field (ft := 36) _ rfl Fx.fl64_1 ⟨_, _, rfl, rfl, rfl⟩ Fx.ty36 rfl rfl rfl) rfl rfl rfl rfl rfl ?_
  refine LexK.on (q_len rfl Fx.un36 rfl) rfl rfl rfl rfl rfl ?_
  refine LexK.on (q_add _ rfl rfl rfl ((by simp only [List.length_map]; rw [w64 (by omega) (by omega)]; omega : IntKind.i64.wrap _ = ((offM d0 (b.tabs.take v.toNat) + ncol d0 (tabI b.tabs v) : Nat) : Int)))) rfl rfl rfl rfl rfl ?_
  refine LexK.on (q_lss rfl rfl rfl) rfl rfl rfl rfl rfl ?_
  refine Z43 ?_
  refine Z36 ?_
  refine Z30 ?_
  refine AW.ret ?_
  exact f1 (q := ⟨bCe (by first | exact dI ⟨fun h => ⟨by omega, h⟩, fun h => h.2⟩ | exact dF (fun h => by have := h.1; omega)), rfl⟩)
 iterate 10 refine LexK.off rfl rfl rfl rfl rfl rfl ?_
 refine Z31 ?_
 refine Z36 ?_
 refine Z30 ?_
 refine AW.ret ?_
 exact f1 (q := ⟨bCe (by first | exact dI ⟨fun h => ⟨by omega, h⟩, fun h => h.2⟩ | exact dF (fun h => by have := h.1; omega)), rfl⟩)

end Go.Proofs.YtihlgigaejhilaaGreatDoor.W
namespace Go.Proofs.YtihlgigaejhilaaGreatDoor.W
open Go.RowKit E
/-! whether all variables of an expression are columns of some sources -/
abbrev OV (d0 : List Tb) (b : Bd) (kx : Nat) (l : List Int) (e : Ex) : Prop := ∀ H : Heap, H kx = some (.box (stA d0 b)) → E.Spec Tryz.prog 68 [.a (.bp kx 0), exC e, iL .un l] H fun x H' => x = .c (bC (ovB d0 b.tabs l e)) ∧ H' = H
abbrev inP (b : Bd) (l : List Int) : Prop := ∀ v ∈ l, 0 ≤ v ∧ v < b.tabs.length

set_option maxHeartbeats 4000000 in
set_option maxRecDepth 20000 in
theorem over2_any (H : Heap) (k3 k5 kx : Nat) (d0 : List Tb) (b : Bd) (l : List Int) (e : Ex) (h3 : H k3 = some (.box [.bp kx 0])) (h5 : H k5 = some (.box [.t (.sl .un 1 (l.map i64T))])) (hx : H kx = some (.box (stA d0 b))) (h : OV d0 b kx l e) : E.Spec Tryz.prog 96 [exC e, .a (.bp k3 0), .a (.bp k5 0)] H fun x H' => x = .c (bC (!ovB d0 b.tabs l e)) ∧ H' = H := by
 refine Spec.enter Tryz.func96 rfl ?_
 refine AW.wk (Wk.keep 10 [(0, .c (exC e)), (1, .c (.a (.bp k3 0))), (2, .c (.a (.bp k5 0)))] [] (H) rfl ⟨rfl, rfl, rfl, trivial⟩ trivial (fun _ _ h => h) rfl) ?_
 refine sR (Z16 (r := [_, _, _, _, _, _, _, _]) ?_)
 refine sB ?_
 refine sR (Z17 Fx.ty76 ?_)
 refine Z12 (r := .g [_, _, _, _, _, _, _, _]) Fx.ty30 ?_
 refine Z17 Fx.ty24 ?_
 refine Z53 Fx.fn68 (h H hx) ?_
 refine Z33 ?_
 refine sB ?_
 refine AW.ret ?_
 exact f1 (q := ⟨rfl, rfl⟩)

set_option maxHeartbeats 4000000 in
set_option maxRecDepth 20000 in
theorem over_of (H : Heap) (kx : Nat) (d0 : List Tb) (b : Bd) (l : List Int) (e : Ex) (hx : H kx = some (.box (stA d0 b))) (hb : okB d0 b) (hl : l.length ≤ 17592186044000) (hin : inP b l) (ho : okE e) (ih : ∀ a ∈ e.args, OV d0 b kx l a) : E.Spec Tryz.prog 68 [.a (.bp kx 0), exC e, iL .un l] H fun x H' => x = .c (bC (ovB d0 b.tabs l e)) ∧ H' = H := by
 refine Spec.enter Tryz.func68 rfl ?_
 refine AW.wk (Wk.keep 21 [(0, .c (.a (.bp kx 0))), (1, .c (exC e)), (2, .c (iL .un l))] [] (H) rfl ⟨rfl, rfl, rfl, trivial⟩ trivial (fun _ _ h => h) rfl) ?_
 refine sR ?_
 refine SeqK.newBox (r := [_]) rfl rfl rfl rfl rfl rfl (fun k3 hk3 => ?_)
 refine SeqK.newBox (r := [_, _, _, _, _, _, _, _]) rfl rfl rfl rfl rfl rfl (fun k4 hk4 => ?_)
 refine SeqK.newBox (r := [_]) rfl rfl rfl rfl rfl rfl (fun k5 hk5 => ?_)
 refine sB ?_
 refine AW.seq (AW.seq ?_)
 obtain ⟨n54, q5⟩ := upd_lt hk5
 obtain ⟨n53, q6⟩ := upd_lt q5
 obtain ⟨n43, q7⟩ := upd_lt hk4
 have k4a := (okE_iff.1 ho).1.2.2.2
 have hp := ovB_eq (d0 := d0) (tabs := b.tabs) (l := l) e
 refine AW.reg (SeqK.q (q_fieldH _ rfl Fx.fl30_0 rfl rfl) rfl rfl rfl ?_)
 refine Z17 Fx.ty3 ?_
 refine Z8 ?_
 refine Z3 ?_
 refine AW.condD rfl ?_ ?_ <;> intro h10
 ·
  refine sR (SeqK.q (q_mkFn rfl rfl rfl) rfl rfl rfl ?_)
  refine sB ?_
  refine sR (Z17 Fx.ty24 ?_)
  refine sM ?_
  refine Z53 Fx.fn94 (anyF_it _ 93 [.bp k3 0, .bp k4 0] (fun i => decide (ovP d0 b.tabs e.ix i)) l .un Fx.fn93 hl (fun v hv H1 h1 => over1_any H1 k3 k4 kx d0 b e (h1 _ _ (upd_sub hk5 _ _ (upd_sub hk4 _ _ (upd_same _ _ _)))) (h1 _ _ (upd_sub hk5 _ _ (upd_same _ _ _))) (h1 _ _ ((fun j o h => upd_sub hk5 j o (upd_sub hk4 j o (upd_sub hk3 j o h))) _ _ hx)) hb v (hin v hv))) ?_
  refine Z33 ?_
  refine Z3 ?_
  refine AW.cond _ rfl (fun h15 => ?_) (fun h15 => ?_)
  ·
   refine sR (sB ?_)
   refine AW.ret ?_
   exact fin_x (x := .c _) (H) (.tmp rfl .nil) rfl ((fun j o h => upd_sub hk5 j o (upd_sub hk4 j o (upd_sub hk3 j o h)))) (⟨bCe (by rw [hp, (by simpa using h15 : (l.any fun i => decide (ovP d0 b.tabs e.ix i)) = false), decide_eq_false (p := e.op ≠ 2) (fun h => h (by assumption))]; rfl), rfl⟩)
  refine AW.skip (AW.seq ?_)
  have hA : (decide (e.op ≠ 2) || l.any fun i => decide (ovP d0 b.tabs e.ix i)) = true := by first | (have h9 : (l.any fun i => decide (ovP d0 b.tabs e.ix i)) = true := (by simpa using h15); rw [h9]; simp) | (rw [decide_eq_true (p := e.op ≠ 2) (by assumption)]; rfl)
  refine AW.reg (SeqK.q (q_fieldH _ rfl Fx.fl30_5 rfl rfl) rfl rfl rfl ?_)
  refine Z17 Fx.ty28 ?_
  refine SeqK.q (q_mkFn rfl rfl rfl) rfl rfl rfl ?_
  refine Z53 Fx.fn95 (anyF_ex _ 96 [.bp k3 0, .bp k5 0] (fun a => !ovB d0 b.tabs l a) e.args .un Fx.fn96 k4a (fun a ha H1 h1 => over2_any H1 k3 k5 kx d0 b l a (h1 _ _ (upd_sub hk5 _ _ (upd_sub hk4 _ _ (upd_same _ _ _)))) (h1 _ _ (upd_same _ _ _)) (h1 _ _ ((fun j o h => upd_sub hk5 j o (upd_sub hk4 j o (upd_sub hk3 j o h))) _ _ hx)) (ih a ha))) ?_
  refine Z33 ?_
  refine sB ?_
  refine AW.ret ?_
  exact fin_x (x := .c _) (H) (.tmp rfl .nil) rfl ((fun j o h => upd_sub hk5 j o (upd_sub hk4 j o (upd_sub hk3 j o h)))) (⟨bCe (by rw [hp, hA, Bool.true_and]; exact any_not _), rfl⟩)
 refine AW.skip (AW.seq ?_)
 have hA : (decide (e.op ≠ 2) || l.any fun i => decide (ovP d0 b.tabs e.ix i)) = true := by first | (have h9 : (l.any fun i => decide (ovP d0 b.tabs e.ix i)) = true := (by simpa using h15); rw [h9]; simp) | (rw [decide_eq_true (p := e.op ≠ 2) (by assumption)]; rfl)
 refine AW.reg (SeqK.q (q_fieldH _ rfl Fx.fl30_5 rfl rfl) rfl rfl rfl ?_)
 refine Z17 Fx.ty28 ?_
 refine SeqK.q (q_mkFn rfl rfl rfl) rfl rfl rfl ?_
 refine Z53 Fx.fn95 (anyF_ex _ 96 [.bp k3 0, .bp k5 0] (fun a => !ovB d0 b.tabs l a) e.args .un Fx.fn96 k4a (fun a ha H1 h1 => over2_any H1 k3 k5 kx d0 b l a (h1 _ _ (upd_sub hk5 _ _ (upd_sub hk4 _ _ (upd_same _ _ _)))) (h1 _ _ (upd_same _ _ _)) (h1 _ _ ((fun j o h => upd_sub hk5 j o (upd_sub hk4 j o (upd_sub hk3 j o h))) _ _ hx)) (ih a ha))) ?_
 refine Z33 ?_
 refine sB ?_
 refine AW.ret ?_
 exact fin_x (x := .c _) (H) (.tmp rfl .nil) rfl ((fun j o h => upd_sub hk5 j o (upd_sub hk4 j o (upd_sub hk3 j o h)))) (⟨bCe (by rw [hp, hA, Bool.true_and]; exact any_not _), rfl⟩)

theorem over_any (kx : Nat) (d0 : List Tb) (b : Bd) (l : List Int) (hb : okB d0 b) (hl : l.length ≤ 17592186044000) (hin : inP b l) (e : Ex) : okE e → OV d0 b kx l e := by
  induction e using Ex.rec' with
  | h e ih => exact fun ho H hx => over_of H kx d0 b l e hx hb hl hin ho fun a ha => ih a ha ((okE_iff.1 ho).2 a ha)

end Go.Proofs.YtihlgigaejhilaaGreatDoor.W
namespace Go.Proofs.YtihlgigaejhilaaGreatDoor.W
open Go.RowKit E
/-! leaves of a plan -/
/-- the keys that are there -/
def prs (l : List Ex) : Nat := (l.filter fun k => decide (k.op ≠ 0)).length
theorem prs_take {l : List Ex} {i : Nat} (hi : i < l.length) : prs (l.take (i + 1)) = prs (l.take i) + if l[i].op ≠ 0 then 1 else 0 := by
  rw [take_put hi, prs, prs, List.filter_append, List.length_append]
  by_cases h : l[i].op ≠ 0
  · rw [if_pos h, List.filter_cons_of_pos (by simpa using h)]; rfl
  · rw [if_neg h, List.filter_cons_of_neg (by simpa using h)]; rfl
abbrev colQ (n : Nat) (l : List Int) (j : Nat) (h : j < l.length) : Prop := (0 ≤ l[j] ∧ l[j] < n) ∧ l[j] ∉ l.take j
abbrev keyQ (d0 : List Tb) (b : Bd) (l : List Int) (k : Ex) : Prop := (k.op = 0 → k = ex0) ∧ (k.op ≠ 0 → ovB d0 b.tabs l k = true)
abbrev lf1 (b : Bd) (p : Pl) : Prop := (0 ≤ p.src ∧ p.src < b.tabs.length) ∧ p.args.length = 0 ∧ p.flt = ex0
abbrev lf4 (p : Pl) : Prop := if p.k = 1 then p.cols.length = 0 ∧ p.keys.length = 0 else if p.k = 2 then 0 < p.cols.length ∧ p.keys.length = p.cols.length ∧ prs p.keys = p.keys.length else p.cols.length = 1 ∧ p.keys.length = 2 ∧ 0 < prs p.keys
/-- a leaf that is well-formed -/
abbrev lfP (d0 : List Tb) (b : Bd) (l : List Int) (p : Pl) : Prop := lf1 b p ∧ (∀ j (h : j < p.cols.length), colQ (ncol d0 (tabI b.tabs p.src)) p.cols j h) ∧ (∀ j (h : j < p.keys.length), keyQ d0 b l p.keys[j]) ∧ lf4 p

set_option maxHeartbeats 8000000 in
set_option maxRecDepth 20000 in
theorem leaf_any (H : Heap) (kx : Nat) (d0 : List Tb) (b : Bd) (hx : H kx = some (.box (stA d0 b))) (hb : okB d0 b) (l : List Int) (hl : l.length ≤ 17592186044000) (hin : inP b l) (p : Pl) (ho : okP p) : E.Spec Tryz.prog 67 [.a (.bp kx 0), plC p, iL .un l] H fun x H' => x = .c (bC (decide (lfP d0 b l p))) ∧ H' = H := by
 refine Spec.enter Tryz.func67 rfl ?_
 refine AW.wk (Wk.keep 131 [(0, .c (.a (.bp kx 0))), (1, .c (plC p)), (2, .c (iL .un l))] [] (H) rfl ⟨rfl, rfl, rfl, trivial⟩ trivial (fun _ _ h => h) rfl) ?_
 refine sR (Z16 (r := [_, _, _, _, _, _, _, _, _, _, _, _, _]) ?_)
 refine sB ?_
 refine AW.seq (AW.seq ?_)
 obtain ⟨⟨k1, k2, k3, kf, kk⟩, k5⟩ := okP_iff.1 ho
 refine AW.reg (sM ?_)
 refine Z1 Fx.fl35_1 ?_
 refine Z0 Fx.ty3 ?_
 refine Z53 Fx.fn91 (isSrc_any H kx d0 b hx hb p.src) ?_
 refine Z33 ?_
 refine SeqK.qB (q_mvC rfl rfl) rfl rfl rfl (fun g18 => ?_) (fun g18 => ?_)
 ·
  iterate 4 refine SeqK.off rfl rfl rfl rfl rfl rfl ?_
  refine Z4 ?_
  refine sM ?_
  iterate 4 refine SeqK.off rfl rfl rfl rfl rfl rfl ?_
  refine Z4 ?_
  refine Z3 (AW.condT rfl ?_)
  refine sR (sB ?_)
  refine AW.ret ?_
  exact f1 (q := ⟨bCe (dF (fun h => by have h9 := h.1; first | exact nd_t g18 h9.1 | (have h10 := h9.2.1; simp only [List.length_map] at *; omega) | exact nd_t h29 h9.2.2)), rfl⟩)
 refine Z6 Fx.fl35_5 ?_
 refine Z5 Fx.ty33 ?_
 refine Z28 Fx.un33 ?_
 refine Z35 ?_
 refine Z7 ?_
 refine Z19 (fun g24 => ?_) (fun g24 => ?_)
 ·
  iterate 4 refine SeqK.off rfl rfl rfl rfl rfl rfl ?_
  refine Z4 ?_
  refine Z3 (AW.condT rfl ?_)
  refine sR (sB ?_)
  refine AW.ret ?_
  exact f1 (q := ⟨bCe (dF (fun h => by have h9 := h.1; first | exact nd_t g18 h9.1 | (have h10 := h9.2.1; simp only [List.length_map] at *; omega) | exact nd_t h29 h9.2.2)), rfl⟩)
 refine Z6 Fx.fl35_4 ?_
 refine Z37 (r := .g [_, _, _, _, _, _, _, _]) Fx.ty30 ?_
 refine SeqK.on (q_call _ rfl Fx.fn70 rfl (absent_any p.flt kf) rfl) rfl rfl rfl rfl rfl ?_
 refine SeqK.on (q_not rfl rfl) rfl rfl rfl rfl rfl ?_
 refine Z7 ?_
 refine Z3 ?_
 refine AW.cond _ rfl (fun h29 => ?_) (fun h29 => ?_)
 ·
  refine sR (sB ?_)
  refine AW.ret ?_
  exact f1 (q := ⟨bCe (dF (fun h => by have h9 := h.1; first | exact nd_t g18 h9.1 | (have h10 := h9.2.1; simp only [List.length_map] at *; omega) | exact nd_t h29 h9.2.2)), rfl⟩)
 refine AW.skip (AW.seq ?_)
 have hs := nd_f g18
 have h1 : lf1 b p := ⟨hs, by rw [List.length_map] at g24; omega, nd_f h29⟩
 have hnn : ncol d0 (tabI b.tabs p.src) = (tbAt d0 (tabI b.tabs p.src)).cols.length := rfl
 have hu : p.src.toNat < b.tabs.length := by omega
 refine AW.reg (sM ?_)
 refine Z1 Fx.fl35_1 ?_
 refine Z0 Fx.ty3 ?_
 refine Z53 Fx.fn46 (table_st H kx d0 b hx hb p.src hs) ?_
 refine SeqK.q (q_field (ft := 36) _ rfl Fx.fl64_1 ⟨_, _, rfl, rfl, rfl⟩ Fx.ty36 rfl rfl rfl) rfl rfl rfl ?_
 refine Z14 Fx.un36 ?_
 refine sB ?_
 refine AW.seq (sR (Z1 Fx.fl35_2 ?_))
 refine Z0 Fx.ty24 ?_
 refine Z14 Fx.un24 ?_
 refine sM ?_
 refine Z3 (AW.block ?_)
 refine AW.loop (fun (i : Nat) s => (i ≤ p.cols.length ∧ ∀ j (h : j < p.cols.length), j < i → colQ (ncol d0 (tabI b.tabs p.src)) p.cols j h) ∧ s = ⟨131, sp [(0, .c (.a (.bp kx 0))), (2, .c (iL .un l)), (4, .lp 4 0), (6, .c (bC false)), (7, iX .i64 ((((tbAt d0 (tabI b.tabs p.src)).cols.map coT).length : Nat) : Int)), (37, .c (iL .un p.cols)), (38, iX .i64 (((p.cols.map i64T).length : Nat) : Int)), (39, iX .i64 ((i : Nat) : Int))], lv [(4, .box (zPl p))], H⟩) (fun i => p.cols.length - i) 0 ⟨_, by exact Wk.keep 131 _ _ _ rfl ⟨rfl, rfl, rfl, rfl, rfl, rfl, rfl, rfl, trivial⟩ ⟨rfl, trivial⟩ (fun _ _ h => h) rfl, ⟨Nat.zero_le _, up0⟩, rfl⟩ (fun i s hs => ?_)
 obtain ⟨⟨hi0, hU⟩, rfl⟩ := hs
 refine sR (Z10 ?_)
 refine Z3 (AW.seq ?_)
 refine AW.condD rfl ?_ ?_ <;> intro h40
 ·
  have hi : i < p.cols.length := by rw [List.length_map] at h40; omega
  refine AW.skip (AW.seq (AW.block (sR (sM ?_))))
  refine Z9 Fx.sl24 (idx_map (f := i64T) hi) ?_
  refine Z11 (.a _) Fx.ty3 ?_
  refine sA ?_
  refine sB ?_
  refine sR (sM ?_)
  refine Z10 ?_
  refine Z19 (fun g46 => ?_) (fun g46 => ?_)
  ·
   iterate 3 refine SeqK.off rfl rfl rfl rfl rfl rfl ?_
   refine Z4 ?_
   refine sM ?_
   iterate 6 refine SeqK.off rfl rfl rfl rfl rfl rfl ?_
   refine Z4 ?_
   refine Z3 (AW.condT rfl ?_)
   refine sR (sB ?_)
   refine AW.ret ?_
   exact f1 (q := ⟨bCe (dF (fun h => by have h9 := h.2.1 i hi; first | exact h9.2 (of_decide_eq_true h58) | (have e1 := h9.1.1; have e2 := h9.1.2; rw [hnn] at e2; simp only [List.length_map] at *; omega))), rfl⟩)
  refine Z13 ?_
  refine Z13 ?_
  refine SeqK.on (q_geq rfl rfl rfl) rfl rfl rfl rfl rfl ?_
  refine Z7 ?_
  refine Z19 (fun g51 => ?_) (fun g51 => ?_)
  ·
   iterate 6 refine SeqK.off rfl rfl rfl rfl rfl rfl ?_
   refine Z4 ?_
   refine Z3 (AW.condT rfl ?_)
   refine sR (sB ?_)
   refine AW.ret ?_
   exact f1 (q := ⟨bCe (dF (fun h => by have h9 := h.2.1 i hi; first | exact h9.2 (of_decide_eq_true h58) | (have e1 := h9.1.1; have e2 := h9.1.2; rw [hnn] at e2; simp only [List.length_map] at *; omega))), rfl⟩)
  refine Z6 Fx.fl35_2 ?_
  refine Z5 Fx.ty24 ?_
  refine Z13 ?_
  refine SeqK.on (q_cut 0 i ((p.cols.take i).map i64T) rfl Fx.sl24 rfl (by first | rfl | exact ⟨_, rfl⟩) (by first | rfl | exact ⟨_, rfl⟩) (by omega) (by simp only [List.length_map]; omega) (by rw [List.drop_zero, List.map_take])) rfl rfl rfl rfl rfl ?_
  refine Z13 ?_
  refine SeqK.on (q_call _ rfl Fx.fn92 rfl (cont_it (p.cols.take i) .un p.cols[i] (by rw [List.length_take]; omega)) rfl) rfl rfl rfl rfl rfl ?_
  refine Z7 ?_
  refine Z3 ?_
  refine AW.cond _ rfl (fun h58 => ?_) (fun h58 => ?_)
  ·
   refine sR (sB ?_)
   refine AW.ret ?_
   exact f1 (q := ⟨bCe (dF (fun h => by have h9 := h.2.1 i hi; first | exact h9.2 (of_decide_eq_true h58) | (have e1 := h9.1.1; have e2 := h9.1.2; rw [hnn] at e2; simp only [List.length_map] at *; omega))), rfl⟩)
  refine AW.skip (AW.reg (Z2 ?_))
  refine sM ?_
  refine Z3 ?_
  exact ⟨i + 1, _, by exact Wk.keep 131 _ _ _ rfl ⟨rfl, rfl, rfl, rfl, rfl, rfl, rfl, rfl, trivial⟩ ⟨rfl, trivial⟩ (fun _ _ h => h) rfl, by omega, ⟨hi, upS (Q := fun j h => colQ (ncol d0 (tabI b.tabs p.src)) p.cols j h) hi hU ⟨⟨by omega, by rw [hnn]; simp only [List.length_map] at g51; omega⟩, of_decide_eq_false h58⟩⟩, rfl⟩
 refine AW.exit ?_
 refine eth_e ?_
 refine eth_e ?_
 refine exit_here ?_
 refine AW.seq ?_
 have hA := upE hU (by rw [List.length_map] at h40; omega)
 refine AW.reg (sB ?_)
 refine AW.seq (sR (Z1 Fx.fl35_3 ?_))
 refine Z0 Fx.ty28 ?_
 refine Z14 Fx.un28 ?_
 refine sM ?_
 refine Z3 (AW.block ?_)
 refine AW.loop (fun (i : Nat) s => ∃ (n : Nat), (i ≤ p.keys.length ∧ (n = prs (p.keys.take i) ∧ n ≤ i) ∧ ∀ j (h : j < p.keys.length), j < i → keyQ d0 b l p.keys[j]) ∧ s = ⟨131, sp [(0, .c (.a (.bp kx 0))), (2, .c (iL .un l)), (4, .lp 4 0), (6, .c (bC false)), (10, iX .i64 ((n : Nat) : Int)), (61, .c (exsC .un p.keys)), (62, iX .i64 (((p.keys.map exT').length : Nat) : Int)), (63, iX .i64 ((i : Nat) : Int))], lv [(4, .box (zPl p))], H⟩) (fun i => p.keys.length - i) 0 ⟨_, by exact Wk.keep 131 _ _ _ rfl ⟨rfl, rfl, rfl, rfl, rfl, rfl, rfl, rfl, trivial⟩ ⟨rfl, trivial⟩ (fun _ _ h => h) rfl, 0, ⟨Nat.zero_le _, ⟨rfl, Nat.le_refl _⟩, up0⟩, rfl⟩ (fun i s hs => ?_)
 obtain ⟨n, ⟨hi0, ⟨hn, hni⟩, hV⟩, rfl⟩ := hs
 refine sR (Z10 ?_)
 refine Z3 (AW.seq ?_)
 refine AW.condD rfl ?_ ?_ <;> intro h64
 ·
  have hi : i < p.keys.length := by rw [List.length_map] at h64; omega
  refine AW.skip (AW.seq (AW.block (sR (Z9 Fx.sl28 (idx_ex hi) ?_))))
  refine Z11 (.g [_, _, _, _, _, _, _, _]) Fx.ty30 ?_
  refine Z25 (r := [_, _, _, _, _, _, _, _]) Fx.ze30 ?_
  refine Z15 (r := [_, _, _, _, _, _, _, _]) Fx.ty30 ?_
  refine Z3 (AW.seq (sR (Z1 Fx.fl30_0 ?_)))
  refine Z0 Fx.ty3 ?_
  refine Z8 ?_
  refine Z3 ?_
  refine AW.condD rfl ?_ ?_ <;> intro h69
  ·
   refine AW.seq (sR (Z12 (r := .g [_, _, _, _, _, _, _, _]) Fx.ty30 ?_))
   refine Z22 Fx.fn70 (absent_any p.keys[i] (kk _ (List.getElem_mem hi))) ?_
   refine Z33 ?_
   refine Z3 ?_
   refine AW.cond _ rfl (fun h72 => ?_) (fun h72 => ?_)
   ·
    refine sR (sB ?_)
    refine AW.ret ?_
    exact f1 (q := ⟨bCe (dF (fun h => nd_t h72 ((h.2.2.1 i hi).1 h69))), rfl⟩)
   refine AW.skip (AW.exit ?_)
   refine eth_e ?_
   refine exit_here ?_
   refine AW.reg (Z2 ?_)
   refine sM ?_
   refine Z3 ?_
   exact ⟨i + 1, _, by exact Wk.keep 131 _ _ _ rfl ⟨rfl, rfl, rfl, rfl, rfl, rfl, rfl, rfl, trivial⟩ ⟨rfl, trivial⟩ (fun _ _ h => h) rfl, by omega, n, ⟨hi, ⟨by rw [prs_take hi, if_neg (fun h => h h69)]; exact hn, by omega⟩, upS (Q := fun j h => keyQ d0 b l p.keys[j]) hi hV ⟨fun _ => nd_f h72, fun h => absurd h69 h⟩⟩, rfl⟩
  refine AW.skip (sR (sM ?_))
  refine SeqK.q (q_add _ rfl rfl rfl ((by rw [w64 (by omega) (by omega)]; rfl : IntKind.i64.wrap _ = ((n + 1 : Nat) : Int)))) rfl rfl rfl ?_
  refine sB ?_
  refine sR (sM ?_)
  refine Z12 (r := .g [_, _, _, _, _, _, _, _]) Fx.ty30 ?_
  refine sM ?_
  refine Z53 Fx.fn68 (over_any kx d0 b l hb hl hin p.keys[i] (kk _ (List.getElem_mem hi)) H hx) ?_
  refine Z33 ?_
  refine Z3 ?_
  refine AW.cond _ rfl (fun h79 => ?_) (fun h79 => ?_)
  ·
   refine sR (sB ?_)
   refine AW.ret ?_
   exact f1 (q := ⟨bCe (dF (fun h => by have h10 := (h.2.2.1 i hi).2 h69; rw [h10] at h79; cases h79)), rfl⟩)
  refine AW.skip (AW.reg (Z2 ?_))
  refine sM ?_
  refine Z3 ?_
  exact ⟨i + 1, _, by exact Wk.keep 131 _ _ _ rfl ⟨rfl, rfl, rfl, rfl, rfl, rfl, rfl, rfl, trivial⟩ ⟨rfl, trivial⟩ (fun _ _ h => h) rfl, by omega, n + 1, ⟨hi, ⟨by rw [prs_take hi, if_pos h69, hn], by omega⟩, upS (Q := fun j h => keyQ d0 b l p.keys[j]) hi hV ⟨fun h => absurd h h69, fun _ => by simpa using h79⟩⟩, rfl⟩
 refine AW.exit ?_
 refine eth_e ?_
 refine eth_e ?_
 refine exit_here ?_
 refine AW.seq (AW.seq ?_)
 have hB := upE hV (by rw [List.length_map] at h64; omega)
 have hn2 : n = prs p.keys := by rw [hn, List.take_of_length_le (by rw [List.length_map] at h64; omega)]
 have hL : lfP d0 b l p ↔ lf4 p := ⟨fun h => h.2.2.2, fun h => ⟨h1, hA, hB, h⟩⟩
 refine AW.reg (Z1 Fx.fl35_0 ?_)
 refine Z0 Fx.ty3 ?_
 refine Z3 (AW.block (sR (Z8 ?_)))
 refine sB ?_
 refine AW.condD rfl ?_ ?_ <;> intro h83
 ·
  refine sR (Z1 Fx.fl35_2 ?_)
  refine Z0 Fx.ty24 ?_
  refine Z14 Fx.un24 ?_
  refine Z8 ?_
  refine Z19 (fun g89 => ?_) (fun g89 => ?_)
  ·
   refine Z6 Fx.fl35_3 ?_
   refine Z5 Fx.ty28 ?_
   refine Z28 Fx.un28 ?_
   refine Z44 ?_
   refine Z4 ?_
   refine sB ?_
   refine AW.ret ?_
   exact f1 (q := ⟨bCe (by first | exact dI ⟨fun h => hL.2 (by unfold lf4; first | (rw [if_pos h83]; (simp only [List.length_map] at *; omega)) | (rw [if_neg h83, if_pos h95]; (simp only [List.length_map] at *; omega)) | (rw [if_neg h83, if_neg h95]; (simp only [List.length_map] at *; omega))), fun h => by have h9 := hL.1 h; unfold lf4 at h9; first | (rw [if_pos h83] at h9; (simp only [List.length_map] at *; omega)) | (rw [if_neg h83, if_pos h95] at h9; (simp only [List.length_map] at *; omega)) | (rw [if_neg h83, if_neg h95] at h9; (simp only [List.length_map] at *; omega))⟩ | exact dF (fun h => by have h9 := hL.1 h; unfold lf4 at h9; first | (rw [if_pos h83] at h9; (simp only [List.length_map] at *; omega)) | (rw [if_neg h83, if_pos h95] at h9; (simp only [List.length_map] at *; omega)) | (rw [if_neg h83, if_neg h95] at h9; (simp only [List.length_map] at *; omega)))), rfl⟩)
  iterate 4 refine SeqK.off rfl rfl rfl rfl rfl rfl ?_
  refine Z7 ?_
  refine sB ?_
  refine AW.ret ?_
  exact f1 (q := ⟨bCe (by first | exact dI ⟨fun h => hL.2 (by unfold lf4; first | (rw [if_pos h83]; (simp only [List.length_map] at *; omega)) | (rw [if_neg h83, if_pos h95]; (simp only [List.length_map] at *; omega)) | (rw [if_neg h83, if_neg h95]; (simp only [List.length_map] at *; omega))), fun h => by have h9 := hL.1 h; unfold lf4 at h9; first | (rw [if_pos h83] at h9; (simp only [List.length_map] at *; omega)) | (rw [if_neg h83, if_pos h95] at h9; (simp only [List.length_map] at *; omega)) | (rw [if_neg h83, if_neg h95] at h9; (simp only [List.length_map] at *; omega))⟩ | exact dF (fun h => by have h9 := hL.1 h; unfold lf4 at h9; first | (rw [if_pos h83] at h9; (simp only [List.length_map] at *; omega)) | (rw [if_neg h83, if_pos h95] at h9; (simp only [List.length_map] at *; omega)) | (rw [if_neg h83, if_neg h95] at h9; (simp only [List.length_map] at *; omega)))), rfl⟩)
 refine sR (Z8 ?_)
 refine sB ?_
 refine AW.condD rfl ?_ ?_ <;> intro h95
 ·
  refine sR (Z1 Fx.fl35_2 ?_)
  refine Z0 Fx.ty24 ?_
  refine Z14 Fx.un24 ?_
  refine SeqK.q (q_gtr rfl rfl rfl) rfl rfl rfl ?_
  refine Z19 (fun g101 => ?_) (fun g101 => ?_)
  ·
   refine Z6 Fx.fl35_3 ?_
   refine Z5 Fx.ty28 ?_
   refine Z28 Fx.un28 ?_
   refine Z6 Fx.fl35_2 ?_
   refine Z5 Fx.ty24 ?_
   refine Z28 Fx.un24 ?_
   refine Z44 ?_
   refine Z4 ?_
   refine Z19 (fun g110 => ?_) (fun g110 => ?_)
   ·
    refine Z13 ?_
    refine Z6 Fx.fl35_3 ?_
    refine Z5 Fx.ty28 ?_
    refine Z28 Fx.un28 ?_
    refine Z44 ?_
    refine Z4 ?_
    refine sB ?_
    refine AW.ret ?_
    exact f1 (q := ⟨bCe (by first | exact dI ⟨fun h => hL.2 (by unfold lf4; first | (rw [if_pos h83]; (simp only [List.length_map] at *; omega)) | (rw [if_neg h83, if_pos h95]; (simp only [List.length_map] at *; omega)) | (rw [if_neg h83, if_neg h95]; (simp only [List.length_map] at *; omega))), fun h => by have h9 := hL.1 h; unfold lf4 at h9; first | (rw [if_pos h83] at h9; (simp only [List.length_map] at *; omega)) | (rw [if_neg h83, if_pos h95] at h9; (simp only [List.length_map] at *; omega)) | (rw [if_neg h83, if_neg h95] at h9; (simp only [List.length_map] at *; omega))⟩ | exact dF (fun h => by have h9 := hL.1 h; unfold lf4 at h9; first | (rw [if_pos h83] at h9; (simp only [List.length_map] at *; omega)) | (rw [if_neg h83, if_pos h95] at h9; (simp only [List.length_map] at *; omega)) | (rw [if_neg h83, if_neg h95] at h9; (simp only [List.length_map] at *; omega)))), rfl⟩)
   iterate 5 refine SeqK.off rfl rfl rfl rfl rfl rfl ?_
   refine Z7 ?_
   refine sB ?_
   refine AW.ret ?_
   exact f1 (q := ⟨bCe (by first | exact dI ⟨fun h => hL.2 (by unfold lf4; first | (rw [if_pos h83]; (simp only [List.length_map] at *; omega)) | (rw [if_neg h83, if_pos h95]; (simp only [List.length_map] at *; omega)) | (rw [if_neg h83, if_neg h95]; (simp only [List.length_map] at *; omega))), fun h => by have h9 := hL.1 h; unfold lf4 at h9; first | (rw [if_pos h83] at h9; (simp only [List.length_map] at *; omega)) | (rw [if_neg h83, if_pos h95] at h9; (simp only [List.length_map] at *; omega)) | (rw [if_neg h83, if_neg h95] at h9; (simp only [List.length_map] at *; omega))⟩ | exact dF (fun h => by have h9 := hL.1 h; unfold lf4 at h9; first | (rw [if_pos h83] at h9; (simp only [List.length_map] at *; omega)) | (rw [if_neg h83, if_pos h95] at h9; (simp only [List.length_map] at *; omega)) | (rw [if_neg h83, if_neg h95] at h9; (simp only [List.length_map] at *; omega)))), rfl⟩)
  iterate 7 refine SeqK.off rfl rfl rfl rfl rfl rfl ?_
  refine Z7 ?_
  refine sM ?_
  iterate 5 refine SeqK.off rfl rfl rfl rfl rfl rfl ?_
  refine Z7 ?_
  refine sB ?_
  refine AW.ret ?_
  exact f1 (q := ⟨bCe (by first | exact dI ⟨fun h => hL.2 (by unfold lf4; first | (rw [if_pos h83]; (simp only [List.length_map] at *; omega)) | (rw [if_neg h83, if_pos h95]; (simp only [List.length_map] at *; omega)) | (rw [if_neg h83, if_neg h95]; (simp only [List.length_map] at *; omega))), fun h => by have h9 := hL.1 h; unfold lf4 at h9; first | (rw [if_pos h83] at h9; (simp only [List.length_map] at *; omega)) | (rw [if_neg h83, if_pos h95] at h9; (simp only [List.length_map] at *; omega)) | (rw [if_neg h83, if_neg h95] at h9; (simp only [List.length_map] at *; omega))⟩ | exact dF (fun h => by have h9 := hL.1 h; unfold lf4 at h9; first | (rw [if_pos h83] at h9; (simp only [List.length_map] at *; omega)) | (rw [if_neg h83, if_pos h95] at h9; (simp only [List.length_map] at *; omega)) | (rw [if_neg h83, if_neg h95] at h9; (simp only [List.length_map] at *; omega)))), rfl⟩)
 refine AW.skip (sR (Z1 Fx.fl35_2 ?_))
 refine Z0 Fx.ty24 ?_
 refine Z14 Fx.un24 ?_
 refine Z8 ?_
 refine Z19 (fun g121 => ?_) (fun g121 => ?_)
 ·
  refine Z6 Fx.fl35_3 ?_
  refine Z5 Fx.ty28 ?_
  refine Z28 Fx.un28 ?_
  refine Z44 ?_
  refine Z4 ?_
  refine Z19 (fun g127 => ?_) (fun g127 => ?_)
  ·
   refine Z13 ?_
   refine Z35 ?_
   refine Z4 ?_
   refine sB ?_
   refine AW.ret ?_
   exact f1 (q := ⟨bCe (by first | exact dI ⟨fun h => hL.2 (by unfold lf4; first | (rw [if_pos h83]; (simp only [List.length_map] at *; omega)) | (rw [if_neg h83, if_pos h95]; (simp only [List.length_map] at *; omega)) | (rw [if_neg h83, if_neg h95]; (simp only [List.length_map] at *; omega))), fun h => by have h9 := hL.1 h; unfold lf4 at h9; first | (rw [if_pos h83] at h9; (simp only [List.length_map] at *; omega)) | (rw [if_neg h83, if_pos h95] at h9; (simp only [List.length_map] at *; omega)) | (rw [if_neg h83, if_neg h95] at h9; (simp only [List.length_map] at *; omega))⟩ | exact dF (fun h => by have h9 := hL.1 h; unfold lf4 at h9; first | (rw [if_pos h83] at h9; (simp only [List.length_map] at *; omega)) | (rw [if_neg h83, if_pos h95] at h9; (simp only [List.length_map] at *; omega)) | (rw [if_neg h83, if_neg h95] at h9; (simp only [List.length_map] at *; omega)))), rfl⟩)
  iterate 2 refine SeqK.off rfl rfl rfl rfl rfl rfl ?_
  refine Z7 ?_
  refine sB ?_
  refine AW.ret ?_
  exact f1 (q := ⟨bCe (by first | exact dI ⟨fun h => hL.2 (by unfold lf4; first | (rw [if_pos h83]; (simp only [List.length_map] at *; omega)) | (rw [if_neg h83, if_pos h95]; (simp only [List.length_map] at *; omega)) | (rw [if_neg h83, if_neg h95]; (simp only [List.length_map] at *; omega))), fun h => by have h9 := hL.1 h; unfold lf4 at h9; first | (rw [if_pos h83] at h9; (simp only [List.length_map] at *; omega)) | (rw [if_neg h83, if_pos h95] at h9; (simp only [List.length_map] at *; omega)) | (rw [if_neg h83, if_neg h95] at h9; (simp only [List.length_map] at *; omega))⟩ | exact dF (fun h => by have h9 := hL.1 h; unfold lf4 at h9; first | (rw [if_pos h83] at h9; (simp only [List.length_map] at *; omega)) | (rw [if_neg h83, if_pos h95] at h9; (simp only [List.length_map] at *; omega)) | (rw [if_neg h83, if_neg h95] at h9; (simp only [List.length_map] at *; omega)))), rfl⟩)
 iterate 4 refine SeqK.off rfl rfl rfl rfl rfl rfl ?_
 refine Z7 ?_
 refine sM ?_
 iterate 2 refine SeqK.off rfl rfl rfl rfl rfl rfl ?_
 refine Z7 ?_
 refine sB ?_
 refine AW.ret ?_
 exact f1 (q := ⟨bCe (by first | exact dI ⟨fun h => hL.2 (by unfold lf4; first | (rw [if_pos h83]; (simp only [List.length_map] at *; omega)) | (rw [if_neg h83, if_pos h95]; (simp only [List.length_map] at *; omega)) | (rw [if_neg h83, if_neg h95]; (simp only [List.length_map] at *; omega))), fun h => by have h9 := hL.1 h; unfold lf4 at h9; first | (rw [if_pos h83] at h9; (simp only [List.length_map] at *; omega)) | (rw [if_neg h83, if_pos h95] at h9; (simp only [List.length_map] at *; omega)) | (rw [if_neg h83, if_neg h95] at h9; (simp only [List.length_map] at *; omega))⟩ | exact dF (fun h => by have h9 := hL.1 h; unfold lf4 at h9; first | (rw [if_pos h83] at h9; (simp only [List.length_map] at *; omega)) | (rw [if_neg h83, if_pos h95] at h9; (simp only [List.length_map] at *; omega)) | (rw [if_neg h83, if_neg h95] at h9; (simp only [List.length_map] at *; omega)))), rfl⟩)

end Go.Proofs.YtihlgigaejhilaaGreatDoor.W
