import Derived.Test.YtnnoafgdjjpidaaGreatDoorM19
set_option maxRecDepth 20000
set_option maxHeartbeats 8000000
set_option linter.unusedSectionVars false
set_option linter.unusedSimpArgs false
set_option linter.unusedVariables false
namespace Go.Proofs.YtnnoafgdjjpidaaGreatDoor.W
open Go.RowKit E M
theorem vv_of {v : RV} (h : D.vvP v) (hk : v.k = 2) : v.n = 0 ∧ vtX v.s := by
  rcases h with h | h | h
  · omega
  · omega
  · exact ⟨h.2.1, h.2.2.1, h.2.2.2⟩
theorem list1 {l : List Ex} (h : l.length = 1) : l = [l[0]] := by
  match l, h with
  | [a], _ => rfl
theorem list2 {l : List Ex} (h : l.length = 2) : l = [l[0], l[1]] := by
  match l, h with
  | [a, b], _ => rfl
theorem args1 {e : Ex} (h : e.args.length = 1) : e.args = [e.args[0]] := list1 h
theorem args2 {e : Ex} (h : e.args.length = 2) : e.args = [e.args[0], e.args[1]] := list2 h
mutual
def rgQ : Ex → Prop
  | .mk _ _ _ ix _ vn vs args => (R64 ix ∧ R64 vn ∧ vs.size ≤ 1000000000000000 ∧ args.length ≤ 1000000000000000000) ∧ rgQs args
def rgQs : List Ex → Prop
  | [] => True
  | a :: r => rgQ a ∧ rgQs r
end
theorem rgQs_iff {l : List Ex} : rgQs l ↔ ∀ a ∈ l, rgQ a := by
  induction l with
  | nil => simp [rgQs]
  | cons a r ih => simp [rgQs, ih]
theorem rgQ_eq (e : Ex) : rgQ e ↔ (R64 e.ix ∧ R64 e.vn ∧ e.vs.size ≤ 1000000000000000 ∧ e.args.length ≤ 1000000000000000000) ∧ ∀ a ∈ e.args, rgQ a := by
  cases e; simp only [rgQ, rgQs_iff]
theorem rgQ_E (e : Ex) : rgQ e → rgE' e := by
  induction e using Ex.ind with
  | h e ih =>
    intro h
    have h' := (rgQ_eq e).1 h
    exact (rgE_eq e).2 ⟨⟨h'.1.1, h'.1.2.1, by omega, h'.1.2.2.2⟩, fun a ha => ih a ha (h'.2 a ha)⟩
theorem in_lit {l : List Vr} {e : Ex} (h1 : e.op = 1) (hl : e.args.length = 0) (h : D.vvP ⟨e.vk, e.vn, e.vs⟩) (hk : e.vk = 1 ∨ e.vk = 0) : inB l e = true := by
  rw [inB_eq, if_pos h1]
  refine decide_eq_true ⟨hl, ?_⟩
  rcases h with k | k | k
  · exact .inr k
  · exact .inl k
  · have k1 : e.vk = 2 := k.1
    omega
theorem all1 {e : Ex} {l : List Vr} (h : e.args.length = 1) (h0 : inB l e.args[0] = true) : e.args.all (inB l) = true := by rw [args1 h]; simp [h0]
theorem all2 {e : Ex} {l : List Vr} (h : e.args.length = 2) (h0 : inB l e.args[0] = true) (h1 : inB l e.args[1] = true) : e.args.all (inB l) = true := by rw [args2 h]; simp [h0, h1]
theorem inL_mk {l : List Vr} {a : Ex} (h : a.args.length = 0) (h2 : (a.op = 2 ∧ htB l a.ix 2 = true) ∨ (a.op = 1 ∧ a.vk = 2 ∧ a.vn = 0 ∧ vtX a.vs) ∨ (a.op = 1 ∧ a.vk = 0 ∧ a.vn = 0 ∧ a.vs = ⟨#[]⟩)) : inL l [a] = true := by
  rw [inL, decide_eq_true h, Bool.true_and]
  rcases h2 with h2 | h2 | h2
  · rw [decide_eq_true h2.1, h2.2]; rfl
  · rw [decide_eq_true h2]; simp
  · rw [decide_eq_true h2]; simp
theorem txX_inv {l : List Vr} {e : Ex} (h : txX l e = true) : e.args.length = 0 ∧ ((e.op = 2 ∧ htB l e.ix 2 = true) ∨ (e.op ≠ 2 ∧ e.op = 1 ∧ e.vk = 2)) := by
  rw [txX, Bool.and_eq_true] at h
  refine ⟨of_decide_eq_true h.1, ?_⟩
  have h2 := h.2
  unfold txB at h2
  split at h2
  · rename_i k; exact .inl ⟨k, h2⟩
  · rename_i k; have := of_decide_eq_true h2; exact .inr ⟨k, this⟩
theorem integer_of (e : Ex) (l : List Vr) (z : Nz) (hL : l.length ≤ 17592186044000) (hr : rgQ e) (ih : ∀ a ∈ e.args, ∀ H : Heap, E.Spec Tryz.prog 61 [exC a, vsC z l] H fun x H' => ∃ b, x = .c (bC b) ∧ (b = true → inB l a = true) ∧ H' = H) (H : Heap) : E.Spec Tryz.prog 61 [exC e, vsC z l] H fun x H' => ∃ b, x = .c (bC b) ∧ (b = true → inB l e = true) ∧ H' = H := by
 have hre := (rgQ_eq e).1 hr
 have hrs := hre.2
 have hz0 := hre.1.2.2.1
 have hlen := hre.1.2.2.2
 refine Spec.enter Tryz.func61 rfl ?_
 refine AW.wk (Wk.keep 138 [(0, .c (exC e)), (1, .c (vsC z l))] [] (H) rfl ⟨rfl, rfl, trivial⟩ trivial (fun _ _ h => h) rfl) ?_
 refine sR (Z20 (r := [_, _, _, _, _, _, _, _]) ?_)
 refine sB ?_
 refine AW.seq (sR (Z1 Fx.fl26_0 ?_))
 refine Z0 Fx.ty3 ?_
 refine Z7 (AW.block (sR (Z9 ?_)))
 refine sB ?_
 refine cD ?_ ?_ <;> intro h7
 ·
  refine sR (Z1 Fx.fl26_5 ?_)
  refine Z0 Fx.ty24 ?_
  refine Z22 Fx.un24 ?_
  refine Z9 ?_
  refine Z17 ?_ ?_ <;> intro g13
  rotate_left
  ·
   iterate 5 refine oF ?_
   iterate 4 refine oU ?_
   refine Z34 ?_
   refine Z4 ?_
   refine sM ?_
   iterate 3 refine oF ?_
   refine Z4 ?_
   refine sB ?_
   exact aR (f1 (q := ⟨_, rfl, by first | exact (fun h => in_lit (by assumption) (by first | omega | (simp only [List.length_map] at *; omega)) (of_decide_eq_true h) (by omega)) | exact (fun h => by first | (cases h; done) | (exfalso; simp_all; done)), rfl⟩))
  refine Z5 Fx.fl26_4 ?_
  refine Z5 Fx.fl23_0 ?_
  refine Z3 Fx.ty3 ?_
  refine Z21 ?_
  refine Z46 ?_ ?_ <;> intro g18
  ·
   iterate 4 refine oF ?_
   refine Z33 ?_
   refine Z8 ?_
   refine sM ?_
   refine Z5 Fx.fl26_4 ?_
   refine Z25 (r := .g [_, _, _]) Fx.ty23 ?_
   refine SeqK.on (q_call _ rfl Fx.fn35 rfl (D.vvalid_any ⟨e.vk, e.vn, e.vs⟩ (by show e.vs.size ≤ _; omega)) rfl) rfl rfl rfl rfl rfl ?_
   refine Z8 ?_
   refine sB ?_
   exact aR (f1 (q := ⟨_, rfl, by first | exact (fun h => in_lit (by assumption) (by first | omega | (simp only [List.length_map] at *; omega)) (of_decide_eq_true h) (by omega)) | exact (fun h => by first | (cases h; done) | (exfalso; simp_all; done)), rfl⟩))
  refine Z5 Fx.fl26_4 ?_
  refine Z5 Fx.fl23_0 ?_
  refine Z3 Fx.ty3 ?_
  refine Z21 ?_
  refine Z37 ?_
  refine Z8 ?_
  refine Z17 ?_ ?_ <;> intro g25
  ·
   refine Z5 Fx.fl26_4 ?_
   refine Z25 (r := .g [_, _, _]) Fx.ty23 ?_
   refine SeqK.on (q_call _ rfl Fx.fn35 rfl (D.vvalid_any ⟨e.vk, e.vn, e.vs⟩ (by show e.vs.size ≤ _; omega)) rfl) rfl rfl rfl rfl rfl ?_
   refine Z8 ?_
   refine sB ?_
   exact aR (f1 (q := ⟨_, rfl, by first | exact (fun h => in_lit (by assumption) (by first | omega | (simp only [List.length_map] at *; omega)) (of_decide_eq_true h) (by omega)) | exact (fun h => by first | (cases h; done) | (exfalso; simp_all; done)), rfl⟩))
  iterate 3 refine oF ?_
  refine Z4 ?_
  refine sB ?_
  exact aR (f1 (q := ⟨_, rfl, by first | exact (fun h => in_lit (by assumption) (by first | omega | (simp only [List.length_map] at *; omega)) (of_decide_eq_true h) (by omega)) | exact (fun h => by first | (cases h; done) | (exfalso; simp_all; done)), rfl⟩))
 refine sR (Z9 ?_)
 refine sB ?_
 refine cD ?_ ?_ <;> intro h30
 ·
  refine sR (Z1 Fx.fl26_5 ?_)
  refine Z0 Fx.ty24 ?_
  refine Z22 Fx.un24 ?_
  refine Z9 ?_
  refine Z17 ?_ ?_ <;> intro g36
  ·
   refine Z5 Fx.fl26_3 ?_
   refine Z3 Fx.ty3 ?_
   refine Z14 ?_
   refine Z35 Fx.fn91 (typed_any _ _ l z hL) ?_
   refine Z8 ?_
   refine sB ?_
   exact aR (f1 (q := ⟨_, rfl, by first | exact (fun h => by rw [inB_eq, if_neg (by omega), if_pos (by assumption), Bool.and_eq_true]; exact ⟨decide_eq_true (by first | omega | (simp only [List.length_map] at *; omega)), h⟩) | exact (fun h => by first | (cases h; done) | (exfalso; simp_all; done)), rfl⟩))
  iterate 4 refine oF ?_
  refine Z4 ?_
  refine sB ?_
  exact aR (f1 (q := nb))
 refine sR (Z9 ?_)
 refine sB ?_
 refine cD ?_ ?_ <;> intro h42
 ·
  refine sR (Z1 Fx.fl26_5 ?_)
  refine Z0 Fx.ty24 ?_
  refine Z22 Fx.un24 ?_
  refine Z9 ?_
  refine Z17 ?_ ?_ <;> intro g48
  rotate_left
  ·
   iterate 7 refine oF ?_
   refine Z4 ?_
   refine sM ?_
   iterate 7 refine oF ?_
   iterate 14 refine oU ?_
   iterate 2 refine oF ?_
   iterate 15 refine oU ?_
   refine Z34 ?_
   refine Z4 ?_
   refine sB ?_
   exact aR (f1 (q := nb))
  have hl1 : e.args.length = 1 := by simp only [List.length_map] at *; omega
  have h01 : 0 < e.args.length := by omega
  have hm := List.getElem_mem h01
  have hr1 := hrs _ hm
  have hz1 := ((rgQ_eq _).1 hr1).1.2.2.1
  refine Z5 Fx.fl26_5 ?_
  refine Z3 Fx.ty24 ?_
  refine Z15 Fx.sl24 (idx_ex h01) ?_
  refine Z31 Fx.fl26_5 ?_
  refine Z19 (.a _) Fx.ty24 ?_
  refine Z50 Fx.un24 ?_
  refine Z21 ?_
  refine Z8 ?_
  refine Z17 ?_ ?_ <;> intro g57
  rotate_left
  ·
   iterate 7 refine oF ?_
   iterate 14 refine oU ?_
   iterate 2 refine oF ?_
   iterate 15 refine oU ?_
   refine Z34 ?_
   refine Z4 ?_
   refine sB ?_
   exact aR (f1 (q := nb))
  refine Z5 Fx.fl26_5 ?_
  refine Z3 Fx.ty24 ?_
  refine Z15 Fx.sl24 (idx_ex h01) ?_
  refine Z19 (.g [_, _, _, _, _, _, _, _]) Fx.ty26 ?_
  refine Z14 ?_
  refine Z35 Fx.fn33 (text_any _ l z hL) ?_
  refine SeqK.onB (q_mvC rfl rfl) rfl rfl rfl rfl rfl (fun g64 => ?_) (fun g64 => ?_)
  rotate_left
  ·
   iterate 7 refine oF ?_
   iterate 6 refine oU ?_
   refine Z34 ?_
   refine Z37 ?_
   refine Z14 ?_
   refine Z5 Fx.fl26_5 ?_
   refine Z3 Fx.ty24 ?_
   refine Z15 Fx.sl24 (idx_ex h01) ?_
   refine Z31 Fx.fl26_0 ?_
   refine Z19 (.a _) Fx.ty3 ?_
   refine Z21 ?_
   refine Z46 ?_ ?_ <;> intro g87
   ·
    refine Z5 Fx.fl26_5 ?_
    refine Z3 Fx.ty24 ?_
    refine Z15 Fx.sl24 (idx_ex h01) ?_
    refine Z31 Fx.fl26_4 ?_
    refine Z19 (.g [_, _, _]) Fx.ty23 ?_
    refine SeqK.on (q_build2 (zs := [_, _, _]) (r := [_, _, _]) [(0, 1), (1, 1), (2, 1)] _ rfl Fx.ze23 rfl Fx.bp23 rfl rfl rfl rfl) rfl rfl rfl rfl rfl ?_
    refine SeqK.on (q_eqlG [.int .i64 e.args[0].vk, .int .i64 e.args[0].vn, .string e.args[0].vs] [.int .i64 0, .int .i64 0, .string ⟨#[]⟩] rfl rfl rfl rfl rfl (by kernel_rfl) (fun w => eq23 _ _ _ _ _ _ w)) rfl rfl rfl rfl rfl ?_
    refine Z33 ?_
    refine Z37 ?_
    refine Z8 ?_
    refine sB ?_
    exact aR (f1 (q := ⟨_, rfl, by first | exact (fun h => by have q := txX_inv g64; have v80 : D.vvP ⟨e.args[0].vk, e.args[0].vn, e.args[0].vs⟩ := (by first | exact g80 | exact of_decide_eq_true g80); rw [inB_eq, if_neg (by omega), if_neg (by omega), if_pos (by assumption), args1 hl1]; refine inL_mk q.1 ?_; rcases q.2 with k | k; exact .inl k; (have v := vv_of v80 k.2.2; exact .inr (.inl ⟨k.2.1, k.2.2, v⟩))) | exact (fun h => by have q := txX_inv g64; rw [inB_eq, if_neg (by omega), if_neg (by omega), if_pos (by assumption), args1 hl1]; refine inL_mk q.1 ?_; rcases q.2 with k | k; exact .inl k; (have v := vv_of (of_decide_eq_true h) k.2.2; exact .inr (.inl ⟨k.2.1, k.2.2, v⟩))) | exact (fun h => by have q := txX_inv g64; rw [inB_eq, if_neg (by omega), if_neg (by omega), if_pos (by assumption), args1 hl1]; refine inL_mk q.1 ?_; rcases q.2 with k | k; exact .inl k; exact absurd (by assumption) k.1) | exact (fun h => by rw [inB_eq, if_neg (by omega), if_neg (by omega), if_pos (by assumption), args1 hl1]; refine inL_mk (by first | omega | (simp only [List.length_map] at *; omega)) (.inr (.inr ?_)); simp only [Bool.and_eq_true, decide_eq_true_eq] at h; exact ⟨by assumption, h.1.1, h.1.2, h.2⟩) | exact (fun h => by first | (cases h; done) | (exfalso; simp_all; done)), rfl⟩))
   iterate 7 refine oF ?_
   refine Z37 ?_
   refine Z37 ?_
   refine Z8 ?_
   refine sB ?_
   exact aR (f1 (q := nb))
  refine Z5 Fx.fl26_5 ?_
  refine Z3 Fx.ty24 ?_
  refine Z15 Fx.sl24 (idx_ex h01) ?_
  refine Z31 Fx.fl26_0 ?_
  refine Z19 (.a _) Fx.ty3 ?_
  refine Z21 ?_
  refine Z46 ?_ ?_ <;> intro g71
  ·
   iterate 6 refine oF ?_
   refine Z33 ?_
   refine Z33 ?_
   refine Z14 ?_
   iterate 7 refine oF ?_
   iterate 7 refine oU ?_
   refine Z34 ?_
   refine Z33 ?_
   refine Z8 ?_
   refine sB ?_
   exact aR (f1 (q := ⟨_, rfl, by first | exact (fun h => by have q := txX_inv g64; have v80 : D.vvP ⟨e.args[0].vk, e.args[0].vn, e.args[0].vs⟩ := (by first | exact g80 | exact of_decide_eq_true g80); rw [inB_eq, if_neg (by omega), if_neg (by omega), if_pos (by assumption), args1 hl1]; refine inL_mk q.1 ?_; rcases q.2 with k | k; exact .inl k; (have v := vv_of v80 k.2.2; exact .inr (.inl ⟨k.2.1, k.2.2, v⟩))) | exact (fun h => by have q := txX_inv g64; rw [inB_eq, if_neg (by omega), if_neg (by omega), if_pos (by assumption), args1 hl1]; refine inL_mk q.1 ?_; rcases q.2 with k | k; exact .inl k; (have v := vv_of (of_decide_eq_true h) k.2.2; exact .inr (.inl ⟨k.2.1, k.2.2, v⟩))) | exact (fun h => by have q := txX_inv g64; rw [inB_eq, if_neg (by omega), if_neg (by omega), if_pos (by assumption), args1 hl1]; refine inL_mk q.1 ?_; rcases q.2 with k | k; exact .inl k; exact absurd (by assumption) k.1) | exact (fun h => by rw [inB_eq, if_neg (by omega), if_neg (by omega), if_pos (by assumption), args1 hl1]; refine inL_mk (by first | omega | (simp only [List.length_map] at *; omega)) (.inr (.inr ?_)); simp only [Bool.and_eq_true, decide_eq_true_eq] at h; exact ⟨by assumption, h.1.1, h.1.2, h.2⟩) | exact (fun h => by first | (cases h; done) | (exfalso; simp_all; done)), rfl⟩))
  refine Z5 Fx.fl26_5 ?_
  refine Z3 Fx.ty24 ?_
  refine Z15 Fx.sl24 (idx_ex h01) ?_
  refine Z31 Fx.fl26_4 ?_
  refine Z19 (.g [_, _, _]) Fx.ty23 ?_
  refine SeqK.on (q_call _ rfl Fx.fn35 rfl (D.vvalid_any ⟨e.args[0].vk, e.args[0].vn, e.args[0].vs⟩ (by show e.args[0].vs.size ≤ _; omega)) rfl) rfl rfl rfl rfl rfl ?_
  refine Z37 ?_
  refine Z33 ?_
  refine SeqK.onB (q_mvC rfl rfl) rfl rfl rfl rfl rfl (fun g80 => ?_) (fun g80 => ?_)
  ·
   iterate 7 refine oF ?_
   iterate 7 refine oU ?_
   refine Z34 ?_
   refine Z33 ?_
   refine Z8 ?_
   refine sB ?_
   exact aR (f1 (q := ⟨_, rfl, by first | exact (fun h => by have q := txX_inv g64; have v80 : D.vvP ⟨e.args[0].vk, e.args[0].vn, e.args[0].vs⟩ := (by first | exact g80 | exact of_decide_eq_true g80); rw [inB_eq, if_neg (by omega), if_neg (by omega), if_pos (by assumption), args1 hl1]; refine inL_mk q.1 ?_; rcases q.2 with k | k; exact .inl k; (have v := vv_of v80 k.2.2; exact .inr (.inl ⟨k.2.1, k.2.2, v⟩))) | exact (fun h => by have q := txX_inv g64; rw [inB_eq, if_neg (by omega), if_neg (by omega), if_pos (by assumption), args1 hl1]; refine inL_mk q.1 ?_; rcases q.2 with k | k; exact .inl k; (have v := vv_of (of_decide_eq_true h) k.2.2; exact .inr (.inl ⟨k.2.1, k.2.2, v⟩))) | exact (fun h => by have q := txX_inv g64; rw [inB_eq, if_neg (by omega), if_neg (by omega), if_pos (by assumption), args1 hl1]; refine inL_mk q.1 ?_; rcases q.2 with k | k; exact .inl k; exact absurd (by assumption) k.1) | exact (fun h => by rw [inB_eq, if_neg (by omega), if_neg (by omega), if_pos (by assumption), args1 hl1]; refine inL_mk (by first | omega | (simp only [List.length_map] at *; omega)) (.inr (.inr ?_)); simp only [Bool.and_eq_true, decide_eq_true_eq] at h; exact ⟨by assumption, h.1.1, h.1.2, h.2⟩) | exact (fun h => by first | (cases h; done) | (exfalso; simp_all; done)), rfl⟩))
  refine Z5 Fx.fl26_5 ?_
  refine Z3 Fx.ty24 ?_
  refine Z15 Fx.sl24 (idx_ex h01) ?_
  refine Z31 Fx.fl26_0 ?_
  refine Z19 (.a _) Fx.ty3 ?_
  refine Z21 ?_
  refine Z46 ?_ ?_ <;> intro g87
  ·
   refine Z5 Fx.fl26_5 ?_
   refine Z3 Fx.ty24 ?_
   refine Z15 Fx.sl24 (idx_ex h01) ?_
   refine Z31 Fx.fl26_4 ?_
   refine Z19 (.g [_, _, _]) Fx.ty23 ?_
   refine SeqK.on (q_build2 (zs := [_, _, _]) (r := [_, _, _]) [(0, 1), (1, 1), (2, 1)] _ rfl Fx.ze23 rfl Fx.bp23 rfl rfl rfl rfl) rfl rfl rfl rfl rfl ?_
   refine SeqK.on (q_eqlG [.int .i64 e.args[0].vk, .int .i64 e.args[0].vn, .string e.args[0].vs] [.int .i64 0, .int .i64 0, .string ⟨#[]⟩] rfl rfl rfl rfl rfl (by kernel_rfl) (fun w => eq23 _ _ _ _ _ _ w)) rfl rfl rfl rfl rfl ?_
   refine Z33 ?_
   refine Z37 ?_
   refine Z8 ?_
   refine sB ?_
   exact aR (f1 (q := ⟨_, rfl, by first | exact (fun h => by have q := txX_inv g64; have v80 : D.vvP ⟨e.args[0].vk, e.args[0].vn, e.args[0].vs⟩ := (by first | exact g80 | exact of_decide_eq_true g80); rw [inB_eq, if_neg (by omega), if_neg (by omega), if_pos (by assumption), args1 hl1]; refine inL_mk q.1 ?_; rcases q.2 with k | k; exact .inl k; (have v := vv_of v80 k.2.2; exact .inr (.inl ⟨k.2.1, k.2.2, v⟩))) | exact (fun h => by have q := txX_inv g64; rw [inB_eq, if_neg (by omega), if_neg (by omega), if_pos (by assumption), args1 hl1]; refine inL_mk q.1 ?_; rcases q.2 with k | k; exact .inl k; (have v := vv_of (of_decide_eq_true h) k.2.2; exact .inr (.inl ⟨k.2.1, k.2.2, v⟩))) | exact (fun h => by have q := txX_inv g64; rw [inB_eq, if_neg (by omega), if_neg (by omega), if_pos (by assumption), args1 hl1]; refine inL_mk q.1 ?_; rcases q.2 with k | k; exact .inl k; exact absurd (by assumption) k.1) | exact (fun h => by rw [inB_eq, if_neg (by omega), if_neg (by omega), if_pos (by assumption), args1 hl1]; refine inL_mk (by first | omega | (simp only [List.length_map] at *; omega)) (.inr (.inr ?_)); simp only [Bool.and_eq_true, decide_eq_true_eq] at h; exact ⟨by assumption, h.1.1, h.1.2, h.2⟩) | exact (fun h => by first | (cases h; done) | (exfalso; simp_all; done)), rfl⟩))
  iterate 7 refine oF ?_
  refine Z37 ?_
  refine Z37 ?_
  refine Z8 ?_
  refine sB ?_
  exact aR (f1 (q := nb))
 refine sR (Z9 ?_)
 refine sB ?_
 refine cD ?_ ?_ <;> intro h98
 ·
  refine sR (Z1 Fx.fl26_5 ?_)
  refine Z0 Fx.ty24 ?_
  refine Z22 Fx.un24 ?_
  refine Z9 ?_
  refine Z17 ?_ ?_ <;> intro g104
  ·
   have hl1 : e.args.length = 1 := by simp only [List.length_map] at *; omega
   have h01 : 0 < e.args.length := by omega
   have hm := List.getElem_mem h01
   have hr1 := hrs _ hm
   have hz1 := ((rgQ_eq _).1 hr1).1.2.2.1
   refine Z5 Fx.fl26_5 ?_
   refine Z3 Fx.ty24 ?_
   refine Z15 Fx.sl24 (idx_ex h01) ?_
   refine Z19 (.g [_, _, _, _, _, _, _, _]) Fx.ty26 ?_
   refine Z14 ?_
   refine relOn Fx.fn61 (ih _ (List.getElem_mem h01) _) ?_
   intro b110 q110
   refine Z8 ?_
   refine sB ?_
   exact aR (f1 (q := ⟨_, rfl, by first | exact (fun h => by rw [inB_eq, if_neg (by omega), if_neg (by omega), if_neg (by omega), if_pos (by assumption), decide_eq_true hl1, Bool.true_and]; exact all1 hl1 (q110 h)) | exact (fun h => by first | (cases h; done) | (exfalso; simp_all; done)), rfl⟩))
  iterate 6 refine oF ?_
  refine Z4 ?_
  refine sB ?_
  exact aR (f1 (q := nb))
 refine AW.seq (sR (Z9 ?_))
 refine sB ?_
 refine cD ?_ ?_ <;> intro h112
 ·
  refine AW.skip ?_
  refine cD ?_ ?_ <;> intro h112
  rotate_left
  ·
   refine AW.skip (sR (sB ?_))
   exact aR (f1 (q := nb))
  refine sR (Z1 Fx.fl26_5 ?_)
  refine Z0 Fx.ty24 ?_
  refine Z22 Fx.un24 ?_
  refine Z9 ?_
  refine Z17 ?_ ?_ <;> intro g122
  rotate_left
  ·
   iterate 6 refine oF ?_
   refine Z4 ?_
   refine sM ?_
   iterate 6 refine oF ?_
   refine Z4 ?_
   refine sB ?_
   exact aR (f1 (q := nb))
  have hl2 : e.args.length = 2 := by simp only [List.length_map] at *; omega
  have h01 : 0 < e.args.length := by omega
  have h12 : 1 < e.args.length := by omega
  refine Z5 Fx.fl26_5 ?_
  refine Z3 Fx.ty24 ?_
  refine Z15 Fx.sl24 (idx_ex h01) ?_
  refine Z19 (.g [_, _, _, _, _, _, _, _]) Fx.ty26 ?_
  refine Z14 ?_
  refine relOn Fx.fn61 (ih _ (List.getElem_mem h01) _) ?_
  intro b128 q128
  refine Z8 ?_
  refine Z36 ?_ ?_ <;> intro g130
  ·
   refine Z5 Fx.fl26_5 ?_
   refine Z3 Fx.ty24 ?_
   refine Z15 Fx.sl24 (idx_ex h12) ?_
   refine Z19 (.g [_, _, _, _, _, _, _, _]) Fx.ty26 ?_
   refine Z14 ?_
   refine relOn Fx.fn61 (ih _ (List.getElem_mem h12) _) ?_
   intro b136 q136
   refine Z8 ?_
   refine sB ?_
   exact aR (f1 (q := ⟨_, rfl, by first | exact (fun h => by rw [inB_eq, if_neg (by omega), if_neg (by omega), if_neg (by omega), if_neg (by omega), if_pos (by omega), decide_eq_true hl2, Bool.true_and]; exact all2 hl2 (q128 (by assumption)) (q136 h)) | exact (fun h => by first | (cases h; done) | (exfalso; simp_all; done)), rfl⟩))
  iterate 6 refine oF ?_
  refine Z4 ?_
  refine sB ?_
  exact aR (f1 (q := nb))
 refine sR (Z9 ?_)
 refine sB ?_
 refine cD ?_ ?_ <;> intro h112
 ·
  refine AW.skip ?_
  refine cD ?_ ?_ <;> intro h112
  rotate_left
  ·
   refine AW.skip (sR (sB ?_))
   exact aR (f1 (q := nb))
  refine sR (Z1 Fx.fl26_5 ?_)
  refine Z0 Fx.ty24 ?_
  refine Z22 Fx.un24 ?_
  refine Z9 ?_
  refine Z17 ?_ ?_ <;> intro g122
  rotate_left
  ·
   iterate 6 refine oF ?_
   refine Z4 ?_
   refine sM ?_
   iterate 6 refine oF ?_
   refine Z4 ?_
   refine sB ?_
   exact aR (f1 (q := nb))
  have hl2 : e.args.length = 2 := by simp only [List.length_map] at *; omega
  have h01 : 0 < e.args.length := by omega
  have h12 : 1 < e.args.length := by omega
  refine Z5 Fx.fl26_5 ?_
  refine Z3 Fx.ty24 ?_
  refine Z15 Fx.sl24 (idx_ex h01) ?_
  refine Z19 (.g [_, _, _, _, _, _, _, _]) Fx.ty26 ?_
  refine Z14 ?_
  refine relOn Fx.fn61 (ih _ (List.getElem_mem h01) _) ?_
  intro b128 q128
  refine Z8 ?_
  refine Z36 ?_ ?_ <;> intro g130
  ·
   refine Z5 Fx.fl26_5 ?_
   refine Z3 Fx.ty24 ?_
   refine Z15 Fx.sl24 (idx_ex h12) ?_
   refine Z19 (.g [_, _, _, _, _, _, _, _]) Fx.ty26 ?_
   refine Z14 ?_
   refine relOn Fx.fn61 (ih _ (List.getElem_mem h12) _) ?_
   intro b136 q136
   refine Z8 ?_
   refine sB ?_
   exact aR (f1 (q := ⟨_, rfl, by first | exact (fun h => by rw [inB_eq, if_neg (by omega), if_neg (by omega), if_neg (by omega), if_neg (by omega), if_pos (by omega), decide_eq_true hl2, Bool.true_and]; exact all2 hl2 (q128 (by assumption)) (q136 h)) | exact (fun h => by first | (cases h; done) | (exfalso; simp_all; done)), rfl⟩))
  iterate 6 refine oF ?_
  refine Z4 ?_
  refine sB ?_
  exact aR (f1 (q := nb))
 refine sR (Z9 ?_)
 refine sB ?_
 refine cD ?_ ?_ <;> intro h112
 ·
  refine AW.skip ?_
  refine cD ?_ ?_ <;> intro h112
  rotate_left
  ·
   refine AW.skip (sR (sB ?_))
   exact aR (f1 (q := nb))
  refine sR (Z1 Fx.fl26_5 ?_)
  refine Z0 Fx.ty24 ?_
  refine Z22 Fx.un24 ?_
  refine Z9 ?_
  refine Z17 ?_ ?_ <;> intro g122
  rotate_left
  ·
   iterate 6 refine oF ?_
   refine Z4 ?_
   refine sM ?_
   iterate 6 refine oF ?_
   refine Z4 ?_
   refine sB ?_
   exact aR (f1 (q := nb))
  have hl2 : e.args.length = 2 := by simp only [List.length_map] at *; omega
  have h01 : 0 < e.args.length := by omega
  have h12 : 1 < e.args.length := by omega
  refine Z5 Fx.fl26_5 ?_
  refine Z3 Fx.ty24 ?_
  refine Z15 Fx.sl24 (idx_ex h01) ?_
  refine Z19 (.g [_, _, _, _, _, _, _, _]) Fx.ty26 ?_
  refine Z14 ?_
  refine relOn Fx.fn61 (ih _ (List.getElem_mem h01) _) ?_
  intro b128 q128
  refine Z8 ?_
  refine Z36 ?_ ?_ <;> intro g130
  ·
   refine Z5 Fx.fl26_5 ?_
   refine Z3 Fx.ty24 ?_
   refine Z15 Fx.sl24 (idx_ex h12) ?_
   refine Z19 (.g [_, _, _, _, _, _, _, _]) Fx.ty26 ?_
   refine Z14 ?_
   refine relOn Fx.fn61 (ih _ (List.getElem_mem h12) _) ?_
   intro b136 q136
   refine Z8 ?_
   refine sB ?_
   exact aR (f1 (q := ⟨_, rfl, by first | exact (fun h => by rw [inB_eq, if_neg (by omega), if_neg (by omega), if_neg (by omega), if_neg (by omega), if_pos (by omega), decide_eq_true hl2, Bool.true_and]; exact all2 hl2 (q128 (by assumption)) (q136 h)) | exact (fun h => by first | (cases h; done) | (exfalso; simp_all; done)), rfl⟩))
  iterate 6 refine oF ?_
  refine Z4 ?_
  refine sB ?_
  exact aR (f1 (q := nb))
 refine sR (Z9 ?_)
 refine sB ?_
 refine cD ?_ ?_ <;> intro h112
 ·
  refine AW.skip ?_
  refine cD ?_ ?_ <;> intro h112
  rotate_left
  ·
   refine AW.skip (sR (sB ?_))
   exact aR (f1 (q := nb))
  refine sR (Z1 Fx.fl26_5 ?_)
  refine Z0 Fx.ty24 ?_
  refine Z22 Fx.un24 ?_
  refine Z9 ?_
  refine Z17 ?_ ?_ <;> intro g122
  rotate_left
  ·
   iterate 6 refine oF ?_
   refine Z4 ?_
   refine sM ?_
   iterate 6 refine oF ?_
   refine Z4 ?_
   refine sB ?_
   exact aR (f1 (q := nb))
  have hl2 : e.args.length = 2 := by simp only [List.length_map] at *; omega
  have h01 : 0 < e.args.length := by omega
  have h12 : 1 < e.args.length := by omega
  refine Z5 Fx.fl26_5 ?_
  refine Z3 Fx.ty24 ?_
  refine Z15 Fx.sl24 (idx_ex h01) ?_
  refine Z19 (.g [_, _, _, _, _, _, _, _]) Fx.ty26 ?_
  refine Z14 ?_
  refine relOn Fx.fn61 (ih _ (List.getElem_mem h01) _) ?_
  intro b128 q128
  refine Z8 ?_
  refine Z36 ?_ ?_ <;> intro g130
  ·
   refine Z5 Fx.fl26_5 ?_
   refine Z3 Fx.ty24 ?_
   refine Z15 Fx.sl24 (idx_ex h12) ?_
   refine Z19 (.g [_, _, _, _, _, _, _, _]) Fx.ty26 ?_
   refine Z14 ?_
   refine relOn Fx.fn61 (ih _ (List.getElem_mem h12) _) ?_
   intro b136 q136
   refine Z8 ?_
   refine sB ?_
   exact aR (f1 (q := ⟨_, rfl, by first | exact (fun h => by rw [inB_eq, if_neg (by omega), if_neg (by omega), if_neg (by omega), if_neg (by omega), if_pos (by omega), decide_eq_true hl2, Bool.true_and]; exact all2 hl2 (q128 (by assumption)) (q136 h)) | exact (fun h => by first | (cases h; done) | (exfalso; simp_all; done)), rfl⟩))
  iterate 6 refine oF ?_
  refine Z4 ?_
  refine sB ?_
  exact aR (f1 (q := nb))
 refine AW.reg (Z9 ?_)
 refine sB ?_
 refine cD ?_ ?_ <;> intro h112
 rotate_left
 ·
  refine AW.skip (sR (sB ?_))
  exact aR (f1 (q := nb))
 refine sR (Z1 Fx.fl26_5 ?_)
 refine Z0 Fx.ty24 ?_
 refine Z22 Fx.un24 ?_
 refine Z9 ?_
 refine Z17 ?_ ?_ <;> intro g122
 rotate_left
 ·
  iterate 6 refine oF ?_
  refine Z4 ?_
  refine sM ?_
  iterate 6 refine oF ?_
  refine Z4 ?_
  refine sB ?_
  exact aR (f1 (q := nb))
 have hl2 : e.args.length = 2 := by simp only [List.length_map] at *; omega
 have h01 : 0 < e.args.length := by omega
 have h12 : 1 < e.args.length := by omega
 refine Z5 Fx.fl26_5 ?_
 refine Z3 Fx.ty24 ?_
 refine Z15 Fx.sl24 (idx_ex h01) ?_
 refine Z19 (.g [_, _, _, _, _, _, _, _]) Fx.ty26 ?_
 refine Z14 ?_
 refine relOn Fx.fn61 (ih _ (List.getElem_mem h01) _) ?_
 intro b128 q128
 refine Z8 ?_
 refine Z36 ?_ ?_ <;> intro g130
 ·
  refine Z5 Fx.fl26_5 ?_
  refine Z3 Fx.ty24 ?_
  refine Z15 Fx.sl24 (idx_ex h12) ?_
  refine Z19 (.g [_, _, _, _, _, _, _, _]) Fx.ty26 ?_
  refine Z14 ?_
  refine relOn Fx.fn61 (ih _ (List.getElem_mem h12) _) ?_
  intro b136 q136
  refine Z8 ?_
  refine sB ?_
  exact aR (f1 (q := ⟨_, rfl, by first | exact (fun h => by rw [inB_eq, if_neg (by omega), if_neg (by omega), if_neg (by omega), if_neg (by omega), if_pos (by omega), decide_eq_true hl2, Bool.true_and]; exact all2 hl2 (q128 (by assumption)) (q136 h)) | exact (fun h => by first | (cases h; done) | (exfalso; simp_all; done)), rfl⟩))
 iterate 6 refine oF ?_
 refine Z4 ?_
 refine sB ?_
 exact aR (f1 (q := nb))
theorem integer_any (l : List Vr) (z : Nz) (hL : l.length ≤ 17592186044000) (e : Ex) : rgQ e → ∀ H : Heap, E.Spec Tryz.prog 61 [exC e, vsC z l] H fun x H' => ∃ b, x = .c (bC b) ∧ (b = true → inB l e = true) ∧ H' = H := by
  induction e using Ex.ind with
  | h e ih =>
    intro hr H
    exact integer_of e l z hL hr (fun a ha H => ih a ha (((rgQ_eq e).1 hr).2 a ha) H) H
theorem opd_null {l : List Vr} {e : Ex} (h1 : e.op = 1) (hl : e.args.length = 0) (hn : nulB e = true) : OpdP l e := by
  have ha := List.length_eq_zero_iff.1 hl
  rw [nulB_eq, ha] at hn
  simp only [List.any_nil, Bool.or_false, decide_eq_true_eq] at hn
  exact .nul h1 hn.2 ha
theorem opd_txt1 {l : List Vr} {e : Ex} (h : txX l e = true) (h2 : e.op = 2) : OpdP l e := by
  obtain ⟨q, k⟩ := txX_inv h
  rcases k with k | k
  · exact .txc k.1 k.2 (List.length_eq_zero_iff.1 q)
  · exact absurd h2 k.1
theorem opd_txt2 {l : List Vr} {e : Ex} (h : txX l e = true) (h2 : ¬ e.op = 2) (hv : e.vk = 2 → vtX e.vs) : OpdP l e := by
  obtain ⟨q, k⟩ := txX_inv h
  rcases k with k | k
  · exact absurd k.1 h2
  · exact .txl k.2.1 k.2.2 (List.length_eq_zero_iff.1 q) (hv k.2.2)
theorem fits_of (e : Ex) (hr : rgQ e) (hok : okE e) (ih : ∀ a ∈ e.args, ∀ H : Heap, E.Spec Tryz.prog 62 [exC a] H fun x H' => ∃ b, x = .c (bC b) ∧ (b = true → nulB a = false → (ofE a).2 = 0) ∧ H' = H) (H : Heap) : E.Spec Tryz.prog 62 [exC e] H fun x H' => ∃ b, x = .c (bC b) ∧ (b = true → nulB e = false → (ofE e).2 = 0) ∧ H' = H := by
 have hlen := ((rgQ_eq e).1 hr).1.2.2.2
 refine Spec.enter Tryz.func62 rfl ?_
 refine AW.wk (Wk.keep 48 [(0, .c (exC e))] [] (H) rfl ⟨rfl, trivial⟩ trivial (fun _ _ h => h) rfl) ?_
 refine sR (Z20 (r := [_, _, _, _, _, _, _, _]) ?_)
 refine sB ?_
 refine AW.seq (sR (Z10 (r := .g [_, _, _, _, _, _, _, _]) Fx.ty26 ?_))
 refine Z12 Fx.fn34 (null_any e (rgQ_E e hr)) ?_
 refine Z49 ?_
 refine Z7 ?_
 refine AW.cond _ rfl (fun h8 => ?_) (fun h8 => ?_)
 ·
  refine sR (Z10 (r := .g [_, _, _, _, _, _, _, _]) Fx.ty26 ?_)
  refine Z12 Fx.fn92 (rof_any e hok) ?_
  refine Z39 ?_
  refine Z6 ?_
  refine Z6 ?_
  refine Z16 (r := [_, _]) Fx.ze32 ?_
  refine Z2 (r := [_, _]) Fx.ty32 ?_
  refine sB ?_
  refine sR (sM ?_)
  refine Z9 ?_
  refine sB ?_
  exact aR (f1 (q := ⟨_, rfl, (fun h _ => of_decide_eq_true h), rfl⟩))
 refine AW.skip (AW.seq (sR (Z1 Fx.fl26_0 ?_)))
 refine Z0 Fx.ty3 ?_
 refine Z9 ?_
 refine Z17 ?_ ?_ <;> intro g19
 ·
  iterate 3 refine oF ?_
  refine Z8 ?_
  refine sM ?_
  iterate 3 refine oF ?_
  refine Z8 ?_
  refine Z7 (AW.condT rfl ?_)
  refine sR (sB ?_)
  exact aR (f1 (q := nb))
 refine Z5 Fx.fl26_0 ?_
 refine Z3 Fx.ty3 ?_
 refine Z21 ?_
 refine Z4 ?_
 refine Z17 ?_ ?_ <;> intro g24
 ·
  iterate 3 refine oF ?_
  refine Z8 ?_
  refine Z7 (AW.condT rfl ?_)
  refine sR (sB ?_)
  exact aR (f1 (q := nb))
 refine Z5 Fx.fl26_0 ?_
 refine Z3 Fx.ty3 ?_
 refine Z21 ?_
 refine Z4 ?_
 refine Z7 ?_
 refine cD ?_ ?_ <;> intro h28
 ·
  refine sR (sB ?_)
  exact aR (f1 (q := nb))
 refine AW.skip (AW.seq (sR (sB ?_)))
 refine AW.block ?_
 refine AW.loop (fun (i : Nat) s => (i ≤ e.args.length) ∧ s = ⟨48, sp [(1, .lp 1 0), (2, .c (bC false)), (5, iX .i64 ((i : Nat) : Int))], lv [(1, .box (zEx e))], H⟩) (fun i => e.args.length - i) 0 ⟨_, by exact Wk.keep 48 _ _ _ rfl ⟨rfl, rfl, rfl, trivial⟩ ⟨rfl, trivial⟩ (fun _ _ h => h) rfl, Nat.zero_le _, rfl⟩ (fun i s hs => ?_)
 obtain ⟨hi0, rfl⟩ := hs
 refine AW.seq (sR (sM ?_))
 refine Z1 Fx.fl26_5 ?_
 refine Z0 Fx.ty24 ?_
 refine Z22 Fx.un24 ?_
 refine Z30 ?_
 refine Z7 ?_
 refine cD ?_ ?_ <;> intro h33
 rotate_left
 ·
  refine AW.exit ?_
  refine eth_e ?_
  refine eth_e ?_
  refine exit_here ?_
  refine sR (sB ?_)
  exact aR (f1 (q := ⟨_, rfl, (fun _ hn => by exfalso; simp_all), rfl⟩))
 have hi : i < e.args.length := by rw [List.length_map] at h33; omega
 refine AW.skip (AW.seq (AW.block (sR (Z1 Fx.fl26_0 ?_))))
 refine Z0 Fx.ty3 ?_
 refine Z26 ?_
 refine Z17 ?_ ?_ <;> intro g39
 ·
  refine Z5 Fx.fl26_5 ?_
  refine Z3 Fx.ty24 ?_
  refine Z14 ?_
  refine Z15 Fx.sl24 (idx_ex hi) ?_
  refine Z19 (.g [_, _, _, _, _, _, _, _]) Fx.ty26 ?_
  refine relOn Fx.fn62 (ih _ (List.getElem_mem hi) _) ?_
  intro b45 q45
  refine Z41 ?_
  refine Z8 ?_
  refine Z7 ?_
  refine AW.cond _ rfl (fun h47 => ?_) (fun h47 => ?_)
  ·
   refine sR (sB ?_)
   exact aR (f1 (q := nb))
  refine AW.skip (AW.reg (sM ?_))
  refine Z13 ?_
  refine sB ?_
  exact ⟨i + 1, _, by exact Wk.keep 48 _ _ _ rfl ⟨rfl, rfl, rfl, trivial⟩ ⟨rfl, trivial⟩ (fun _ _ h => h) rfl, by omega, hi, rfl⟩
 iterate 7 refine oF ?_
 refine Z4 ?_
 refine Z7 (AW.condF rfl ?_)
 refine AW.skip (AW.reg (sM ?_))
 refine Z13 ?_
 refine sB ?_
 exact ⟨i + 1, _, by exact Wk.keep 48 _ _ _ rfl ⟨rfl, rfl, rfl, trivial⟩ ⟨rfl, trivial⟩ (fun _ _ h => h) rfl, by omega, hi, rfl⟩
theorem fits_any (e : Ex) : ∀ d, rgQ e → shP d e → d ≤ 12 → ∀ H : Heap, E.Spec Tryz.prog 62 [exC e] H fun x H' => ∃ b, x = .c (bC b) ∧ (b = true → nulB e = false → (ofE e).2 = 0) ∧ H' = H := by
  induction e using Ex.ind with
  | h e ih =>
    intro d hr hs hd H
    exact fits_of e hr (okE_sh e d (rgQ_E e hr) hs hd) (fun a ha H => ih a ha (d - 1) (((rgQ_eq e).1 hr).2 a ha) ((sh_args hs).2 a ha) (by omega) H) H
theorem operand_any (e : Ex) (l : List Vr) (z : Nz) (hL : l.length ≤ 17592186044000) (d : Nat) (hr : rgQ e) (hs : shP d e) (hd : d ≤ 12) (H : Heap) : E.Spec Tryz.prog 32 [exC e, vsC z l] H fun x H' => ∃ b, x = .c (bC b) ∧ (b = true → OpdP l e) ∧ H' = H := by
 have hlen := ((rgQ_eq e).1 hr).1.2.2.2
 have hz := ((rgQ_eq e).1 hr).1.2.2.1
 refine Spec.enter Tryz.func32 rfl ?_
 refine AW.wk (Wk.keep 44 [(0, .c (exC e)), (1, .c (vsC z l))] [] (H) rfl ⟨rfl, rfl, trivial⟩ trivial (fun _ _ h => h) rfl) ?_
 refine sR (Z20 (r := [_, _, _, _, _, _, _, _]) ?_)
 refine sB ?_
 refine AW.seq (sR (Z10 (r := .g [_, _, _, _, _, _, _, _]) Fx.ty26 ?_))
 refine Z12 Fx.fn34 (null_any e (rgQ_E e hr)) ?_
 refine Z36 ?_ ?_ <;> intro g7
 rotate_left
 ·
  iterate 3 refine oF ?_
  refine Z4 ?_
  refine sM ?_
  iterate 4 refine oF ?_
  refine Z4 ?_
  refine sM ?_
  refine Z25 (r := .g [_, _, _, _, _, _, _, _]) Fx.ty26 ?_
  refine Z14 ?_
  refine Z35 Fx.fn33 (text_any e l z hL) ?_
  refine Z4 ?_
  refine Z7 ?_
  refine AW.cond _ rfl (fun h22 => ?_) (fun h22 => ?_)
  ·
   refine sR (Z1 Fx.fl26_0 ?_)
   refine Z0 Fx.ty3 ?_
   refine Z9 ?_
   refine Z17 ?_ ?_ <;> intro g26
   ·
    iterate 4 refine oF ?_
    refine Z8 ?_
    refine sM ?_
    iterate 3 refine oF ?_
    refine Z8 ?_
    refine sB ?_
    exact aR (f1 (q := ⟨_, rfl, by first | exact (fun _ => opd_null (by assumption) (by first | omega | (simp only [List.length_map] at *; omega)) (by assumption)) | exact (fun _ => opd_txt1 h22 (by assumption)) | exact (fun h => opd_txt2 h22 (by assumption) fun hk => (vv_of (of_decide_eq_true h) hk).2) | exact (fun _ => opd_txt2 h22 (by assumption) fun hk => by exfalso; simp_all), rfl⟩))
   refine Z5 Fx.fl26_4 ?_
   refine Z25 (r := .g [_, _, _]) Fx.ty23 ?_
   refine SeqK.on (q_build2 (zs := [_, _, _]) (r := [_, _, _]) [(0, 1), (1, 1), (2, 1)] _ rfl Fx.ze23 rfl Fx.bp23 rfl rfl rfl rfl) rfl rfl rfl rfl rfl ?_
   refine SeqK.on (q_eqlG [.int .i64 e.vk, .int .i64 e.vn, .string e.vs] [.int .i64 0, .int .i64 0, .string ⟨#[]⟩] rfl rfl rfl rfl rfl (by kernel_rfl) (fun w => eq23 _ _ _ _ _ _ w)) rfl rfl rfl rfl rfl ?_
   refine Z4 ?_
   refine Z36 ?_ ?_ <;> intro g32
   ·
    iterate 3 refine oF ?_
    refine Z8 ?_
    refine sB ?_
    exact aR (f1 (q := ⟨_, rfl, by first | exact (fun _ => opd_null (by assumption) (by first | omega | (simp only [List.length_map] at *; omega)) (by assumption)) | exact (fun _ => opd_txt1 h22 (by assumption)) | exact (fun h => opd_txt2 h22 (by assumption) fun hk => (vv_of (of_decide_eq_true h) hk).2) | exact (fun _ => opd_txt2 h22 (by assumption) fun hk => by exfalso; simp_all), rfl⟩))
   refine Z5 Fx.fl26_4 ?_
   refine Z25 (r := .g [_, _, _]) Fx.ty23 ?_
   refine SeqK.on (q_call _ rfl Fx.fn35 rfl (D.vvalid_any ⟨e.vk, e.vn, e.vs⟩ (by show e.vs.size ≤ _; omega)) rfl) rfl rfl rfl rfl rfl ?_
   refine Z4 ?_
   refine sB ?_
   exact aR (f1 (q := ⟨_, rfl, by first | exact (fun _ => opd_null (by assumption) (by first | omega | (simp only [List.length_map] at *; omega)) (by assumption)) | exact (fun _ => opd_txt1 h22 (by assumption)) | exact (fun h => opd_txt2 h22 (by assumption) fun hk => (vv_of (of_decide_eq_true h) hk).2) | exact (fun _ => opd_txt2 h22 (by assumption) fun hk => by exfalso; simp_all), rfl⟩))
  refine AW.skip (sR (Z10 (r := .g [_, _, _, _, _, _, _, _]) Fx.ty26 ?_))
  refine sM ?_
  refine SeqK.callE rfl rfl rfl rfl Fx.fn61 rfl (integer_any l z hL e hr _) (fun _ _ h => by obtain ⟨b, hb, _⟩ := h; rw [hb]; rfl) (fun x39 H39 q39 => ?_)
  obtain ⟨b39, rfl, q39, hH⟩ := q39
  replace hH := hH.symm
  subst hH
  refine Z36 ?_ ?_ <;> intro g40
  ·
   refine Z25 (r := .g [_, _, _, _, _, _, _, _]) Fx.ty26 ?_
   refine relOn Fx.fn62 (fits_any e d hr hs hd _) ?_
   intro b42 q42
   refine Z8 ?_
   refine sB ?_
   exact aR (f1 (q := ⟨_, rfl, by first | exact (fun h => .int (q39 (by assumption)) (q42 h)) | exact (fun h => by first | (cases h; done) | (exfalso; simp_all; done)), rfl⟩))
  iterate 2 refine oF ?_
  refine Z4 ?_
  refine sB ?_
  exact aR (f1 (q := nb))
 refine Z5 Fx.fl26_0 ?_
 refine Z3 Fx.ty3 ?_
 refine Z21 ?_
 refine Z8 ?_
 refine Z17 ?_ ?_ <;> intro g12
 rotate_left
 ·
  iterate 4 refine oF ?_
  refine Z4 ?_
  refine sM ?_
  refine Z25 (r := .g [_, _, _, _, _, _, _, _]) Fx.ty26 ?_
  refine Z14 ?_
  refine Z35 Fx.fn33 (text_any e l z hL) ?_
  refine Z4 ?_
  refine Z7 ?_
  refine AW.cond _ rfl (fun h22 => ?_) (fun h22 => ?_)
  ·
   refine sR (Z1 Fx.fl26_0 ?_)
   refine Z0 Fx.ty3 ?_
   refine Z9 ?_
   refine Z17 ?_ ?_ <;> intro g26
   ·
    iterate 4 refine oF ?_
    refine Z8 ?_
    refine sM ?_
    iterate 3 refine oF ?_
    refine Z8 ?_
    refine sB ?_
    exact aR (f1 (q := ⟨_, rfl, by first | exact (fun _ => opd_null (by assumption) (by first | omega | (simp only [List.length_map] at *; omega)) (by assumption)) | exact (fun _ => opd_txt1 h22 (by assumption)) | exact (fun h => opd_txt2 h22 (by assumption) fun hk => (vv_of (of_decide_eq_true h) hk).2) | exact (fun _ => opd_txt2 h22 (by assumption) fun hk => by exfalso; simp_all), rfl⟩))
   refine Z5 Fx.fl26_4 ?_
   refine Z25 (r := .g [_, _, _]) Fx.ty23 ?_
   refine SeqK.on (q_build2 (zs := [_, _, _]) (r := [_, _, _]) [(0, 1), (1, 1), (2, 1)] _ rfl Fx.ze23 rfl Fx.bp23 rfl rfl rfl rfl) rfl rfl rfl rfl rfl ?_
   refine SeqK.on (q_eqlG [.int .i64 e.vk, .int .i64 e.vn, .string e.vs] [.int .i64 0, .int .i64 0, .string ⟨#[]⟩] rfl rfl rfl rfl rfl (by kernel_rfl) (fun w => eq23 _ _ _ _ _ _ w)) rfl rfl rfl rfl rfl ?_
   refine Z4 ?_
   refine Z36 ?_ ?_ <;> intro g32
   ·
    iterate 3 refine oF ?_
    refine Z8 ?_
    refine sB ?_
    exact aR (f1 (q := ⟨_, rfl, by first | exact (fun _ => opd_null (by assumption) (by first | omega | (simp only [List.length_map] at *; omega)) (by assumption)) | exact (fun _ => opd_txt1 h22 (by assumption)) | exact (fun h => opd_txt2 h22 (by assumption) fun hk => (vv_of (of_decide_eq_true h) hk).2) | exact (fun _ => opd_txt2 h22 (by assumption) fun hk => by exfalso; simp_all), rfl⟩))
   refine Z5 Fx.fl26_4 ?_
   refine Z25 (r := .g [_, _, _]) Fx.ty23 ?_
   refine SeqK.on (q_call _ rfl Fx.fn35 rfl (D.vvalid_any ⟨e.vk, e.vn, e.vs⟩ (by show e.vs.size ≤ _; omega)) rfl) rfl rfl rfl rfl rfl ?_
   refine Z4 ?_
   refine sB ?_
   exact aR (f1 (q := ⟨_, rfl, by first | exact (fun _ => opd_null (by assumption) (by first | omega | (simp only [List.length_map] at *; omega)) (by assumption)) | exact (fun _ => opd_txt1 h22 (by assumption)) | exact (fun h => opd_txt2 h22 (by assumption) fun hk => (vv_of (of_decide_eq_true h) hk).2) | exact (fun _ => opd_txt2 h22 (by assumption) fun hk => by exfalso; simp_all), rfl⟩))
  refine AW.skip (sR (Z10 (r := .g [_, _, _, _, _, _, _, _]) Fx.ty26 ?_))
  refine sM ?_
  refine SeqK.callE rfl rfl rfl rfl Fx.fn61 rfl (integer_any l z hL e hr _) (fun _ _ h => by obtain ⟨b, hb, _⟩ := h; rw [hb]; rfl) (fun x39 H39 q39 => ?_)
  obtain ⟨b39, rfl, q39, hH⟩ := q39
  replace hH := hH.symm
  subst hH
  refine Z36 ?_ ?_ <;> intro g40
  ·
   refine Z25 (r := .g [_, _, _, _, _, _, _, _]) Fx.ty26 ?_
   refine relOn Fx.fn62 (fits_any e d hr hs hd _) ?_
   intro b42 q42
   refine Z8 ?_
   refine sB ?_
   exact aR (f1 (q := ⟨_, rfl, by first | exact (fun h => .int (q39 (by assumption)) (q42 h)) | exact (fun h => by first | (cases h; done) | (exfalso; simp_all; done)), rfl⟩))
  iterate 2 refine oF ?_
  refine Z4 ?_
  refine sB ?_
  exact aR (f1 (q := nb))
 refine Z5 Fx.fl26_5 ?_
 refine Z3 Fx.ty24 ?_
 refine Z50 Fx.un24 ?_
 refine Z21 ?_
 refine Z8 ?_
 refine Z17 ?_ ?_ <;> intro g18
 ·
  iterate 3 refine oF ?_
  refine Z8 ?_
  refine Z7 (AW.condT rfl ?_)
  refine sR (Z1 Fx.fl26_0 ?_)
  refine Z0 Fx.ty3 ?_
  refine Z9 ?_
  refine Z17 ?_ ?_ <;> intro g26
  ·
   iterate 4 refine oF ?_
   refine Z8 ?_
   refine sM ?_
   iterate 3 refine oF ?_
   refine Z8 ?_
   refine sB ?_
   exact aR (f1 (q := ⟨_, rfl, by first | exact (fun _ => opd_null (by assumption) (by first | omega | (simp only [List.length_map] at *; omega)) (by assumption)) | exact (fun _ => opd_txt1 h22 (by assumption)) | exact (fun h => opd_txt2 h22 (by assumption) fun hk => (vv_of (of_decide_eq_true h) hk).2) | exact (fun _ => opd_txt2 h22 (by assumption) fun hk => by exfalso; simp_all), rfl⟩))
  refine Z5 Fx.fl26_4 ?_
  refine Z25 (r := .g [_, _, _]) Fx.ty23 ?_
  refine SeqK.on (q_build2 (zs := [_, _, _]) (r := [_, _, _]) [(0, 1), (1, 1), (2, 1)] _ rfl Fx.ze23 rfl Fx.bp23 rfl rfl rfl rfl) rfl rfl rfl rfl rfl ?_
  refine SeqK.on (q_eqlG [.int .i64 e.vk, .int .i64 e.vn, .string e.vs] [.int .i64 0, .int .i64 0, .string ⟨#[]⟩] rfl rfl rfl rfl rfl (by kernel_rfl) (fun w => eq23 _ _ _ _ _ _ w)) rfl rfl rfl rfl rfl ?_
  refine Z4 ?_
  refine Z36 ?_ ?_ <;> intro g32
  ·
   iterate 3 refine oF ?_
   refine Z8 ?_
   refine sB ?_
   exact aR (f1 (q := ⟨_, rfl, by first | exact (fun _ => opd_null (by assumption) (by first | omega | (simp only [List.length_map] at *; omega)) (by assumption)) | exact (fun _ => opd_txt1 h22 (by assumption)) | exact (fun h => opd_txt2 h22 (by assumption) fun hk => (vv_of (of_decide_eq_true h) hk).2) | exact (fun _ => opd_txt2 h22 (by assumption) fun hk => by exfalso; simp_all), rfl⟩))
  refine Z5 Fx.fl26_4 ?_
  refine Z25 (r := .g [_, _, _]) Fx.ty23 ?_
  refine SeqK.on (q_call _ rfl Fx.fn35 rfl (D.vvalid_any ⟨e.vk, e.vn, e.vs⟩ (by show e.vs.size ≤ _; omega)) rfl) rfl rfl rfl rfl rfl ?_
  refine Z4 ?_
  refine sB ?_
  exact aR (f1 (q := ⟨_, rfl, by first | exact (fun _ => opd_null (by assumption) (by first | omega | (simp only [List.length_map] at *; omega)) (by assumption)) | exact (fun _ => opd_txt1 h22 (by assumption)) | exact (fun h => opd_txt2 h22 (by assumption) fun hk => (vv_of (of_decide_eq_true h) hk).2) | exact (fun _ => opd_txt2 h22 (by assumption) fun hk => by exfalso; simp_all), rfl⟩))
 refine Z25 (r := .g [_, _, _, _, _, _, _, _]) Fx.ty26 ?_
 refine Z14 ?_
 refine Z35 Fx.fn33 (text_any e l z hL) ?_
 refine Z4 ?_
 refine Z7 ?_
 refine AW.cond _ rfl (fun h22 => ?_) (fun h22 => ?_)
 ·
  refine sR (Z1 Fx.fl26_0 ?_)
  refine Z0 Fx.ty3 ?_
  refine Z9 ?_
  refine Z17 ?_ ?_ <;> intro g26
  ·
   iterate 4 refine oF ?_
   refine Z8 ?_
   refine sM ?_
   iterate 3 refine oF ?_
   refine Z8 ?_
   refine sB ?_
   exact aR (f1 (q := ⟨_, rfl, by first | exact (fun _ => opd_null (by assumption) (by first | omega | (simp only [List.length_map] at *; omega)) (by assumption)) | exact (fun _ => opd_txt1 h22 (by assumption)) | exact (fun h => opd_txt2 h22 (by assumption) fun hk => (vv_of (of_decide_eq_true h) hk).2) | exact (fun _ => opd_txt2 h22 (by assumption) fun hk => by exfalso; simp_all), rfl⟩))
  refine Z5 Fx.fl26_4 ?_
  refine Z25 (r := .g [_, _, _]) Fx.ty23 ?_
  refine SeqK.on (q_build2 (zs := [_, _, _]) (r := [_, _, _]) [(0, 1), (1, 1), (2, 1)] _ rfl Fx.ze23 rfl Fx.bp23 rfl rfl rfl rfl) rfl rfl rfl rfl rfl ?_
  refine SeqK.on (q_eqlG [.int .i64 e.vk, .int .i64 e.vn, .string e.vs] [.int .i64 0, .int .i64 0, .string ⟨#[]⟩] rfl rfl rfl rfl rfl (by kernel_rfl) (fun w => eq23 _ _ _ _ _ _ w)) rfl rfl rfl rfl rfl ?_
  refine Z4 ?_
  refine Z36 ?_ ?_ <;> intro g32
  ·
   iterate 3 refine oF ?_
   refine Z8 ?_
   refine sB ?_
   exact aR (f1 (q := ⟨_, rfl, by first | exact (fun _ => opd_null (by assumption) (by first | omega | (simp only [List.length_map] at *; omega)) (by assumption)) | exact (fun _ => opd_txt1 h22 (by assumption)) | exact (fun h => opd_txt2 h22 (by assumption) fun hk => (vv_of (of_decide_eq_true h) hk).2) | exact (fun _ => opd_txt2 h22 (by assumption) fun hk => by exfalso; simp_all), rfl⟩))
  refine Z5 Fx.fl26_4 ?_
  refine Z25 (r := .g [_, _, _]) Fx.ty23 ?_
  refine SeqK.on (q_call _ rfl Fx.fn35 rfl (D.vvalid_any ⟨e.vk, e.vn, e.vs⟩ (by show e.vs.size ≤ _; omega)) rfl) rfl rfl rfl rfl rfl ?_
  refine Z4 ?_
  refine sB ?_
  exact aR (f1 (q := ⟨_, rfl, by first | exact (fun _ => opd_null (by assumption) (by first | omega | (simp only [List.length_map] at *; omega)) (by assumption)) | exact (fun _ => opd_txt1 h22 (by assumption)) | exact (fun h => opd_txt2 h22 (by assumption) fun hk => (vv_of (of_decide_eq_true h) hk).2) | exact (fun _ => opd_txt2 h22 (by assumption) fun hk => by exfalso; simp_all), rfl⟩))
 refine AW.skip (sR (Z10 (r := .g [_, _, _, _, _, _, _, _]) Fx.ty26 ?_))
 refine sM ?_
 refine SeqK.callE rfl rfl rfl rfl Fx.fn61 rfl (integer_any l z hL e hr _) (fun _ _ h => by obtain ⟨b, hb, _⟩ := h; rw [hb]; rfl) (fun x39 H39 q39 => ?_)
 obtain ⟨b39, rfl, q39, hH⟩ := q39
 replace hH := hH.symm
 subst hH
 refine Z36 ?_ ?_ <;> intro g40
 ·
  refine Z25 (r := .g [_, _, _, _, _, _, _, _]) Fx.ty26 ?_
  refine relOn Fx.fn62 (fits_any e d hr hs hd _) ?_
  intro b42 q42
  refine Z8 ?_
  refine sB ?_
  exact aR (f1 (q := ⟨_, rfl, by first | exact (fun h => .int (q39 (by assumption)) (q42 h)) | exact (fun h => by first | (cases h; done) | (exfalso; simp_all; done)), rfl⟩))
 iterate 2 refine oF ?_
 refine Z4 ?_
 refine sB ?_
 exact aR (f1 (q := nb))
theorem plc {i : Nat} (hi : i < 6) : ([[.v (.int .i64 10)], [.v (.int .i64 11)], [.v (.int .i64 12)], [.v (.int .i64 13)], [.v (.int .i64 14)], [.v (.int .i64 15)]] : List (List E.T))[((i : Nat) : Int).toNat]? = some (i64T (10 + (i : Int))) := by
  match i, hi with
  | 0, _ => rfl
  | 1, _ => rfl
  | 2, _ => rfl
  | 3, _ => rfl
  | 4, _ => rfl
  | 5, _ => rfl
theorem place_any (op : Int) : Pure Tryz.prog 36 [iC op] (.c (iC (if 10 ≤ op ∧ op ≤ 15 then op - 10 else -1))) := by
 intro H
 refine Spec.enter Tryz.func36 rfl ?_
 refine AW.wk (Wk.keep 15 [(0, .c (iC op))] [] (H) rfl ⟨rfl, trivial⟩ trivial (fun _ _ h => h) rfl) ?_
 refine sR (sB ?_)
 refine AW.seq (sR (sB ?_))
 refine AW.block ?_
 refine AW.loop (fun (i : Nat) s => (i ≤ 6 ∧ ∀ j : Nat, j < i → op ≠ 10 + (j : Int)) ∧ s = ⟨15, sp [(0, .c (iC op)), (2, .c (iC 0)), (3, iX .i64 ((i : Nat) : Int))], lv [], H⟩) (fun i => 6 - i) 0 ⟨_, by exact Wk.keep 15 _ _ _ rfl ⟨rfl, rfl, rfl, trivial⟩ trivial (fun _ _ h => h) rfl, ⟨by omega, fun j hj => by omega⟩, rfl⟩ (fun i s hs => ?_)
 obtain ⟨⟨hi0, hU⟩, rfl⟩ := hs
 refine AW.seq (sR (sM ?_))
 refine Z30 ?_
 refine Z7 ?_
 refine cD ?_ ?_ <;> intro h5
 ·
  have hi : i < 6 := by omega
  refine AW.skip (AW.seq (AW.block (sR (Z27 Fx.el80 ?_))))
  refine sM ?_
  refine Z24 Fx.sl80 (plc hi) ?_
  refine Z28 (.a _) Fx.ty3 ?_
  refine sM ?_
  refine Z9 ?_
  refine Z7 ?_
  refine cD ?_ ?_ <;> intro h13
  ·
   refine sR (sM ?_)
   refine sB ?_
   exact aR (f1 (q := ⟨(fun {a b : Int} (h : a = b) => (by rw [h] : X.c (iC a) = X.c (iC b))) (by rw [if_pos (by omega)]; omega), rfl⟩))
  refine AW.skip (AW.reg (sM ?_))
  refine Z13 ?_
  refine sB ?_
  exact ⟨i + 1, _, by exact Wk.keep 15 _ _ _ rfl ⟨rfl, rfl, rfl, trivial⟩ trivial (fun _ _ h => h) rfl, by omega, ⟨by omega, fun j hj => by by_cases h : j = i; (subst h; omega); exact hU j (by omega)⟩, rfl⟩
 refine AW.exit ?_
 refine eth_e ?_
 refine eth_e ?_
 refine exit_here ?_
 refine sR (sB ?_)
 exact aR (f1 (q := ⟨(fun {a b : Int} (h : a = b) => (by rw [h] : X.c (iC a) = X.c (iC b))) (by rw [if_neg (fun h => hU (op - 10).toNat (by omega) (by omega))]), rfl⟩))
end Go.Proofs.YtnnoafgdjjpidaaGreatDoor.W
