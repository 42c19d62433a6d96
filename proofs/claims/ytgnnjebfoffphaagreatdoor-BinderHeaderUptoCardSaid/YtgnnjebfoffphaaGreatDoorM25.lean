import Derived.Test.YtgnnjebfoffphaaGreatDoorM24
set_option maxRecDepth 20000
set_option maxHeartbeats 16000000
set_option linter.unusedSectionVars false
set_option linter.unusedSimpArgs false
set_option linter.unusedVariables false
namespace Go.Proofs.YtgnnjebfoffphaaGreatDoor.W
open Fx
open Go.RowKit E M
open Q
def ruI (e : Ex) (ks : List Int) : Int × Int := if (opI e ks).2 ≠ 0 then (0, (opI e ks).2) else opI e ks
theorem ru_e {e : Ex} {ks : List Int} {k n : Int} (h : opI e ks = (k, n)) (hn : n ≠ 0) : (0, n) = ruI e ks := by unfold ruI; rw [h, if_pos hn]
theorem ru_o {e : Ex} {ks : List Int} {k : Int} (h : opI e ks = (k, 0)) : (k, 0) = ruI e ks := by unfold ruI; rw [h, if_neg (by simp)]
theorem gd_yes {l : List Int} {i : Nat} (h : i < l.length) : l[i] = l.getD i 0 := (getD_at h).symm
theorem gd_none {l : List Int} {i : Nat} (h : ¬ i < l.length) : (0 : Int) = l.getD i 0 := by
  rw [qI, List.getElem?_eq_none (by omega)]; rfl
theorem all2 {ks : List Int} (h : ks.length ≤ 2) (w : Int) : allI ks w = (fitI (ks.getD 0 0) w && fitI (ks.getD 1 0) w) := by
  match ks, h with
  | [], _ => simp
  | [a], _ => simp
  | [a, b], _ => simp
theorem fit_t {k w : Int} (h : (!fitI k w) = true) : fitI k w = false := by cases hb : fitI k w with | true => rw [hb] at h; cases h | false => rfl
theorem fit_f {k w : Int} (h : (!fitI k w) = false) : fitI k w = true := by cases hb : fitI k w with | true => rfl | false => rw [hb] at h; cases h
section
variable {e : Ex} {ks : List Int}
theorem al_1 (h : ks.length ≤ 2) {w : Int} (h0 : fitI (ks.getD 0 0) w = false) : allI ks w = false := by rw [all2 h, h0]; rfl
theorem al_2 (h : ks.length ≤ 2) {w : Int} (h0 : fitI (ks.getD 1 0) w = false) : allI ks w = false := by rw [all2 h, h0, Bool.and_false]
theorem al_t (h : ks.length ≤ 2) {w : Int} (h0 : fitI (ks.getD 0 0) w = true) (h1 : fitI (ks.getD 1 0) w = true) : allI ks w = true := by rw [all2 h, h0, h1]; rfl
theorem op_ar (h : 3 ≤ e.op ∧ e.op ≤ 8) {n : Int} (h2 : arI e ks = n) : opI e ks = (1, n) := by rw [opI, if_pos (by omega), h2]
end
theorem rule_any (e : Ex) (ks : List Int) (hf : fmE e) (hk : ks.length = e.args.length) (h12o : ¬ e.op = 1 ∧ ¬ e.op = 2) (hta : ∀ a ∈ e.args, tsE a) (hev : allI ks 1 = true → e.op = 7 ∨ e.op = 8 → ∀ h : 1 < e.args.length, cnB icB e.args[1] = false → Ev [] e.args[1]) (hof : 3 ≤ e.op ∧ e.op ≤ 8 → Pu 144 [exC e] (trC (ofE e))) : Pu 100 [exC e, iL .un ks] (i2X (ruI e ks)) := by
 have hn := ((fmE_iff e).1 hf).1
 have hfa := ((fmE_iff e).1 hf).2
 have hk2 : ks.length ≤ 2 := by have := hn; omega
 intro H
 refine Spec.enter Tryz.func100 rfl ?_
 refine AW.wk (wK 162 (l := [(0, .c (exC e)), (1, .c (iL .un ks))]) (ll := []) (H := (H))) ?_
 refine D3 ?_
 refine D2 ?_
 refine AW.seqM (fun s => s = ⟨162, sp [(1, .c (iL .un ks)), (2, .lp 2 0), (4, .c (iC 0)), (5, .c (iC 0)), (6, .c (iC (ks.getD 0 0))), (7, .c (iC 0))], lv [(2, .box (zEx e))], H⟩) ?_ ?_
 ·
  refine eL229 ?_
  refine cD ?_ ?_ <;> intro h12
  ·
   have k0 : 0 < ks.length := by (try simp only [qA] at *); omega
   refine B1 ?_
   refine Z10 sl43 (idx_map (f := i64T) k0) ?_
   refine G2 ?_
   exact cL106
  have k0 : ¬ 0 < ks.length := by (try simp only [qA] at *); omega
  refine eL257 ?_
  exact cL106
 rintro s rfl
 refine AW.seqM (fun s => s = ⟨162, sp [(2, .lp 2 0), (4, .c (iC 0)), (5, .c (iC 0)), (6, .c (iC (ks.getD 0 0))), (7, .c (iC (ks.getD 1 0)))], lv [(2, .box (zEx e))], H⟩) ?_ ?_
 ·
  refine eL229 ?_
  refine cD ?_ ?_ <;> intro h18
  ·
   have k1 : 1 < ks.length := by (try simp only [qA] at *); omega
   refine B1 ?_
   refine Z10 sl43 (idx_map (f := i64T) k1) ?_
   refine G2 ?_
   exact cL107
  have k1 : ¬ 1 < ks.length := by (try simp only [qA] at *); omega
  refine eL257 ?_
  exact cL107
 rintro s rfl
 refine eL205 ?_
 refine Z3 (AW.block (AW.seqM (fun s => s = ⟨162, sp [(2, .lp 2 0), (4, .c (iC 0)), (5, .c (iC 0)), (6, .c (iC (ks.getD 0 0))), (7, .c (iC (ks.getD 1 0))), (23, .c (iC e.op)), (24, .c (bC (decide (3 ≤ e.op ∧ e.op ≤ 8))))], lv [(2, .box (zEx e))], H⟩) ?_ ?_))
 ·
  refine D2 ?_
  refine cD ?_ ?_ <;> intro h24
  ·
   refine eL257 ?_
   exact cL8
  refine D2 ?_
  refine cD ?_ ?_ <;> intro h24
  ·
   refine eL257 ?_
   exact cL8
  refine D2 ?_
  refine cD ?_ ?_ <;> intro h24
  ·
   refine eL257 ?_
   exact cL8
  refine D2 ?_
  refine cD ?_ ?_ <;> intro h24
  ·
   refine eL257 ?_
   exact cL8
  refine D2 ?_
  refine cD ?_ ?_ <;> intro h24
  ·
   refine eL257 ?_
   exact cL8
  refine B2 ?_
  exact cL8
 rintro s rfl
 refine cD ?_ ?_ <;> intro h24
 ·
  refine eL192 ?_
  have h38o : 3 ≤ e.op ∧ e.op ≤ 8 := by assumption
  refine B1 ?_
  refine eL299 ?_
  refine Z32 ?_
  refine Z49 ?_ ?_ <;> intro g34
  ·
   iterate 3 refine oF ?_
   refine eL156 ?_
   exact cL102
  refine eL227 ?_
  refine eL165 ?_
  refine AW.cond _ rfl (fun h38 => ?_) (fun h38 => ?_)
  ·
   exact cL102
  have hal : allI ks 1 = true := al_t hk2 (fit_f g34) (fit_f h38)
  refine AW.skip (AW.seqM (fun s => (allI ks 1 = true) ∧ (¬ (e.op = 6 ∧ cnB icB (e.args.getD 0 ex0) = true ∧ cnB icB (e.args.getD 1 ex0) = true)) ∧ s = ⟨162, sp [(2, .lp 2 0), (4, .c (iC 0)), (5, .c (iC 0)), (6, .c (iC (ks.getD 0 0))), (7, .c (iC (ks.getD 1 0)))], lv [(2, .box (zEx e))], H⟩) ?_ ?_)
  ·
   refine D3 ?_
   refine Z22 ?_ ?_ <;> intro g42
   rotate_left
   ·
    iterate 5 refine oF ?_
    refine G2 ?_
    iterate 5 refine oF ?_
    refine eL172 ?_
    exact cL69
   have hl2 : e.args.length = 2 := by have := hn; omega
   have h01 : 0 < e.args.length := by omega
   have h12 : 1 < e.args.length := by omega
   refine G2 ?_
   refine Z47 sl27 (idx_ex h01) ?_
   refine eL297 ?_
   refine Z49 ?_ ?_ <;> intro g49
   ·
    refine G2 ?_
    refine Z47 sl27 (idx_ex h12) ?_
    refine eL297 ?_
    refine Z3 ?_
    refine AW.cond _ rfl (fun h55 => ?_) (fun h55 => ?_)
    ·
     refine D2 ?_
     exact aR (f2 (.tmp rfl (.tmp rfl .nil)) (⟨i2e (ru_e (op_ar h38o (by rw [arI, if_neg (okN1 (e := e) hal), if_pos ⟨by assumption, by rw [getD_at h01]; simp_all, by rw [getD_at h12]; simp_all⟩])) (by decide)), rfl⟩))
    exact cL69
   iterate 5 refine oF ?_
   refine eL172 ?_
   exact cL69
  rintro s ⟨hal, hM, rfl⟩
  refine AW.seqM (fun s => (allI ks 1 = true) ∧ (¬ (e.op = 6 ∧ cnB icB (e.args.getD 0 ex0) = true ∧ cnB icB (e.args.getD 1 ex0) = true)) ∧ (¬ ((e.op = 7 ∨ e.op = 8) ∧ ¬ ((cstE (e.args.getD 1 ex0)).2 = 0 ∧ (cstE (e.args.getD 1 ex0)).1.k = 1 ∧ 1 ≤ (cstE (e.args.getD 1 ex0)).1.n ∧ (cstE (e.args.getD 1 ex0)).1.n ≤ 1000))) ∧ s = ⟨162, sp [(2, .lp 2 0), (4, .c (iC 0)), (5, .c (iC 0)), (6, .c (iC (ks.getD 0 0))), (7, .c (iC (ks.getD 1 0)))], lv [(2, .box (zEx e))], H⟩) ?_ ?_
  ·
   refine D3 ?_
   refine Z22 ?_ ?_ <;> intro g59
   ·
    have hl2 : e.args.length = 2 := by have := hn; omega
    have h01 : 0 < e.args.length := by omega
    have h12 : 1 < e.args.length := by omega
    iterate 3 refine oF ?_
    refine G4 ?_
    refine eL248 ?_
    refine eL165 ?_
    refine AW.cond _ rfl (fun h71 => ?_) (fun h71 => ?_)
    ·
     exact cL93
    exact cL77
   refine G4 ?_
   refine Z22 ?_ ?_ <;> intro g64
   ·
    have hl2 : e.args.length = 2 := by have := hn; omega
    have h01 : 0 < e.args.length := by omega
    have h12 : 1 < e.args.length := by omega
    refine G2 ?_
    refine eL248 ?_
    refine eL165 ?_
    refine AW.cond _ rfl (fun h71 => ?_) (fun h71 => ?_)
    ·
     exact cL93
    exact cL77
   iterate 6 refine oF ?_
   refine eL172 ?_
   exact cL77
  rintro s ⟨hal, hM, hD, rfl⟩
  refine eL161 ?_
  refine Z16 fn143 (rnull_any e hf) ?_
  refine eL185 ?_
  refine AW.cond _ rfl (fun h74 => ?_) (fun h74 => ?_)
  rotate_left
  ·
   exact cL87
  refine D1 ?_
  refine sQ (q_call _ rfl fn144 rfl (hof (by assumption)) rfl) ?_
  refine G6 ?_
  refine D2 ?_
  refine Z3 ?_
  refine cD ?_ ?_ <;> intro h81
  ·
   refine D3 ?_
   exact aR (f2 (.tmp rfl (.tmp rfl .nil)) (⟨i2e (ru_e (op_ar h38o (by rw [arI, if_neg (okN1 (e := e) hal), if_neg hM, if_neg hD, if_neg (by rw [bnt h74]; simp)])) h81), rfl⟩))
  exact cL87
 refine D2 ?_
 refine cD ?_ ?_ <;> intro h83
 ·
  refine eL161 ?_
  refine eL299 ?_
  refine eL185 ?_
  refine AW.cond _ rfl (fun h87 => ?_) (fun h87 => ?_)
  ·
   refine D2 ?_
   exact aR (f2 (.tmp rfl (.tmp rfl .nil)) (⟨i2e (ru_e (k := 0) (by rw [opI, if_neg (by omega), if_pos (by assumption), isI, if_neg (by rw [al_1 hk2 (fit_t h87)]; simp)]) (by decide)), rfl⟩))
  refine eL201 ?_
  exact aR (f2 (.tmp rfl (.tmp rfl .nil)) (⟨i2e (ru_o (by rw [opI, if_neg (by omega), if_pos (by assumption), isI, if_pos (al_t hk2 (fit_f h87) (by rw [← gd_none (by omega)]; rfl))])), rfl⟩))
 refine AW.seqM (fun s => s = ⟨162, sp [(2, .lp 2 0), (4, .c (iC 0)), (5, .c (iC 0)), (6, .c (iC (ks.getD 0 0))), (7, .c (iC (ks.getD 1 0))), (23, .c (iC e.op)), (88, .c (bC (decide (10 ≤ e.op ∧ e.op ≤ 15))))], lv [(2, .box (zEx e))], H⟩) ?_ ?_
 ·
  refine D2 ?_
  refine cD ?_ ?_ <;> intro h88
  ·
   refine eL257 ?_
   exact cL8
  refine D2 ?_
  refine cD ?_ ?_ <;> intro h88
  ·
   refine eL257 ?_
   exact cL8
  refine D2 ?_
  refine cD ?_ ?_ <;> intro h88
  ·
   refine eL257 ?_
   exact cL8
  refine D2 ?_
  refine cD ?_ ?_ <;> intro h88
  ·
   refine eL257 ?_
   exact cL8
  refine D2 ?_
  refine cD ?_ ?_ <;> intro h88
  ·
   refine eL257 ?_
   exact cL8
  refine B2 ?_
  exact cL8
 rintro s rfl
 refine cD ?_ ?_ <;> intro h88
 rotate_left
 ·
  refine D2 ?_
  refine cD ?_ ?_ <;> intro h145
  ·
   refine eL161 ?_
   refine eL299 ?_
   refine eL185 ?_
   refine AW.cond _ rfl (fun h149 => ?_) (fun h149 => ?_)
   ·
    refine D2 ?_
    exact aR (f2 (.tmp rfl (.tmp rfl .nil)) (⟨i2e (ru_e (k := 0) (by rw [opI, if_neg (by omega), if_neg (by omega), if_neg (by omega), if_pos (by assumption), isI, if_neg (by rw [fit_t h149]; simp)]) (by decide)), rfl⟩))
   refine eL201 ?_
   exact aR (f2 (.tmp rfl (.tmp rfl .nil)) (⟨i2e (ru_o (by rw [opI, if_neg (by omega), if_neg (by omega), if_neg (by omega), if_pos (by assumption), isI, if_pos (fit_f h149)])), rfl⟩))
  refine D2 ?_
  refine cD ?_ ?_ <;> intro h150
  ·
   refine eL153 ?_
   refine cD ?_ ?_ <;> intro h153
   ·
    refine D2 ?_
    exact aR (f2 (.tmp rfl (.tmp rfl .nil)) (⟨i2e (ru_e (k := 0) (by rw [opI, if_neg (by omega), if_neg (by omega), if_neg (by omega), if_neg (by omega), if_pos (by assumption), isI, if_neg (by simp_all)]) (by decide)), rfl⟩))
   refine eL201 ?_
   exact aR (f2 (.tmp rfl (.tmp rfl .nil)) (⟨i2e (ru_o (by rw [opI, if_neg (by omega), if_neg (by omega), if_neg (by omega), if_neg (by omega), if_pos (by assumption), isI, if_pos (jI (by assumption))])), rfl⟩))
  refine eL232 ?_
  refine eL299 ?_
  refine Z32 ?_
  refine Z49 ?_ ?_ <;> intro g157
  ·
   iterate 3 refine oF ?_
   refine eL156 ?_
   exact cL72
  refine eL227 ?_
  refine eL165 ?_
  refine AW.cond _ rfl (fun h161 => ?_) (fun h161 => ?_)
  ·
   exact cL72
  refine eL201 ?_
  exact aR (f2 (.tmp rfl (.tmp rfl .nil)) (⟨i2e (ru_o (by rw [opI, if_neg (by omega), if_neg (by omega), if_neg (by omega), if_neg (by omega), if_neg (by omega), isI, if_pos (al_t hk2 (fit_f g157) (fit_f h161))])), rfl⟩))
 refine AW.seqM (fun s => (¬ (allI ks 1 = false ∧ allI ks 2 = false)) ∧ s = ⟨162, sp [(2, .lp 2 0), (4, .c (iC 0)), (5, .c (iC 0)), (6, .c (iC (ks.getD 0 0))), (7, .c (iC (ks.getD 1 0)))], lv [(2, .box (zEx e))], H⟩) ?_ ?_
 ·
  refine eL235 ?_
  have h1015 : 10 ≤ e.op ∧ e.op ≤ 15 := by assumption
  have hl2 : e.args.length = 2 := by have := hn; omega
  have h01 : 0 < e.args.length := by omega
  have h12 : 1 < e.args.length := by omega
  refine B1 ?_
  refine eL299 ?_
  refine Z32 ?_
  refine Z49 ?_ ?_ <;> intro g98
  ·
   iterate 3 refine oF ?_
   refine G3 ?_
   refine Z43 fn53 (rfits_any _ _) ?_
   refine Z36 ?_
   refine SeqK.onB (q_mvC rfl rfl) rfl rfl rfl rfl rfl (fun g107 => ?_) (fun g107 => ?_)
   ·
    iterate 3 refine oF ?_
    refine eL157 ?_
    exact cL13
   refine eL227 ?_
   refine eL191 ?_
   refine AW.cond _ rfl (fun h112 => ?_) (fun h112 => ?_)
   ·
    exact cL13
   exact cL38
  refine eL227 ?_
  refine G2 ?_
  refine Z49 ?_ ?_ <;> intro g103
  rotate_left
  ·
   iterate 4 refine oF ?_
   iterate 3 refine oU ?_
   refine eL164 ?_
   exact cL38
  refine eL227 ?_
  refine Z36 ?_
  refine SeqK.onB (q_mvC rfl rfl) rfl rfl rfl rfl rfl (fun g107 => ?_) (fun g107 => ?_)
  ·
   iterate 3 refine oF ?_
   refine eL157 ?_
   exact cL13
  refine eL227 ?_
  refine eL191 ?_
  refine AW.cond _ rfl (fun h112 => ?_) (fun h112 => ?_)
  ·
   exact cL13
  exact cL38
 rintro s ⟨hA, rfl⟩
 refine AW.seqM (fun s => (¬ (allI ks 1 = false ∧ allI ks 2 = false)) ∧ (¬ (e.op ≠ 10 ∧ e.op ≠ 11 ∧ icB (e.args.getD 0 ex0) = true ∧ icB (e.args.getD 1 ex0) = true ∧ ks.getD 0 0 = 2 ∧ ks.getD 1 0 = 2)) ∧ s = ⟨162, sp [(2, .lp 2 0), (4, .c (iC 0)), (5, .c (iC 0)), (6, .c (iC (ks.getD 0 0))), (7, .c (iC (ks.getD 1 0)))], lv [(2, .box (zEx e))], H⟩) ?_ ?_
 ·
  refine eL235 ?_
  have hl2 : e.args.length = 2 := by have := hn; omega
  have h01 : 0 < e.args.length := by omega
  have h12 : 1 < e.args.length := by omega
  refine B3 ?_
  refine Z22 ?_ ?_ <;> intro g116
  rotate_left
  ·
   iterate 3 refine oF ?_
   refine G2 ?_
   iterate 2 refine oF ?_
   refine G2 ?_
   iterate 2 refine oF ?_
   refine G2 ?_
   iterate 6 refine oF ?_
   refine G2 ?_
   iterate 6 refine oF ?_
   refine Z6 ?_
   refine Z3 (AW.condF rfl ?_)
   refine AW.skip ?_
   exact ⟨_, by exact wK 162, hA, by rintro ⟨k1, k2, k3, k4, k5, k6⟩; rw [getD_at h01] at k3; rw [getD_at h12] at k4; have k3 := jK k3; have k4 := jK k4; first | omega | contradiction, rfl⟩
  refine G4 ?_
  refine Z22 ?_ ?_ <;> intro g121
  rotate_left
  ·
   iterate 2 refine oF ?_
   refine G2 ?_
   iterate 2 refine oF ?_
   refine G2 ?_
   iterate 6 refine oF ?_
   refine G2 ?_
   iterate 6 refine oF ?_
   refine Z6 ?_
   refine Z3 (AW.condF rfl ?_)
   refine AW.skip ?_
   exact ⟨_, by exact wK 162, hA, by rintro ⟨k1, k2, k3, k4, k5, k6⟩; rw [getD_at h01] at k3; rw [getD_at h12] at k4; have k3 := jK k3; have k4 := jK k4; first | omega | contradiction, rfl⟩
  refine G3 ?_
  refine Z22 ?_ ?_ <;> intro g125
  rotate_left
  ·
   iterate 2 refine oF ?_
   refine G2 ?_
   iterate 6 refine oF ?_
   refine G2 ?_
   iterate 6 refine oF ?_
   refine Z6 ?_
   refine Z3 (AW.condF rfl ?_)
   refine AW.skip ?_
   exact ⟨_, by exact wK 162, hA, by rintro ⟨k1, k2, k3, k4, k5, k6⟩; rw [getD_at h01] at k3; rw [getD_at h12] at k4; have k3 := jK k3; have k4 := jK k4; first | omega | contradiction, rfl⟩
  refine G3 ?_
  refine Z22 ?_ ?_ <;> intro g129
  rotate_left
  ·
   iterate 6 refine oF ?_
   refine G2 ?_
   iterate 6 refine oF ?_
   refine Z6 ?_
   refine Z3 (AW.condF rfl ?_)
   refine AW.skip ?_
   exact ⟨_, by exact wK 162, hA, by rintro ⟨k1, k2, k3, k4, k5, k6⟩; rw [getD_at h01] at k3; rw [getD_at h12] at k4; have k3 := jK k3; have k4 := jK k4; first | omega | contradiction, rfl⟩
  refine G2 ?_
  refine Z47 sl27 (idx_ex h01) ?_
  refine sO (q_fieldP _ rfl fl37_0 rfl rfl) ?_
  refine G3 ?_
  refine Z22 ?_ ?_ <;> intro g137
  ·
   refine G2 ?_
   refine Z47 sl27 (idx_ex h12) ?_
   refine sO (q_fieldP _ rfl fl37_0 rfl rfl) ?_
   refine eL191 ?_
   refine cD ?_ ?_ <;> intro h144
   ·
    refine D2 ?_
    exact aR (f2 (.tmp rfl (.tmp rfl .nil)) (⟨i2e (ru_e (k := 0) (by rw [opI, if_neg (by omega), if_neg (by omega), if_pos (by omega), if_neg hA, if_pos ⟨by omega, by omega, by rw [getD_at h01]; exact jI (by assumption), by rw [getD_at h12]; exact jI (by assumption), by assumption, by assumption⟩]) (by decide)), rfl⟩))
   refine eL257 ?_
   exact ⟨_, by exact wK 162, hA, by rintro ⟨k1, k2, k3, k4, k5, k6⟩; rw [getD_at h01] at k3; rw [getD_at h12] at k4; have k3 := jK k3; have k4 := jK k4; first | omega | contradiction, rfl⟩
  iterate 6 refine oF ?_
  refine Z6 ?_
  refine Z3 (AW.condF rfl ?_)
  refine AW.skip ?_
  exact ⟨_, by exact wK 162, hA, by rintro ⟨k1, k2, k3, k4, k5, k6⟩; rw [getD_at h01] at k3; rw [getD_at h12] at k4; have k3 := jK k3; have k4 := jK k4; first | omega | contradiction, rfl⟩
 rintro s ⟨hA, hB, rfl⟩
 refine D2 ?_
 exact aR (f2 (.tmp rfl (.tmp rfl .nil)) (⟨i2e (ru_o (by rw [opI, if_neg (by omega), if_neg (by omega), if_pos (by omega), if_neg hA, if_neg hB])), rfl⟩))
open Q
abbrev spR (l : List Sr) : Sp := ⟨l, [], false⟩
theorem rcol_any (l : List Sr) (z : Nz) (e : Ex) (hs : okSp (spR l)) : Pu 99 [exC e, srsC z l] (i3X (colS (spR l) e)) := by
 have hsl : l.length ≤ 1000000 := hs.sr
 intro H
 refine Spec.enter Tryz.func99 rfl ?_
 refine AW.wk (wK 69 (l := [(0, .c (exC e)), (1, .c (srsC z l))]) (ll := []) (H := (H))) ?_
 refine D4 ?_
 refine D3 ?_
 refine eL161 ?_
 refine AW.block (AW.loop (fun (i : Nat) s => ∃ (ca cb cc : Int), (i ≤ l.length ∧ (0 ≤ cc ∧ cc ≤ i) ∧ scnS e.tb e.nm (l.drop i) ca cb cc = (scnS e.tb e.nm l 0 0 0)) ∧ s = ⟨69, sp [(1, .c (srsC z l)), (2, .lp 2 0), (4, .c (iC 0)), (5, .c (iC 0)), (6, .c (iC 0)), (7, .c (iC ca)), (8, .c (iC cb)), (9, .c (iC cc)), (10, nX i)], lv [(2, .box (zEx e))], H⟩) (fun i => l.length - i) 0 ⟨_, by exact wK 69, 0, 0, 0, ⟨qZ _, ⟨by omega, by omega⟩, rfl⟩, rfl⟩ (fun i s hs => ?_))
 obtain ⟨ca, cb, cc, ⟨hi0, hcc, hI⟩, rfl⟩ := hs
 refine eL155 ?_
 refine cD ?_ ?_ <;> intro h16
 rotate_left
 ·
  refine eL147 ?_
  refine eL192 ?_
  obtain rfl := oE h16 hi0
  have hE := scn_end hI
  refine eL211 ?_
  refine cD ?_ ?_ <;> intro h64
  ·
   refine D3 ?_
   exact aR (fin_x (x := .tup [_, _, _]) (H) (.tmp rfl (.tmp rfl (.tmp rfl .nil))) rfl (fun _ _ h => h) (⟨i3e (a := (0, 0, 4)) (by rw [colS_n (by simp), hE, if_pos (by assumption)]), rfl⟩))
  refine eL198 ?_
  refine Z3 ?_
  refine cD ?_ ?_ <;> intro h66
  ·
   refine D3 ?_
   exact aR (fin_x (x := .tup [_, _, _]) (H) (.tmp rfl (.tmp rfl (.tmp rfl .nil))) rfl (fun _ _ h => h) (⟨i3e (a := (0, 0, 1)) (by rw [colS_n (by simp), hE, if_neg (by show ¬ cc = 0; omega), if_neg (by show ¬ cc = 1; omega)]), rfl⟩))
  refine AW.skip (D5 ?_)
  exact aR (fin_x (x := .tup [_, _, _]) (H) (.tmp rfl (.tmp rfl (.tmp rfl .nil))) rfl (fun _ _ h => h) (⟨i3e (a := (ca, cb, 0)) (by rw [colS_n (by simp), hE, if_neg (by omega), if_pos (by show cc = 1; omega)]), rfl⟩))
 have hi := oI h16
 have hsx : l[i].t.cols.length ≤ 1000000 := hs.cols _ (qC (l := (spR l).sr) hi)
 have hsf : 0 ≤ l[i].f0 ∧ l[i].f0 ≤ 1000000000000 := hs.f0 _ (qC (l := (spR l).sr) hi)
 refine eL291 ?_
 refine N2 ?_
 refine lQ (q_neqS rfl rfl rfl) ?_
 refine LexK.qD (q_mvC rfl rfl) rfl rfl rfl (fun g22 => ?_) (fun g22 => ?_)
 ·
  refine N2 ?_
  refine eL243 ?_
  refine eL243 ?_
  refine lO (q_index _ rfl sl113 rfl rfl (by omega) (idx_map (f := srT) hi)) ?_
  refine lO (q_fieldP _ rfl fl117_0 rfl rfl) ?_
  refine lO (q_load (.a _) rfl ty9 rfl rfl rfl) ?_
  refine lO (q_neqS rfl rfl rfl) ?_
  refine eL210 ?_
  refine Z38 ?_
  refine cD ?_ ?_ <;> intro h31
  ·
   refine eL310 ?_
   refine B3 ?_
   exact ⟨i + 1, _, by exact wK 69, by omega, ca, cb, cc, ⟨hi, by omega, scn_step1 hi hI g22 h31⟩, rfl⟩
  refine eL208 ?_
  refine AW.cond _ rfl (fun h43 => ?_) (fun h43 => ?_)
  rotate_left
  ·
   have hn0 : ¬ 0 ≤ colI l[i].t.cols e.nm := by simpa using h43
   refine eL173 ?_
   exact ⟨i + 1, _, by exact wK 69, by omega, ca, cb, cc, ⟨hi, by omega, scn_step3 hi hI (fun k => h31 k.2) hn0⟩, rfl⟩
  have hn0 : 0 ≤ colI l[i].t.cols e.nm := by simpa using h43
  have hnl := colI_lt (cols := l[i].t.cols) (nm := e.nm)
  have hnm : max (colI l[i].t.cols e.nm) 0 = colI l[i].t.cols e.nm := by omega
  have hnt : (colI l[i].t.cols e.nm).toNat < l[i].t.cols.length := by omega
  rw [hnm]
  refine eL194 ?_
  refine B3 ?_
  exact ⟨i + 1, _, by exact wK 69, by omega, (l[i].f0 + colI l[i].t.cols e.nm), (l[i].t.cols[(colI l[i].t.cols e.nm).toNat]).ty, (cc + 1), ⟨hi, by omega, scn_step2 hi hI (fun k => h31 k.2) hn0 hnt⟩, rfl⟩
 iterate 8 refine LexK.off rfl rfl rfl rfl rfl rfl ?_
 refine eL220 ?_
 refine AW.condF rfl ?_
 refine eL208 ?_
 refine AW.cond _ rfl (fun h43 => ?_) (fun h43 => ?_)
 rotate_left
 ·
  have hn0 : ¬ 0 ≤ colI l[i].t.cols e.nm := by simpa using h43
  refine eL173 ?_
  exact ⟨i + 1, _, by exact wK 69, by omega, ca, cb, cc, ⟨hi, by omega, scn_step3 hi hI (fun k => g22 k.1) hn0⟩, rfl⟩
 have hn0 : 0 ≤ colI l[i].t.cols e.nm := by simpa using h43
 have hnl := colI_lt (cols := l[i].t.cols) (nm := e.nm)
 have hnm : max (colI l[i].t.cols e.nm) 0 = colI l[i].t.cols e.nm := by omega
 have hnt : (colI l[i].t.cols e.nm).toNat < l[i].t.cols.length := by omega
 rw [hnm]
 refine eL194 ?_
 refine B3 ?_
 exact ⟨i + 1, _, by exact wK 69, by omega, (l[i].f0 + colI l[i].t.cols e.nm), (l[i].t.cols[(colI l[i].t.cols e.nm).toNat]).ty, (cc + 1), ⟨hi, by omega, scn_step2 hi hI (fun k => g22 k.1) hn0 hnt⟩, rfl⟩
open Q
mutual
def zxE : Ex → Ex
  | .mk op tb nm ix vk vn vs args => .mk op tb nm (if op = 1 ∨ op = 2 then ix else 0) vk vn vs (zxS args)
def zxS : List Ex → List Ex
  | [] => []
  | a :: r => zxE a :: zxS r
end
theorem zxS_map : ∀ l, zxS l = l.map zxE
  | [] => rfl
  | a :: r => by rw [zxS, zxS_map r, qL]
theorem zxE_eq (e : Ex) : zxE e = ⟨e.op, e.tb, e.nm, if e.op = 1 ∨ e.op = 2 then e.ix else 0, e.vk, e.vn, e.vs, e.args.map zxE⟩ := by cases e; rw [zxE, zxS_map]
theorem zx_sz (e : Ex) : szE (zxE e) = szE e := by
  induction e using Ex.ind with
  | h e ih => rw [zxE_eq, szE_eq, szE_eq e]; show 1 + szS (e.args.map zxE) = _; rw [szS_map _ ih]
theorem zx_dp (e : Ex) : dpE (zxE e) = dpE e := by
  induction e using Ex.ind with
  | h e ih => rw [zxE_eq, dpE_eq, dpE_eq e]; show 1 + dpS (e.args.map zxE) = _; rw [dpS_map _ ih]
theorem zx_fm (e : Ex) : fmE e → fmE (zxE e) := by
  induction e using Ex.ind with
  | h e ih =>
    intro h
    have h := (fmE_iff e).1 h
    rw [zxE_eq]
    refine (fmE_iff _).2 ⟨by show arN e.op (e.args.map _).length; rw [qA]; exact h.1, fun a ha => ?_⟩
    exact cL125
theorem zx_ts (e : Ex) : tsE e → tsE (zxE e) := by
  induction e using Ex.ind with
  | h e ih =>
    intro h
    have h := (tsE_iff e).1 h
    rw [zxE_eq]
    refine (tsE_iff _).2 ⟨h.1, fun a ha => ?_⟩
    exact cL125
theorem zx_rg (e : Ex) : rgX e → rgX (zxE e) := by
  induction e using Ex.ind with
  | h e ih =>
    intro h
    have h := (rgX_iff e).1 h
    rw [zxE_eq]
    refine (rgX_iff _).2 ⟨⟨h.1.1, h.1.2.1, by show (e.args.map _).length ≤ _; rw [qA]; exact h.1.2.2⟩, fun a ha => ?_⟩
    exact cL125
theorem gdX.zx {e : Ex} (h : gdX e) : gdX (zxE e) := ⟨zx_fm e h.fm, zx_ts e h.ts, zx_rg e h.rg, by rw [zx_sz]; exact h.sz, by rw [zx_dp]; exact h.dp⟩
abbrev bnR (s : Sp) (e : Ex) : Ex × Int × Int := bndE s (zxE e)
abbrev tyC (r : Ex × Int × Int) : C := .g [.t (.v (.int .i64 r.1.op)), .t (.v (.string r.1.tb)), .t (.v (.string r.1.nm)), .t (.v (.int .i64 r.1.ix)), .t (.v (.int .i64 r.1.vk)), .t (.v (.int .i64 r.1.vn)), .t (.v (.string r.1.vs)), .t (.sl .un 8 (r.1.args.map exT')), .t (.v (.int .i64 r.2.1)), .t (.v (.int .i64 r.2.2))]
theorem tye {a b : Ex × Int × Int} (h : a = b) : X.c (tyC a) = .c (tyC b) := by rw [h]
abbrev Ex.wZ (e : Ex) (l : List Ex) : Ex := ⟨e.op, e.tb, e.nm, 0, e.vk, e.vn, e.vs, l⟩
theorem XW.tyN {a b c d e f g i j : A} : XW (.c (.g [a, b, c, d, e, f, g, nA, i, j])) (.c (.g [a, b, c, d, e, f, g, .t (.sl .un 8 []), i, j])) :=
  XW.g (xr4 (xr2 (xr1 (.cons XW.nilU (.cons XW.reA (.cons XW.reA .nil))))))
section
variable {s : Sp} {e : Ex}
theorem zx_args : (zxE e).args = e.args.map zxE := by rw [zxE_eq]
theorem bnR_fail {i : Nat} (hi : i < e.args.length) (h0 : ∀ a ∈ e.args.take i, (bnR s a).2.2 = 0) (h : (bnR s e.args[i]).2.2 ≠ 0) : bnR s e = (ex0, 0, (bnR s e.args[i]).2.2) := by
  have hl : i < (zxE e).args.length := by rw [zx_args, qA]; exact hi
  have he : (zxE e).args[i] = zxE e.args[i] := by simp [zx_args]
  have := bnd_fail (s := s) hl (fun a ha => by
    rw [zx_args, ← List.map_take] at ha
    obtain ⟨b, hb, rfl⟩ := jE.1 ha
    exact h0 b hb) (by rw [he]; exact h)
  rw [bnR, this, he]
theorem bnR_lit (h : e.op = 1) (h0 : e.args.length = 0) : (e, e.vk, (0 : Int)) = bnR s e := by
  cases e with | mk op tb nm ix vk vn vs xs =>
  obtain rfl : xs = [] := jH.1 h0
  subst h
  unfold bnR
  rw [bndE_eq, zxE, zxS]
  rfl
theorem bnR_col (h : e.op = 2) (h0 : e.args.length = 0) : bnR s e = if (colS s e).2.2 ≠ 0 then (ex0, 0, (colS s e).2.2) else (e.wI (colS s e).1, (colS s e).2.1, 0) := by
  cases e with | mk op tb nm ix vk vn vs xs =>
  obtain rfl : xs = [] := jH.1 h0
  subst h
  unfold bnR
  rw [bndE_eq, zxE, zxS]
  rfl
theorem bnR_all (h1 : ¬ e.op = 1) (h2 : ¬ e.op = 2) (h0 : ∀ a ∈ e.args, (bnR s a).2.2 = 0) : bnR s e = nodeB s (e.wZ (e.args.map fun a => (bnR s a).1)) (e.args.map fun a => (bnR s a).2.1) := by
  rw [bnR, bnd_all fun a ha => by
    rw [zx_args] at ha
    obtain ⟨b, hb, rfl⟩ := jE.1 ha
    exact h0 b hb, zxE_eq, if_neg (by omega)]
  simp only [List.map_map]; rfl
theorem bnR_gd (h1 : ¬ e.op = 1) (h2 : ¬ e.op = 2) (hg : gdX e) (h0 : ∀ a ∈ e.args, (bnR s a).2.2 = 0) : gdX (e.wZ (e.args.map fun a => (bnR s a).1)) := by
  have hF := (fmE_iff e).1 hg.fm
  have hT := (tsE_iff e).1 hg.ts
  have hR := (rgX_iff e).1 hg.rg
  have k : ∀ a ∈ e.args, gdX (bnR s a).1 := fun a ha => (hg.arg ha).zx.bnd (h0 a ha)
  have m : ∀ a ∈ e.args, szE (bnR s a).1 = szE a ∧ dpE (bnR s a).1 = dpE a := fun a ha => by
    have := bnd_m (s := s) (zxE a) (h0 a ha)
    exact ⟨by rw [this.1, zx_sz], by rw [this.2.1, zx_dp]⟩
  refine ⟨(fmE_iff _).2 ⟨by show arN e.op (e.args.map _).length; rw [qA]; exact hF.1, fun a ha => ?_⟩, (tsE_iff _).2 ⟨hT.1, fun a ha => ?_⟩, (rgX_iff _).2 ⟨⟨hR.1.1, hR.1.2.1, by show (e.args.map _).length ≤ _; rw [qA]; exact hR.1.2.2⟩, fun a ha => ?_⟩, ?_, ?_⟩
  · obtain ⟨b, hb, rfl⟩ := jE.1 ha; exact (k b hb).fm
  · obtain ⟨b, hb, rfl⟩ := jE.1 ha; exact (k b hb).ts
  · obtain ⟨b, hb, rfl⟩ := jE.1 ha; exact (k b hb).rg
  · rw [szE_eq]; show 1 + szS (e.args.map fun a => (bnR s a).1) ≤ _; rw [szS_map e.args fun a ha => (m a ha).1, ← szE_eq]; exact hg.sz
  · rw [dpE_eq]; show 1 + dpS (e.args.map fun a => (bnR s a).1) ≤ _; rw [dpS_map e.args fun a ha => (m a ha).2, ← dpE_eq]; exact hg.dp
end
theorem ru_2 {e : Ex} {ks : List Int} : (ruI e ks).2 = (opI e ks).2 := by unfold ruI; split <;> rfl
theorem ru_1 {e : Ex} {ks : List Int} (h : ¬ (ruI e ks).2 ≠ 0) : (ruI e ks).1 = (opI e ks).1 := by rw [ru_2] at h; unfold ruI; rw [if_neg h]
abbrev bz1 (s : Sp) (l : List Ex) (i : Nat) : List Ex := (l.take i).map fun a => (bnR s a).1
abbrev bz2 (s : Sp) (l : List Ex) (i : Nat) : List Int := (l.take i).map fun a => (bnR s a).2.1
theorem bz1_put {s : Sp} {l : List Ex} {i : Nat} {zs : List (List E.T)} (hi : i < l.length) (h : zs = (bz1 s l i).map exT') : zs ++ [exL (bnR s l[i]).1] = (bz1 s l (i + 1)).map exT' := by
  rw [h, bz1, bz1, qJ hi, qK, qK, qX, qX, exT_eq]
theorem bz2_put {s : Sp} {l : List Ex} {i : Nat} {zs : List (List E.T)} (hi : i < l.length) (h : zs = (bz2 s l i).map i64T) : zs ++ [i64T (bnR s l[i]).2.1] = (bz2 s l (i + 1)).map i64T := by
  rw [h, bz2, bz2, qJ hi, qK, qK, qX, qX]
theorem bz1_len {s : Sp} {l : List Ex} {i : Nat} {zs : List (List E.T)} (hi : i ≤ l.length) (h : zs = (bz1 s l i).map exT') : zs.length = i := by rw [h, qA, qA, List.length_take]; omega
theorem bz2_len {s : Sp} {l : List Ex} {i : Nat} {zs : List (List E.T)} (hi : i ≤ l.length) (h : zs = (bz2 s l i).map i64T) : zs.length = i := by rw [h, qA, qA, List.length_take]; omega
abbrev zTy (x : Ex × Int × Int) : List A := [.t (.v (.int .i64 x.1.op)), .t (.v (.string x.1.tb)), .t (.v (.string x.1.nm)), .t (.v (.int .i64 x.1.ix)), .t (.v (.int .i64 x.1.vk)), .t (.v (.int .i64 x.1.vn)), .t (.v (.string x.1.vs)), .t (.sl .un 8 (x.1.args.map exT')), .t (.v (.int .i64 x.2.1)), .t (.v (.int .i64 x.2.2))]
theorem rexpr_of (l : List Sr) (z : Nz) (e : Ex) (hs : okSp (spR l)) (hg : gdX e) (ih : ∀ a ∈ e.args, Pu 52 [exC a, srsC z l] (.c (tyC (bnR (spR l) a)))) : Pu 52 [exC e, srsC z l] (.c (tyC (bnR (spR l) e))) := by
  have hn := (fmE_iff e).1 hg.fm
  have hl2 : e.args.length ≤ 2 := by have := hn.1; omega
  intro H
  refine Spec.enter Tryz.func52 rfl ?_
  refine AW.wk (wK 87 (l := [(0, .c (exC e)), (1, .c (srsC z l))]) (ll := []) (H := (H))) ?_
  refine D2 ?_
  refine Z3 (AW.seq (sR (Z1 fl37_0 ?_)))
  refine eL165 ?_
  refine cD ?_ ?_ <;> intro h16
  ·
    refine D6 ?_
    refine Z3 (AW.ret ?_)
    exact f1 (.cellL rfl rfl ty119 rfl rfl .nil) (⟨tye (bnR_lit h16 (by have := hn.1; omega)), rfl⟩)
  ·
    refine eL187 ?_
    refine cD ?_ ?_ <;> intro h24
    ·
      refine D2 ?_
      refine Z16 fn99 (rcol_any l z e hs) ?_
      refine G7 ?_
      refine eL153 ?_
      refine cD ?_ ?_ <;> intro h33
      ·
        refine D2 ?_
        refine SeqK.xw 35 rfl XW.tyN ?_
        refine eL268 ?_
        exact f1 (.cellL rfl rfl ty119 rfl rfl .nil) (⟨tye (a := (ex0, 0, _)) (by rw [bnR_col h24 (by have := hn.1; omega), if_pos h33]), rfl⟩)
      ·
        refine eL219 ?_
        refine eL255 ?_
        refine G3 ?_
        refine Z3 (AW.ret ?_)
        exact f1 (.cellL rfl rfl ty119 rfl rfl .nil) (⟨tye (a := (e.wI (colS (spR l) e).1, _, 0)) (by rw [bnR_col h24 (by have := hn.1; omega), if_neg h33]), rfl⟩)
    ·
      refine eL213 ?_
      refine D1 ?_
      refine eL161 ?_
      refine AW.block (AW.tip 9 3 1 rfl (fun k1 hk1 => ?_))
      refine AW.tip 8 37 8 rfl (fun k0 hk0 => ?_)
      refine AW.loop (fun (i : Nat) s => ∃ (kt ku : Nat) (zs us : List (List E.T)), (i ≤ e.args.length ∧ H ku = none ∧ upd H ku (some (.tip 3 1 us.length)) kt = none ∧ zs = (bz1 (spR l) e.args i).map exT' ∧ us = (bz2 (spR l) e.args i).map i64T ∧ ∀ a ∈ e.args.take i, (bnR (spR l) a).2.2 = 0) ∧ s = ⟨87, sp [(1, .c (srsC z l)), (2, .lp 2 0), (4, .lp 4 0), (8, .c (.a (.ts kt .ne 8 zs))), (9, .c (.a (.ts ku .ne 1 us))), (10, nX i)], lv [(2, .box (zEx e)), (4, .box zL5)], (upd (upd H ku (some (.tip 3 1 us.length))) kt (some (.tip 37 8 zs.length)))⟩) (fun i => e.args.length - i) 0 ⟨_, by exact wK 87, k0, k1, [], [], ⟨qZ _, hk1, hk0, rfl, rfl, by simp⟩, rfl⟩ (fun i s hs => ?_)
      obtain ⟨kt, ku, zs, us, ⟨hi0, hku, hkt2, hzs, hus, h0⟩, rfl⟩ := hs
      refine eL150 ?_
      refine cD ?_ ?_ <;> intro h45
      ·
        have hi := oI h45
        have hzl := bz1_len (by omega) hzs
        have hul := bz2_len (by omega) hus
        refine eL152 ?_
        refine eL304 ?_
        refine G2 ?_
        refine Z16 fn52 (ih _ (qC hi)) ?_
        refine eL241 ?_
        refine eL165 ?_
        refine cD ?_ ?_ <;> intro h57
        ·
          refine D3 ?_
          refine SeqK.xw 60 rfl XW.tyN ?_
          refine eL268 ?_
          exact fin_x (x := .c _) (H) (.cellL rfl rfl ty119 rfl rfl .nil) rfl ((fun j o h => upd_sub (f := upd H ku _) hkt2 j o (upd_sub hku j o h))) (⟨tye (a := (ex0, 0, _)) (bnR_fail hi h0 h57).symm, rfl⟩)
        ·
          have he0 : (bnR (spR l) e.args[i]).2.2 = 0 := qY.1 h57
          refine AW.skip (D4 ?_)
          refine SeqK.app1 rfl (hkt2) rfl el27 rfl rfl (by simp [hzl]; omega) rfl rfl (fun k65 hk65 => ?_)
          refine sB ?_
          obtain ⟨hk65n, hk65x⟩ := upd_lt hk65
          refine AW.wk (Wk.keep 87 [(1, .c (srsC z l)), (2, .lp 2 0), (4, .lp 4 0), (8, .c (.a (.ts k65 .ne 8 (zs ++ [exL (bnR (spR l) e.args[i]).1])))), (9, .c (.a (.ts ku .ne 1 us))), (10, nX i), (11, .lp 11 0)] [(2, .box (zEx e)), (4, .box zL5), (11, .box (zTy (bnR (spR l) e.args[i])))] (upd (upd H k65 (some (.tip 37 8 (zs ++ [exL (bnR (spR l) e.args[i]).1]).length))) ku (some (.tip 3 1 us.length))) rfl ⟨rfl, rfl, rfl, rfl, rfl, rfl, rfl, trivial⟩ ⟨rfl, rfl, rfl, trivial⟩ (upd_sw (fun e => hk65n e.symm)) rfl) ?_
          refine B4 ?_
          refine SeqK.app1 rfl (by rw [upd_ne _ _ (fun e => hk65n e.symm)]; exact hku) rfl el43 rfl rfl (by simp [hul]; omega) rfl rfl (fun k70 hk70 => ?_)
          refine eL166 ?_
          obtain ⟨hk70n, hk70⟩ := upd_lt hk70
          exact ⟨i + 1, _, Wk.keep 87 [(1, .c (srsC z l)), (2, .lp 2 0), (4, .lp 4 0), (8, .c (.a (.ts (k65) .ne 8 (zs ++ [exL (bnR (spR l) e.args[i]).1])))), (9, .c (.a (.ts (k70) .ne 1 (us ++ [i64T (bnR (spR l) e.args[i]).2.1])))), (10, iX .i64 (((i + 1) : Nat) : Int))] [(2, .box (zEx e)), (4, .box zL5)] ((upd (upd H (k70) (some (.tip 3 1 (us ++ [i64T (bnR (spR l) e.args[i]).2.1]).length))) (k65) (some (.tip 37 8 (zs ++ [exL (bnR (spR l) e.args[i]).1]).length)))) rfl ⟨rfl, rfl, rfl, rfl, rfl, rfl, trivial⟩ ⟨rfl, rfl, trivial⟩ (upd_sw hk70n.symm) rfl, by omega, k65, k70, zs ++ [exL (bnR (spR l) e.args[i]).1], us ++ [i64T (bnR (spR l) e.args[i]).2.1], ⟨hi, hk70, by rw [upd_ne _ _ hk70n.symm]; exact hk65x, bz1_put hi hzs, bz2_put hi hus, fun a ha => by
            rw [qJ hi] at ha
            rcases jC.1 ha with ha | ha
            · exact h0 a ha
            · rw [jF.1 ha]; exact he0⟩, rfl⟩
      ·
        refine eL147 ?_
        refine eL235 ?_
        obtain rfl := oE h45 hi0
        rw [bz1, qT] at hzs
        rw [bz2, qT] at hus
        rw [qT] at h0
        refine AW.xw 8 rfl (XW.ts.trans (XW.es hzs)) ?_
        refine AW.xw 9 rfl (XW.ts.trans (XW.es hus)) ?_
        have hB := bnR_all h16 h24 h0
        have hG := bnR_gd h16 h24 hg h0
        have hev : allI (e.args.map fun a => (bnR (spR l) a).2.1) 1 = true → ((e.wZ (e.args.map fun a => (bnR (spR l) a).1))).op = 7 ∨ ((e.wZ (e.args.map fun a => (bnR (spR l) a).1))).op = 8 → ∀ h : 1 < ((e.wZ (e.args.map fun a => (bnR (spR l) a).1))).args.length, cnB icB ((e.wZ (e.args.map fun a => (bnR (spR l) a).1))).args[1] = false → Ev [] ((e.wZ (e.args.map fun a => (bnR (spR l) a).1))).args[1] := fun hk _ h hc => by
          have h' : 1 < e.args.length := by have : 1 < ((e.args.map fun a => (bnR (spR l) a).1)).length := h; rwa [qA] at this
          have e1 : ((e.wZ (e.args.map fun a => (bnR (spR l) a).1))).args[1] = (bnR (spR l) e.args[1]).1 := by show ((e.args.map fun a => (bnR (spR l) a).1))[1] = _; rw [qV]
          rw [e1] at hc ⊢
          have hm := qC h'
          have k1 := all_fit hk (bnR (spR l) e.args[1]).2.1 (jE.2 ⟨_, hm, rfl⟩)
          have kf := (hg.arg hm).zx.fm
          have k2 : (bnR (spR l) e.args[1]).2.1 ≠ 3 := by omega
          exact sf_ev0 (bnd_sf _ kf (h0 _ hm) k2) (cix_const _ _ hc) (bnd_fm _ kf (h0 _ hm))
        refine B3 ?_
        refine Z3 (sR (Z1 fl37_3 ?_))
        refine G1 ?_
        refine eL255 ?_
        refine sM ?_
        refine sQ (q_call _ rfl fn100 rfl (rule_any (e.wZ (e.args.map fun a => (bnR (spR l) a).1)) (e.args.map fun a => (bnR (spR l) a).2.1) hG.fm (by rw [qA, qA]) ⟨h16, h24⟩ (fun a ha => ((tsE_iff _).1 hG.ts).2 a ha) hev (fun _ => rof_any _ (okE_of _ hG.rg hG.sz hG.dp))) rfl) ?_
        refine G5 ?_
        refine eL153 ?_
        refine cD ?_ ?_ <;> intro h81
        ·
          refine D2 ?_
          refine SeqK.xw 83 rfl XW.tyN ?_
          refine eL268 ?_
          exact fin_x (x := .c _) (H) (.cellL rfl rfl ty119 rfl rfl .nil) rfl ((fun j o h => upd_sub (f := upd H ku _) hkt2 j o (upd_sub hku j o h))) (⟨tye (a := (ex0, 0, _)) (by rw [hB, nodeB, if_neg h16, if_neg h24, if_pos (ru_2 ▸ h81)]; exact congrArg (fun k => (ex0, (0 : Int), k)) ru_2), rfl⟩)
        ·
          refine AW.skip (D4 ?_)
          refine Z3 (AW.ret ?_)
          exact fin_x (x := .c _) (H) (.cellL rfl rfl ty119 rfl rfl .nil) rfl ((fun j o h => upd_sub (f := upd H ku _) hkt2 j o (upd_sub hku j o h))) (⟨tye (a := ((e.wZ (e.args.map fun a => (bnR (spR l) a).1)), _, 0)) (by rw [hB, nodeB, if_neg h16, if_neg h24, if_neg (ru_2 ▸ h81)]; exact congrArg (fun k => ((e.wZ (e.args.map fun a => (bnR (spR l) a).1)), k, (0 : Int))) (ru_1 h81)), rfl⟩)
theorem rexpr_any {l : List Sr} {z : Nz} (hs : okSp (spR l)) (e : Ex) : gdX e → Pu 52 [exC e, srsC z l] (.c (tyC (bnR (spR l) e))) := by
  induction e using Ex.ind with
  | h e ih => exact fun hg => rexpr_of l z e hs hg fun a ha => ih a ha (hg.arg ha)
theorem rcond_any (l : List Sr) (z : Nz) (e : Ex) (hs : okSp (spR l)) (hg : ¬ e.op = 0 → gdX e) : Pu 55 [exC e, srsC z l] (cnX (cndB (spR l) (zxE e))) := by
 have hz : (zxE e).op = e.op := by rw [zxE_eq]
 intro H
 refine Spec.enter Tryz.func55 rfl ?_
 refine AW.wk (wK 27 (l := [(0, .c (exC e)), (1, .c (srsC z l))]) (ll := []) (H := (H))) ?_
 refine D3 ?_
 refine eL189 ?_
 refine cD ?_ ?_ <;> intro h9
 ·
  refine D1 ?_
  refine SeqK.xw 10 rfl XW.exN ?_
  refine G2 ?_
  exact aR (f2 (.cellL rfl rfl ty37 rfl rfl (.tmp rfl .nil)) (⟨cne (a := (ex0, 0)) (by rw [cndB, if_pos (hz ▸ h9)]), rfl⟩))
 refine eL201 ?_
 refine Z16 fn52 (rexpr_any hs e (hg h9)) ?_
 refine eL241 ?_
 refine eL165 ?_
 refine cD ?_ ?_ <;> intro h16
 ·
  refine eL251 ?_
  refine eL250 ?_
  refine N4 ?_
  refine Z38 ?_
  refine AW.xwL 4 rfl (xr4 (xr2 (xr1 (.cons (XW.nilU (sz := 8)) .nil)))) ?_
  exact aR (f2 (.cellL rfl rfl ty37 rfl rfl (.tmp rfl .nil)) (⟨cne (a := (ex0, _)) (by rw [cndB, if_neg (hz ▸ h9), if_pos h16]), rfl⟩))
 refine eL198 ?_
 refine eL299 ?_
 refine eL185 ?_
 refine AW.cond _ rfl (fun h23 => ?_) (fun h23 => ?_)
 ·
  refine D1 ?_
  refine SeqK.xw 24 rfl XW.exN ?_
  refine G2 ?_
  exact aR (f2 (.cellL rfl rfl ty37 rfl rfl (.tmp rfl .nil)) (⟨cne (a := (ex0, 6)) (by rw [cndB, if_neg (hz ▸ h9), if_neg h16, if_pos (by simpa using h23)]), rfl⟩))
 refine AW.skip (D4 ?_)
 exact aR (f2 (.cellL rfl rfl ty37 rfl rfl (.tmp rfl .nil)) (⟨cne (a := ((bnR (spR l) e).1, 0)) (by rw [cndB, if_neg (hz ▸ h9), if_neg h16, if_neg (by simpa using h23)]), rfl⟩))
open Q
abbrev vrL (l : List Sr) : List Vr := l.flatMap fun x => vrsT x.t
theorem fm_take {α β : Type} {f : α → List β} {l : List α} {i : Nat} (hi : i < l.length) : (l.take (i + 1)).flatMap f = (l.take i).flatMap f ++ f l[i] := by
  rw [qJ hi, List.flatMap_append]; simp
theorem vr_ln {t : Tb} : ((vrsT t).map vrT).length = t.cols.length := by rw [qA, qA]
theorem rvl_any (l : List Sr) (z : Nz) (hl : l.length ≤ 1000) (hc : ∀ x ∈ l, x.t.cols.length ≤ 1000000) : Pu 57 [srsC z l] (.c (vsC .un (vrL l))) := by
 intro H
 refine Spec.enter Tryz.func57 rfl ?_
 refine AW.wk (wK 20 (l := [(0, .c (srsC z l))]) (ll := []) (H := (H))) ?_
 refine D1 ?_
 refine D1 ?_
 refine eL161 ?_
 refine AW.block (AW.tip 3 88 5 rfl (fun k0 hk0 => ?_))
 refine AW.loop (fun (i : Nat) s => ∃ (kt : Nat) (zs : List (List E.T)), (i ≤ l.length ∧ H kt = none ∧ zs = (vrL (l.take i)).map vrT ∧ zs.length ≤ i * 1000000) ∧ s = ⟨20, sp [(0, .c (srsC z l)), (3, .c (.a (.ts kt .ne 5 zs))), (4, nX i)], lv [], upd H kt (some (.tip 88 5 zs.length))⟩) (fun i => l.length - i) 0 ⟨_, by exact wK 20, k0, [], ⟨qZ _, hk0, rfl, qZ _⟩, rfl⟩ (fun i s hs => ?_)
 obtain ⟨kt, zs, ⟨hi0, hkt, hzs, hzl⟩, rfl⟩ := hs
 refine eL155 ?_
 refine cD ?_ ?_ <;> intro h8
 ·
  have hi := oI h8
  have hcx := hc _ (qC hi)
  have hvx := vr_ln (t := l[i].t)
  refine eL258 ?_
  refine Z10 sl113 (idx_map (f := srT) hi) ?_
  refine G2 ?_
  refine sQ (q_call _ rfl fn101 rfl (rvariables_any _ (by omega)) rfl) ?_
  refine SeqK.app1 rfl (hkt) rfl el44 rfl rfl (by rw [hvx]; omega) rfl rfl (fun k18 hk18 => ?_)
  refine eL166 ?_
  exact ⟨i + 1, _, by exact wK 20, by omega, k18, zs ++ (vrsT l[i].t).map vrT, ⟨hi, hk18, by rw [hzs, vrL, vrL, fm_take hi, qK], by rw [qG, hvx]; omega⟩, rfl⟩
 refine eL147 ?_
 refine eL235 ?_
 obtain rfl := oE h8 hi0
 exact cL60
def gpR (e : Ex) (l : List Ex) : Bool := l.any (fun g : Ex => decide (e.op = 2 ∧ g.ix = e.ix))
theorem gp_t {e : Ex} {l : List Ex} {i : Nat} (hi : i < l.length) (h : e.op = 2) (h2 : l[i].ix = e.ix) : true = gpR e l := by
  unfold gpR; symm; exact List.any_eq_true.2 ⟨_, qC hi, jI ⟨h, h2⟩⟩
theorem gp_f {e : Ex} {l : List Ex} (h : ∀ j (h : j < l.length), ¬ (e.op = 2 ∧ l[j].ix = e.ix)) : false = gpR e l := by
  unfold gpR; symm; exact List.any_eq_false.2 fun a ha => by
    obtain ⟨j, hj, rfl⟩ := qN.1 ha
    simp only [decide_eq_true_eq]; exact h j hj
theorem rgrouped_any (e : Ex) (l : List Ex) (z : Nz) (hl : l.length ≤ 1000000000) : Pu 58 [exC e, exsC z l] (.c (bC (gpR e l))) := by
 intro H
 refine Spec.enter Tryz.func58 rfl ?_
 refine AW.wk (wK 25 (l := [(0, .c (exC e)), (1, .c (exsC z l))]) (ll := []) (H := (H))) ?_
 refine D2 ?_
 refine eL161 ?_
 refine AW.block (AW.loop (fun (i : Nat) s => (i ≤ l.length ∧ ∀ j (h : j < l.length), j < i → ¬ (e.op = 2 ∧ l[j].ix = e.ix)) ∧ s = ⟨25, sp [(1, .c (exsC z l)), (2, .lp 2 0), (4, .c (bC false)), (5, nX i)], lv [(2, .box (zEx e))], H⟩) (fun i => l.length - i) 0 ⟨_, by exact wK 25, ⟨qZ _, fun j h hj => absurd hj (by omega)⟩, rfl⟩ (fun i s hs => ?_))
 obtain ⟨⟨hi0, hU⟩, rfl⟩ := hs
 refine eL155 ?_
 refine cD ?_ ?_ <;> intro h9
 rotate_left
 ·
  refine eL147 ?_
  refine D1 ?_
  exact aR (fE (e := bCe (gp_f fun j h => hU j h (by (try rw [qA] at h9); omega))))
 have hi := oI h9
 refine eL167 ?_
 refine N2 ?_
 refine lQ (q_eql rfl rfl rfl) ?_
 refine LexK.qD (q_mvC rfl rfl) rfl rfl rfl (fun g15 => ?_) (fun g15 => ?_)
 ·
  refine eL243 ?_
  refine eL243 ?_
  refine lO (q_index _ rfl sl27 rfl rfl (by omega) (idx_ex hi)) ?_
  refine lO (q_fieldP _ rfl fl37_3 rfl rfl) ?_
  refine lO (q_load (.a _) rfl ty3 rfl rfl rfl) ?_
  refine N2 ?_
  refine lO (q_eql rfl rfl rfl) ?_
  refine eL210 ?_
  refine Z38 ?_
  refine cD ?_ ?_ <;> intro h24
  ·
   refine D1 ?_
   exact aR (fE (e := bCe (gp_t hi (by assumption) (by assumption))))
  exact cL108
 iterate 8 refine LexK.off rfl rfl rfl rfl rfl rfl ?_
 refine eL220 ?_
 refine AW.condF rfl ?_
 exact cL108
abbrev bnC (b : Bd) : C := .g [.t (.v (.int .i64 b.st.k)), .t (.v (.string b.st.tb)), .t (.sl .un 6 (b.st.cr.cols.map coT)), .t (.sl .un 1 (b.st.cr.keys.map sLT)), .t (.sl .un 3 (b.st.cr.fks.map rfT)), .t (.sl .un 8 (b.st.cr.chks.map exT')), .t (.sl .un 1 (b.st.vals.map exLT)), .t (.sl .un 10 (b.st.sets.map asT)), .t (.sl .un 9 (b.st.its.map itT)), .t (.sl .un 2 (b.st.frm.map frT)), .t (.v (.int .i64 b.st.wh.op)), .t (.v (.string b.st.wh.tb)), .t (.v (.string b.st.wh.nm)), .t (.v (.int .i64 b.st.wh.ix)), .t (.v (.int .i64 b.st.wh.vk)), .t (.v (.int .i64 b.st.wh.vn)), .t (.v (.string b.st.wh.vs)), .t (.sl .un 8 (b.st.wh.args.map exT')), .t (.sl .un 8 (b.st.grp.map exT')), .t (.sl .un 2 (b.st.ord.map odT)), .t (.v (.int .i64 b.st.lim)), .t (.v (.string b.st.nm)), .t (.v (.int .i64 b.tab)), .t (.sl .un 1 (b.tabs.map i64T)), .t (.sl .un 5 (b.vars.map vrT)), nA]
abbrev onX (b : Bd) (l : List Sr) (e : Int) : X := .tup [bnC b, srsC .un l, iC e]
structure oneG (d : List Tb) (st : St) (b : Bd) (l : List Sr) (n : Int) (t : Tb) : Prop where
  lo : 0 ≤ n
  hi : n.toNat < d.length
  tb : okTb t
  eb : b = ⟨st, n, [n], vrL [⟨t.nm, t, 0⟩], []⟩
  el : l = [⟨t.nm, t, 0⟩]
theorem rone_any (d : List Tb) (z : Nz) (st : St) (hd : okDb d) (H : Heap) : E.Spec Tryz.prog 51 [scC z d, stC st] H fun x H' => ∃ b l e, x = onX b l e ∧ (e = 0 → ∃ n t, oneG d st b l n t) ∧ H' = H := by
 refine Spec.enter Tryz.func51 rfl ?_
 refine AW.wk (wK 39 (l := [(0, .c (scC z d)), (1, .c (stC st))]) (ll := []) (H := (H))) ?_
 refine D4 ?_
 refine D3 ?_
 refine sQ (q_call _ rfl fn98 rfl (rfind_any d z st.tb (by have := hd.len; omega)) rfl) ?_
 refine G5 ?_
 refine eL153 ?_
 refine AW.cond _ rfl (fun h18 => ?_) (fun h18 => ?_)
 ·
  refine D4 ?_
  refine AW.xwL 4 rfl (xr2 (.cons (XW.nilU (sz := 6)) (.cons (XW.nilU (sz := 1)) (.cons (XW.nilU (sz := 3)) (.cons (XW.nilU (sz := 8)) (.cons (XW.nilU (sz := 1)) (.cons (XW.nilU (sz := 10)) (.cons (XW.nilU (sz := 9)) (.cons (XW.nilU (sz := 2)) (xr4 (xr2 (xr1 (.cons (XW.nilU (sz := 8)) (.cons (XW.nilU (sz := 8)) (.cons (XW.nilU (sz := 2)) (xr2 (xr1 (.cons (XW.nilU (sz := 1)) (.cons (XW.nilU (sz := 5)) (.cons XW.reA .nil)))))))))))))))))))) ?_
  refine AW.xw 5 rfl (XW.nilU (sz := 7)) ?_
  exact aR (fin_x (x := .tup [_, _, _]) (H) (.cellL rfl rfl ty47 rfl rfl (.tmp rfl (.tmp rfl .nil))) rfl (fun _ _ h => h) (⟨bd0, [], 4, rfl, fun k => absurd k (by decide), rfl⟩))
 have hn0 : 0 ≤ fndI d st.tb := jK (bnf h18)
 have hn : ¬ fndI d st.tb < 0 := by omega
 have hnm : max (fndI d st.tb) 0 = fndI d st.tb := by omega
 rw [hnm]
 have hnl := fndI_lt (d := d) (nm := st.tb)
 have hnt : (fndI d st.tb).toNat < d.length := by omega
 have hga : (tbA d (fndI d st.tb)) = d[(fndI d st.tb).toNat] := getD_at hnt
 have hok := hd.tb _ (qC hnt)
 rw [← hga] at hok
 have hidx : (d.map tbT)[(fndI d st.tb).toNat]? = some (tbT (tbA d (fndI d st.tb))) := by rw [qR, qF hnt, ← hga]; rfl
 refine eL252 ?_
 refine N2 ?_
 refine Z26 sl23 (hidx) ?_
 refine N4 ?_
 refine Z26 sl23 (hidx) ?_
 refine N1 ?_
 refine lQ (q_build2 (zs := [_, _, _, _, _, _, _]) (r := [_, _, _, _, _, _, _]) [(0, 1), (1, 5), (6, 1)] _ rfl ze117 rfl bp117 rfl rfl rfl rfl) ?_
 refine lQ (q_buildSlice _ rfl el113 rfl (by decide) rfl) ?_
 refine eL290 ?_
 refine eL251 ?_
 refine N3 ?_
 refine lQ (q_buildSlice _ rfl el43 rfl (by decide) rfl) ?_
 refine Z23 ?_
 refine lQ (q_call _ rfl fn57 rfl (rvl_any [⟨(tbA d (fndI d st.tb)).nm, (tbA d (fndI d st.tb)), 0⟩] _ (by simp) (fun x hx => by rw [jF.1 hx]; exact hok.cl)) rfl) ?_
 refine eL151 ?_
 refine N4 ?_
 refine Z38 ?_
 refine AW.xwL 4 rfl (xr16 (xr4 (xr2 (xr1 (.cons XW.un (.cons XW.reA (.cons XW.reA .nil))))))) ?_
 refine AW.xw 5 rfl XW.un ?_
 exact aR (fin_x (x := .tup [_, _, _]) (H) (.cellL rfl rfl ty47 rfl rfl (.tmp rfl (.tmp rfl .nil))) rfl (fun _ _ h => h) (⟨⟨st, fndI d st.tb, [fndI d st.tb], vrL [⟨(tbA d (fndI d st.tb)).nm, (tbA d (fndI d st.tb)), 0⟩], []⟩, [⟨(tbA d (fndI d st.tb)).nm, (tbA d (fndI d st.tb)), 0⟩], 0, rfl, fun _ => ⟨_, (tbA d (fndI d st.tb)), hn0, hnt, hok, rfl, rfl⟩, rfl⟩))
open Q
def ghE (e : Ex) : Prop := Q.okE e ∧ ndE e ≤ 400
structure itH (x : It) : Prop where
  ex : ghE x.ex
  lo : 0 ≤ x.ag
  hi : x.ag ≤ 5
structure hdG (d : List Tb) (st : St) (b : Bd) : Prop where
  k : b.st.k = st.k
  tl : b.tabs.length ≤ 3
  tg : ∀ n ∈ b.tabs, 0 ≤ n ∧ n.toNat < d.length
  il : b.st.its.length ≤ 1000000
  ig : ∀ x ∈ b.st.its, itH x
theorem hdG_one {d : List Tb} {st : St} {b : Bd} {n : Int} (hk : b.st.k = st.k) (ht : b.tabs = [n]) (hi : b.st.its = st.its) (h0 : 0 ≤ n) (h1 : n.toNat < d.length) (hx : (∀ x ∈ st.its, itH x) ∧ st.its.length ≤ 1000000) : hdG d st b :=
  ⟨hk, by rw [ht]; show 1 ≤ 3; omega, fun k hk => by rw [ht] at hk; rw [jF.1 hk]; exact ⟨h0, h1⟩, by rw [hi]; exact hx.2, by rw [hi]; exact hx.1⟩
structure frG (d : List Tb) (ss : List Sr) (ts : List Int) (n : Nat) (f : Int) : Prop where
  sl : ss.length = n
  tl : ts.length = n
  sg : ∀ x ∈ ss, x.t.cols.length ≤ 1000000 ∧ 0 ≤ x.f0 ∧ x.f0 ≤ 1000000000000
  tg : ∀ k ∈ ts, 0 ≤ k ∧ k.toNat < d.length
  f0 : 0 ≤ f ∧ f ≤ n * 1000000
theorem frG.nil {d : List Tb} : frG d [] [] 0 0 := ⟨rfl, rfl, fun x h => (by cases h), fun x h => (by cases h), by omega⟩
theorem frG.put {d : List Tb} {ss : List Sr} {ts : List Int} {n : Nat} {f k : Int} {nm : ByteArray} (h : frG d ss ts n f) (hn : n ≤ 1000) (h0 : 0 ≤ k) (h1 : k.toNat < d.length) (hc : (tbA d k).cols.length ≤ 1000000) : frG d (ss ++ [⟨nm, tbA d k, f⟩]) (ts ++ [k]) (n + 1) (f + (((tbA d k).cols.map coT).length : Nat)) := by
  have e := h.f0
  refine ⟨by rw [qG, h.sl]; rfl, by rw [qG, h.tl]; rfl, fun x hx => ?_, fun x hx => ?_, by rw [qA]; omega⟩
  · rcases jC.1 hx with hx | hx
    · exact h.sg x hx
    · rw [jF.1 hx]; exact ⟨hc, e.1, by show f ≤ _; omega⟩
  · rcases jC.1 hx with hx | hx
    · exact h.tg x hx
    · rw [jF.1 hx]; exact ⟨h0, h1⟩
theorem srT_put {zs : List (List E.T)} {ss : List Sr} {s : Sr} (h : zs = ss.map srT) : zs ++ [srT s] = (ss ++ [s]).map srT := by rw [h, qK]; rfl
theorem i64_put {zs : List (List E.T)} {ss : List Int} {s : Int} (h : zs = ss.map i64T) : zs ++ [i64T s] = (ss ++ [s]).map i64T := by rw [h, qK]; rfl
theorem idx_tip {zs : List (List E.T)} {ss : List Sr} {j : Nat} (hj : j < ss.length) (h : zs = ss.map srT) : zs[j]? = some (srT ss[j]) := by rw [h, qR, qF hj]; rfl
abbrev soX (ss : List Sr) (ts : List Int) (n : Int) : X := .tup [srsC .un ss, iL .un ts, iC n]
theorem rsources_any (d : List Tb) (z : Nz) (st : St) (hd : okDb d) (hfl : st.frm.length ≤ 1000000000) (H : Heap) : E.Spec Tryz.prog 56 [scC z d, stC st] H fun x H' => ∃ ss ts n, x = soX ss ts n ∧ (n = 0 → ∃ m f, m ≤ 3 ∧ frG d ss ts m f) ∧ H' = H := by
 refine Spec.enter Tryz.func56 rfl ?_
 refine AW.wk (wK 89 (l := [(0, .c (scC z d)), (1, .c (stC st))]) (ll := []) (H := (H))) ?_
 refine D4 ?_
 refine D1 ?_
 refine D1 ?_
 refine eL155 ?_
 refine cD ?_ ?_ <;> intro h18
 ·
  refine eL234 ?_
  exact aR (fin_x (x := .tup [_, _, _]) (H) (.tmp rfl (.tmp rfl (.tmp rfl .nil))) rfl (fun _ _ h => h) (⟨[], [], 3, rfl, fun k => absurd k (by decide), rfl⟩))
 have hf3 : st.frm.length ≤ 3 := by (try rw [qA] at h18); omega
 refine eL213 ?_
 refine eL161 ?_
 refine AW.block (AW.tip 8 3 1 rfl (fun k1 hk1 => ?_))
 refine AW.tip 7 117 7 rfl (fun k0 hk0 => ?_)
 refine AW.loop (fun (i : Nat) s => ∃ (kt ku : Nat) (zs us : List (List E.T)) (ss : List Sr) (ts : List Int) (f : Int), (i ≤ st.frm.length ∧ H ku = none ∧ upd H ku (some (.tip 3 1 us.length)) kt = none ∧ zs = ss.map srT ∧ us = ts.map i64T ∧ zs.length = i ∧ us.length = i ∧ frG d ss ts i f) ∧ s = ⟨89, sp [(0, .c (scC z d)), (3, .lp 3 0), (7, .c (.a (.ts kt .ne 7 zs))), (8, .c (.a (.ts ku .ne 1 us))), (9, .c (iC f)), (10, nX i)], lv [(3, .box (zSt st))], (upd (upd H ku (some (.tip 3 1 us.length))) kt (some (.tip 117 7 zs.length)))⟩) (fun i => st.frm.length - i) 0 ⟨_, by exact wK 89, k0, k1, [], [], [], [], 0, ⟨qZ _, hk1, hk0, rfl, rfl, rfl, rfl, frG.nil⟩, rfl⟩ (fun i s hs => ?_)
 obtain ⟨kt, ku, zs, us, ss, ts, f, ⟨hi0, hku, hkt2, hzs, hus, hzl, hul, hG⟩, rfl⟩ := hs
 refine eL150 ?_
 refine cD ?_ ?_ <;> intro h23
 rotate_left
 ·
  refine eL147 ?_
  refine eL235 ?_
  obtain rfl := oE h23 hi0
  refine AW.xw 7 rfl (XW.ts.trans (XW.es hzs)) ?_
  refine AW.xw 8 rfl (XW.ts.trans (XW.es hus)) ?_
  refine B5 ?_
  exact aR (fin_x (x := .tup [_, _, _]) (H) (.tmp rfl (.tmp rfl (.tmp rfl .nil))) rfl ((fun j o h => upd_sub (f := upd H ku _) hkt2 j o (upd_sub hku j o h))) (⟨ss, ts, 0, rfl, fun _ => ⟨_, f, hf3, hG⟩, rfl⟩))
 have hi := oI h23
 refine eL283 ?_
 refine eL238 ?_
 refine G2 ?_
 refine sQ (q_call _ rfl fn98 rfl (rfind_any d z st.frm[i].tb (by have := hd.len; omega)) rfl) ?_
 refine G5 ?_
 refine eL153 ?_
 refine AW.cond _ rfl (fun h38 => ?_) (fun h38 => ?_)
 ·
  refine eL234 ?_
  exact aR (fin_x (x := .tup [_, _, _]) (H) (.tmp rfl (.tmp rfl (.tmp rfl .nil))) rfl ((fun j o h => upd_sub (f := upd H ku _) hkt2 j o (upd_sub hku j o h))) (⟨[], [], 4, rfl, fun k => absurd k (by decide), rfl⟩))
 have hn0 : 0 ≤ (fndI d st.frm[i].tb) := jK (bnf h38)
 have hn : ¬ (fndI d st.frm[i].tb) < 0 := by omega
 have hnm : max (fndI d st.frm[i].tb) 0 = (fndI d st.frm[i].tb) := by omega
 rw [hnm]
 have hnl := fndI_lt (d := d) (nm := st.frm[i].tb)
 have hnt : (fndI d st.frm[i].tb).toNat < d.length := by omega
 have hga : (tbA d (fndI d st.frm[i].tb)) = d[(fndI d st.frm[i].tb).toNat] := getD_at hnt
 have hok := hd.tb _ (qC hnt)
 rw [← hga] at hok
 have hcl := hok.cl
 have hidx : (d.map tbT)[(fndI d st.frm[i].tb).toNat]? = some (tbT (tbA d (fndI d st.frm[i].tb))) := by rw [qR, qF hnt, ← hga]; rfl
 refine eL219 ?_
 refine eL238 ?_
 refine G3 ?_
 refine AW.seqM (fun s => ∃ nm : ByteArray, s = ⟨89, sp [(0, .c (scC z d)), (3, .lp 3 0), (7, .c (.a (.ts kt .ne 7 zs))), (8, .c (.a (.ts ku .ne 1 us))), (9, .c (iC f)), (10, nX i), (11, .c (iC (fndI d st.frm[i].tb))), (13, .c (sC nm))], lv [(3, .box (zSt st))], (upd (upd H ku (some (.tip 3 1 us.length))) kt (some (.tip 117 7 zs.length)))⟩) ?_ ?_
 ·
  refine D1 ?_
  refine eL200 ?_
  refine Z3 ?_
  refine cD ?_ ?_ <;> intro h46
  ·
   refine B3 ?_
   refine eL238 ?_
   refine G3 ?_
   exact ⟨_, by exact wK 89, _, rfl⟩
  refine eL257 ?_
  exact ⟨_, by exact wK 89, _, rfl⟩
 rintro s ⟨nm, rfl⟩
 refine eL161 ?_
 refine AW.block (AW.loop (fun (j : Nat) s => (j ≤ i) ∧ s = ⟨89, sp [(0, .c (scC z d)), (3, .lp 3 0), (7, .c (.a (.ts kt .ne 7 zs))), (8, .c (.a (.ts ku .ne 1 us))), (9, .c (iC f)), (10, nX i), (11, .c (iC (fndI d st.frm[i].tb))), (13, .c (sC nm)), (14, nX j)], lv [(3, .box (zSt st))], (upd (upd H ku (some (.tip 3 1 us.length))) kt (some (.tip 117 7 zs.length)))⟩) (fun j => i - j) 0 ⟨_, Wk.keep 89 [(0, .c (scC z d)), (3, .lp 3 0), (7, .c (.a (.ts kt .ne 7 zs))), (8, .c (.a (.ts ku .ne 1 us))), (9, .c (iC f)), (10, nX i), (11, .c (iC (fndI d st.frm[i].tb))), (13, .c (sC nm)), (14, iX .i64 ((((0 : Nat)) : Nat) : Int))] [(3, .box (zSt st))] ((upd (upd H ku (some (.tip 3 1 us.length))) kt (some (.tip 117 7 zs.length)))) rfl ⟨rfl, rfl, rfl, rfl, rfl, rfl, rfl, rfl, rfl, trivial⟩ ⟨rfl, trivial⟩ (fun _ _ h => h) rfl, qZ _, rfl⟩ (fun j s hs => ?_))
 obtain ⟨hj0, rfl⟩ := hs
 refine eL189 ?_
 refine cD ?_ ?_ <;> intro h55
 ·
  have hj : j < ss.length := by rw [hG.sl]; omega
  refine eL159 ?_
  refine sQ (q_indexTs _ rfl sl113 rfl rfl (by omega) (idx_tip hj hzs)) ?_
  refine G3 ?_
  refine eL200 ?_
  refine Z3 ?_
  refine cD ?_ ?_ <;> intro h64
  ·
   refine eL234 ?_
   exact aR (fin_x (x := .tup [_, _, _]) (H) (.tmp rfl (.tmp rfl (.tmp rfl .nil))) rfl ((fun j o h => upd_sub (f := upd H ku _) hkt2 j o (upd_sub hku j o h))) (⟨[], [], 5, rfl, fun k => absurd k (by decide), rfl⟩))
  refine eL173 ?_
  exact ⟨j + 1, _, by exact wK 89, by omega, (by omega), rfl⟩
 refine eL147 ?_
 refine D4 ?_
 refine Z10 sl23 (hidx) ?_
 refine G4 ?_
 refine SeqK.app1 rfl (hkt2) rfl el113 rfl rfl (by simp [hzl]; omega) rfl rfl (fun k74 hk74 => ?_)
 refine sB ?_
 refine eL235 ?_
 obtain ⟨hk74n, hk74x⟩ := upd_lt hk74
 refine AW.wk (Wk.keep 89 [(0, .c (scC z d)), (3, .lp 3 0), (7, .c (.a (.ts k74 .ne 7 (zs ++ [srT (⟨nm, (tbA d (fndI d st.frm[i].tb)), f⟩ : Sr)])))), (8, .c (.a (.ts ku .ne 1 us))), (9, .c (iC f)), (10, nX i), (11, .c (iC (fndI d st.frm[i].tb)))] [(3, .box (zSt st))] (upd (upd H k74 (some (.tip 117 7 (zs ++ [srT (⟨nm, (tbA d (fndI d st.frm[i].tb)), f⟩ : Sr)]).length))) ku (some (.tip 3 1 us.length))) rfl ⟨rfl, rfl, rfl, rfl, rfl, rfl, rfl, trivial⟩ ⟨rfl, trivial⟩ (upd_sw (fun e => hk74n e.symm)) rfl) ?_
 refine B3 ?_
 refine SeqK.app1 rfl (by rw [upd_ne _ _ (fun e => hk74n e.symm)]; exact hku) rfl el43 rfl rfl (by simp [hul]; omega) rfl rfl (fun k78 hk78 => ?_)
 refine eL166 ?_
 refine Z10 sl23 (hidx) ?_
 refine G3 ?_
 refine sQ (q_add _ rfl rfl rfl (w64 (by have := hG.f0; omega) (by have := hG.f0; (try rw [qA]); omega))) ?_
 refine eL166 ?_
 obtain ⟨hk78n, hk78⟩ := upd_lt hk78
 exact ⟨i + 1, _, by exact Wk.keep 89 _ _ _ rfl ⟨rfl, rfl, rfl, rfl, rfl, rfl, trivial⟩ ⟨rfl, trivial⟩ (upd_sw hk78n.symm) rfl, by omega, k74, k78, zs ++ [srT (⟨nm, (tbA d (fndI d st.frm[i].tb)), f⟩ : Sr)], us ++ [i64T (fndI d st.frm[i].tb)], ss ++ [(⟨nm, (tbA d (fndI d st.frm[i].tb)), f⟩ : Sr)], ts ++ [(fndI d st.frm[i].tb)], (f + (((tbA d (fndI d st.frm[i].tb)).cols.map coT).length : Nat)), ⟨hi, hk78, by rw [upd_ne _ _ hk78n.symm]; exact hk74x, srT_put hzs, i64_put hus, by simp [hzl], by simp [hul], hG.put (by omega) hn0 hnt hcl⟩, rfl⟩
open Q
theorem okSpN : okSp (spR []) := okSp0
theorem bnd_cix0 (e : Ex) : (bndE (spR []) e).2.2 = 0 → cixE 0 (bndE (spR []) e).1 := by
  induction e using Ex.ind with
  | h e ih =>
    intro h
    have B := bnd_of h
    refine (cixE_iff 0 _).2 ⟨fun k => ?_, fun a ha => ?_⟩
    · have := B.col (B.op ▸ k)
      rw [colS_n (by simp)] at this
      have h2 : (4 : Int) = 0 := congrArg (fun q : Int × Int × Int => q.2.2) this
      omega
    · rw [B.args] at ha
      obtain ⟨b, hb, rfl⟩ := jE.1 ha
      exact ih b hb (B.ok b hb)
theorem rinsert_any (d : List Tb) (z : Nz) (st : St) (hd : okDb d) (hst : okCh st) (hx : (∀ x ∈ st.its, itH x) ∧ st.its.length ≤ 1000000) (H : Heap) : E.Spec Tryz.prog 23 [scC z d, stC st] H fun x H' => ∃ b e, x = bdX b e ∧ (e = 0 → hdG d st b) ∧ H' = H := by
 refine Spec.enter Tryz.func23 rfl ?_
 refine AW.wk (wK 109 (l := [(0, .c (scC z d)), (1, .c (stC st))]) (ll := []) (H := (H))) ?_
 refine D3 ?_
 refine D2 ?_
 refine SeqK.callE rfl rfl rfl rfl fn51 rfl (rone_any d z st hd _) (fun _ _ h => by obtain ⟨_, _, _, h, _⟩ := h; rw [h]; rfl) (fun x18 H18 q18 => ?_)
 obtain ⟨b, l, e0, rfl, hb, e18⟩ := q18
 replace e18 := e18.symm
 subst e18
 refine G8 ?_
 refine eL153 ?_
 refine cD ?_ ?_ <;> intro h23
 ·
  refine D4 ?_
  exact cL4
 obtain ⟨n, t, hn0, hnt, hok, rfl, rfl⟩ := hb (qY.1 h23)
 have hcl := hok.cl
 have hvl := hst.vl
 refine eL213 ?_
 refine eL301 ?_
 refine AW.block (AW.tipL 6 25 55 1 rfl rfl (fun k1 hk1 => ?_))
 refine AW.tipL 6 6 27 1 rfl rfl (fun k0 hk0 => ?_)
 refine AW.loop (fun (i : Nat) s => ∃ (kt ku : Nat) (zs us : List (List E.T)) (a : List (List Ex)) (b : List (List RV)), (i ≤ st.vals.length ∧ H ku = none ∧ upd H ku (some (.tip 55 1 us.length)) kt = none ∧ zs = a.map exLT ∧ us = b.map rowT ∧ zs.length = i ∧ us.length = i) ∧ s = ⟨109, sp [(3, .lp 3 0), (4, .lp 4 0), (5, .c (iC 0)), (6, .lp 6 0), (9, .lp 9 0), (10, nX i)], lv [(3, .box (zSt st)), (4, .box zL0), (6, .box (zQ st (.ts kt .ne 1 zs) (cS st) (cI st) st.wh (cG st) n (.t (.sl .un 1 ([n].map i64T))) (.t (.sl .un 5 ((vrL [⟨t.nm, t, 0⟩]).map vrT))) (.ts ku .ne 1 us))), (9, .box (zTb t))], (upd (upd H ku (some (.tip 55 1 us.length))) kt (some (.tip 27 1 zs.length)))⟩) (fun i => st.vals.length - i) 0 ⟨_, by exact wK 109, k0, k1, [], [], [], [], ⟨qZ _, hk1, hk0, rfl, rfl, rfl, rfl⟩, rfl⟩ (fun i s hs => ?_)
 obtain ⟨kt, ku, zs, us, a, b, ⟨hi0, hku, hkt, hzs, hus, hzl, hul⟩, rfl⟩ := hs
 refine eL150 ?_
 refine cD ?_ ?_ <;> intro h36
 rotate_left
 ·
  refine eL147 ?_
  refine AW.seq (AW.xwL 6 rfl (xr4 (xr2 (.cons (XW.ts.trans (XW.es hzs)) (xr16 (xr2 (.cons (XW.ts.trans (XW.es hus)) .nil)))))) ?_)
  refine B3 ?_
  exact aR (fin_x (x := .tup [_, _]) (H) (.cellL rfl rfl ty47 rfl rfl (.tmp rfl .nil)) rfl ((fun j o h => upd_sub (f := upd H ku _) hkt j o (upd_sub hku j o h))) (⟨⟨⟨st.k, st.tb, st.cr, a, st.sets, st.its, st.frm, st.wh, st.grp, st.ord, st.lim, st.nm⟩, n, [n], vrL [⟨t.nm, t, 0⟩], b⟩, 0, rfl, fun _ => hdG_one rfl rfl rfl hn0 hnt hx, rfl⟩))
 have hi := oI h36
 have hgu := hst.vg _ (qC hi)
 refine eL291 ?_
 refine N3 ?_
 refine Z26 sl30 (idx_map (f := exLT) hi) ?_
 refine N1 ?_
 refine lQ (q_len rfl un27 rfl) ?_
 refine N2 ?_
 refine lQ (q_len rfl un24 rfl) ?_
 refine eL266 ?_
 refine cD ?_ ?_ <;> intro h48
 ·
  refine D3 ?_
  refine eL179 ?_
  exact aR (fin_x (x := .tup [_, _]) (H) (.cellL rfl rfl ty47 rfl rfl (.tmp rfl .nil)) rfl ((fun j o h => upd_sub (f := upd H ku _) hkt j o (upd_sub hku j o h))) (⟨bd0, _, rfl, fun k => absurd k (by first | decide | assumption), rfl⟩))
 have hlu : st.vals[i].length = t.cols.length := by (try simp only [qA] at *); omega
 refine eL213 ?_
 refine D1 ?_
 refine eL161 ?_
 refine AW.block (AW.tip 12 35 3 rfl (fun k3 hk3 => ?_))
 refine AW.tip 11 37 8 rfl (fun k2 hk2 => ?_)
 refine AW.loop (fun (j : Nat) s => ∃ (kv kw : Nat) (xs ys : List (List E.T)) (es : List Ex) (vs : List RV), (j ≤ t.cols.length ∧ (upd (upd H ku (some (.tip 55 1 us.length))) kt (some (.tip 27 1 zs.length))) kw = none ∧ upd (upd (upd H ku (some (.tip 55 1 us.length))) kt (some (.tip 27 1 zs.length))) kw (some (.tip 35 3 ys.length)) kv = none ∧ xs = es.map exT' ∧ ys = vs.map rvT ∧ xs.length = j ∧ ys.length = j) ∧ s = ⟨109, sp [(3, .lp 3 0), (4, .lp 4 0), (5, .c (iC 0)), (6, .lp 6 0), (9, .lp 9 0), (10, nX i), (11, .c (.a (.ts kv .ne 8 xs))), (12, .c (.a (.ts kw .ne 3 ys))), (13, nX j)], lv [(3, .box (zSt st)), (4, .box zL0), (6, .box (zQ st (.ts kt .ne 1 zs) (cS st) (cI st) st.wh (cG st) n (.t (.sl .un 1 ([n].map i64T))) (.t (.sl .un 5 ((vrL [⟨t.nm, t, 0⟩]).map vrT))) (.ts ku .ne 1 us))), (9, .box (zTb t))], (upd (upd (upd (upd H ku (some (.tip 55 1 us.length))) kt (some (.tip 27 1 zs.length))) kw (some (.tip 35 3 ys.length))) kv (some (.tip 37 8 xs.length)))⟩) (fun j => t.cols.length - j) 0 ⟨_, by exact wK 109, k2, k3, [], [], [], [], ⟨qZ _, hk3, hk2, rfl, rfl, rfl, rfl⟩, rfl⟩ (fun j s hs => ?_)
 obtain ⟨kv, kw, xs, ys, es, vs, ⟨hj0, hkw, hkv, hxs, hys, hxl, hyl⟩, rfl⟩ := hs
 refine eL150 ?_
 refine cD ?_ ?_ <;> intro h54
 rotate_left
 ·
  refine eL147 ?_
  refine AW.seq (AW.xw 11 rfl (XW.ts.trans (XW.es hxs)) ?_)
  refine AW.xw 12 rfl (XW.ts.trans (XW.es hys)) ?_
  refine AW.wk (Wk.keep 109 [(3, .lp 3 0), (4, .lp 4 0), (5, .c (iC 0)), (6, .lp 6 0), (9, .lp 9 0), (10, nX i), (11, .c (exsC .un es)), (12, .c (rowC .un vs))] [(3, .box (zSt st)), (4, .box zL0), (6, .box (zQ st (.ts kt .ne 1 zs) (cS st) (cI st) st.wh (cG st) n (.t (.sl .un 1 ([n].map i64T))) (.t (.sl .un 5 ((vrL [⟨t.nm, t, 0⟩]).map vrT))) (.ts ku .ne 1 us))), (9, .box (zTb t))] ((upd (upd H ku (some (.tip 55 1 us.length))) kt (some (.tip 27 1 zs.length)))) rfl ⟨rfl, rfl, rfl, rfl, rfl, rfl, rfl, rfl, trivial⟩ ⟨rfl, rfl, rfl, rfl, trivial⟩ (fun j o h => upd_sub (f := upd (upd (upd H ku (some (.tip 55 1 us.length))) kt (some (.tip 27 1 zs.length))) kw _) hkv j o (upd_sub (f := (upd (upd H ku (some (.tip 55 1 us.length))) kt (some (.tip 27 1 zs.length)))) hkw j o h)) rfl) ?_
  refine B5 ?_
  refine SeqK.app1 rfl hkt rfl el30 rfl rfl (by simp [hzl]; omega) rfl rfl (fun k99 hk99 => ?_)
  obtain ⟨hk99n, hk99x⟩ := upd_lt hk99
  refine G3 ?_
  refine Z3 (AW.reg (Z1 fl47_4 ?_))
  refine G3 ?_
  refine SeqK.app rfl rfl el45 rfl (by rw [upd_ne _ _ hk99n.symm, upd_same]) rfl (by simp [hul]; omega) rfl rfl (fun k106 hk106 => ?_)
  refine eL212 ?_
  obtain ⟨hk106n, hk106⟩ := upd_lt2 hk106 hku
  exact ⟨i + 1, _, by exact Wk.keep 109 _ _ _ rfl ⟨rfl, rfl, rfl, rfl, rfl, rfl, trivial⟩ ⟨rfl, rfl, rfl, rfl, trivial⟩ (upd_ap2 hku hk99n hk106n) rfl, by omega, k99, k106, zs ++ [exLT es], us ++ [rowT vs], a ++ [es], b ++ [vs], ⟨hi, hk106, by rw [upd_ne _ _ hk106n.symm]; exact hk99x, mp_put hzs, mp_put hus, by simp [hzl], by simp [hul]⟩, rfl⟩
 have hjc := oI h54
 have hj : j < st.vals[i].length := by omega
 have hge : gdX st.vals[i][j] := hgu _ (qC hj)
 refine eL152 ?_
 refine eL256 ?_
 refine G2 ?_
 refine Z10 sl27 (idx_ex hj) ?_
 refine G1 ?_
 refine Z16 fn52 (Pure.arg (l := [exC st.vals[i][j]]) (r := []) (XW.nilU (sz := 7)) (rexpr_any (l := []) (z := .un) okSpN st.vals[i][j] hge)) ?_
 refine eL241 ?_
 refine eL165 ?_
 refine cD ?_ ?_ <;> intro h68
 ·
  refine eL251 ?_
  refine eL151 ?_
  refine N4 ?_
  refine Z38 ?_
  exact cL25
 have hb0 : (bnR (spR []) st.vals[i][j]).2.2 = 0 := qY.1 h68
 refine AW.skip (AW.seq (AW.seq (AW.draw mo ?_)))
 refine N5 ?_
 refine Z26 sl24 (idx_map (f := coT) hjc) ?_
 refine N2 ?_
 refine Z40 fn53 (rfits_any _ _) ?_
 refine lQ (q_not rfl rfl) ?_
 refine Z38 ?_
 refine AW.cond _ rfl (fun h81 => ?_) (fun h81 => ?_)
 ·
  refine D3 ?_
  exact cL25
 have hk3 : (bnR (spR []) st.vals[i][j]).2.1 ≠ 3 := by
  have h1 := jK (bnf h81)
  have h2 := hok.ty _ (qC hjc)
  omega
 refine AW.skip (D4 ?_)
 refine SeqK.app1 rfl hkv rfl el27 rfl rfl (by simp [hxl]; omega) rfl rfl (fun k87 hk87 => ?_)
 obtain ⟨hk87n, hk87x⟩ := upd_lt hk87
 refine eL166 ?_
 refine sQ (q_call _ rfl fn15 rfl (Pure.arg (l := [exC (bnR (spR []) st.vals[i][j]).1]) (r := []) (XW.nilU (sz := 3)) (rvalue_any [] .un (fun _ h => by cases h) (sf_ev0 (bnd_sf _ hge.zx.fm hb0 hk3) (bnd_cix0 _ hb0) (hge.zx.bnd hb0).fm) (hge.zx.bnd hb0).fm (hge.zx.bnd hb0).ts)) rfl) ?_
 refine G1 ?_
 refine SeqK.app rfl rfl el55 rfl (by rw [upd_ne _ _ hk87n.symm, upd_same]) rfl (by simp [hyl]; omega) rfl rfl (fun k93 hk93 => ?_)
 refine eL166 ?_
 obtain ⟨hk93n, hk93⟩ := upd_lt2 hk93 hkw
 exact ⟨j + 1, _, by exact Wk.keep 109 _ _ _ rfl ⟨rfl, rfl, rfl, rfl, rfl, rfl, rfl, rfl, rfl, trivial⟩ ⟨rfl, rfl, rfl, rfl, trivial⟩ (upd_ap2 hkw hk87n hk93n) rfl, by omega, k87, k93, xs ++ [exL (bnR (spR []) st.vals[i][j]).1], ys ++ [rvT (evE [] (bnR (spR []) st.vals[i][j]).1)], es ++ [(bnR (spR []) st.vals[i][j]).1], vs ++ [evE [] (bnR (spR []) st.vals[i][j]).1], ⟨hjc, hk93, by rw [upd_ne _ _ hk93n.symm]; exact hk87x, ex_put hxs, mp_put hys, by simp [hxl], by simp [hyl]⟩, rfl⟩
end Go.Proofs.YtgnnjebfoffphaaGreatDoor.W
