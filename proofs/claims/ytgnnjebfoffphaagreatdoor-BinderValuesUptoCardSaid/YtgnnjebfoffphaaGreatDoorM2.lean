import Derived.Test.YtgnnjebfoffphaaGreatDoorM1
import Derived.OrdersIn
set_option linter.unusedVariables false
namespace Go.Proofs.YtgnnjebfoffphaaGreatDoor.E
open Go.RowKit
section
variable {P : Program} {all : Array Oper} {s s' : S} {o : Oper} {K K' : S → Prop} {Q : Exit → S → Prop}
def opRun (P : Program) (all : Array Oper) (o : Oper) (a : Act) (w : World) (K : Act → World → Prop) : Prop :=
  if Region.wanted o (yielded all a.tmps) = true then o.wpIn Fence.wide 0 P a w K (fun _ _ _ => False) else K (a.put o.dst undef) w
theorem wp_weak {a : Act} {w : World} {K K' : Act → World → Prop} {Q' : Exit → Act → World → Prop} (h : o.wp P a w K (fun _ _ _ => False)) (hk : ∀ a w, K a w → K' a w) : o.wpIn Fence.wide 0 P a w K' Q' := by
  unfold Oper.wp at h
  refine ⟨fun _ _ => trivial, ?_⟩
  show o.uponIn Fence.wide 0 P a K' Q' ((execOp a.eval o).run P w)
  generalize (execOp a.eval o).run P w = r at *
  cases r with
  | ok n w' =>
    cases n <;> simp only [Oper.upon, Oper.uponIn] at h ⊢ <;>
      first
        | exact hk _ _ h
        | exact ⟨fun e => by simp [Fence.wide] at e, callsIn_wide.2 (Calls.mono h (fun e w'' he => by cases e <;> first | exact hk _ _ he | exact he.elim | (obtain ⟨_, _, h⟩ := he; exact h.elim)))⟩
        | exact ⟨fun e => by simp [Fence.wide] at e, fun c cs _ => let ⟨v, w', r, s⟩ := h c cs; ⟨v, w', hk _ _ r, stepsIn_wide.2 s⟩⟩
  | halt x w' => cases x <;> simp only [Oper.upon, Oper.uponIn] at h ⊢
theorem wp_to {a : Act} {w : World} {K : Act → World → Prop} {Q' : Exit → Act → World → Prop} (h : o.wp P a w K (fun _ _ _ => False)) : o.wpIn Fence.wide 0 P a w K Q' := wp_weak h fun _ _ h => h
theorem wp_weak0 {a : Act} {w : World} {K K' : Act → World → Prop} {Q' : Exit → Act → World → Prop} (h : o.wp P a w K (fun _ _ _ => False)) (hk : ∀ a w, K a w → K' a w) : o.wp P a w K' Q' := by
  unfold Oper.wp at *
  generalize (execOp a.eval o).run P w = r at *
  cases r with
  | ok n w' =>
    cases n <;> simp only [Oper.upon] at h ⊢ <;>
      first
        | exact hk _ _ h
        | exact Calls.mono h (fun e w'' he => by cases e <;> first | exact hk _ _ he | exact he.elim | (obtain ⟨_, _, h⟩ := he; exact h.elim))
        | exact Rows.mono h (fun _ _ he => hk _ _ he)
  | halt x w' => cases x <;> simp only [Oper.upon] at h ⊢
theorem wpIn_weak {F : Fence} {n : Nat} {a : Act} {w : World} {K K' : Act → World → Prop} {Q' : Exit → Act → World → Prop} (h : o.wpIn F n P a w K (fun _ _ _ => False)) (hk : ∀ a w, K a w → K' a w) : o.wpIn F n P a w K' Q' := by
  unfold Oper.wpIn at *
  refine ⟨h.1, ?_⟩
  have h := h.2
  generalize (o.semAt F.round a.eval).run P w = r at *
  cases r with
  | ok n w' =>
    cases n <;> simp only [Oper.uponIn] at h ⊢ <;>
      first
        | exact hk _ _ h
        | exact ⟨h.1, CallsIn.mono h.2 (fun e w'' he => by cases e <;> first | exact hk _ _ he | exact he.elim | (obtain ⟨_, _, h⟩ := he; exact h.elim))⟩
        | exact ⟨h.1, RowsIn.mono h.2 (fun _ _ he => hk _ _ he)⟩
        | exact ⟨h.1, RoundIn.mono h.2 (fun e w'' he => by cases e <;> first | exact hk _ _ he | exact he.elim | (obtain ⟨_, _, h⟩ := he; exact h.elim))⟩
  | halt x w' => cases x <;> simp only [Oper.uponIn] at h ⊢
theorem opRun_mono {a : Act} {w : World} {K K' : Act → World → Prop} (h : opRun P all o a w K) (hk : ∀ a w, K a w → K' a w) : opRun P all o a w K' := by
  unfold opRun at *
  split
  · rename_i hw; rw [if_pos hw] at h; exact wpIn_weak h hk
  · rename_i hw; rw [if_neg hw] at h; exact hk _ _ h
def OpW (P : Program) (all : Array Oper) (o : Oper) (K : S → Prop) (s : S) : Prop :=
  ∀ c a w, Sat c s a w → opRun P all o a w fun a' w' => ∃ s' c', K s' ∧ Sat c' s' a' w' ∧ Ext c s.own w c' s'.own w'
theorem OpW.mono (h : OpW P all o K s) (hk : ∀ s', K s' → K' s') : OpW P all o K' s :=
  fun c a w g => opRun_mono (h c a w g) fun _ _ ⟨s', c', k, r⟩ => ⟨s', c', hk _ k, r⟩
theorem OpW.wk {s0 : S} (hw : Wk s0 s) (h : OpW P all o K s) : OpW P all o K s0 := fun c a w g => by
  obtain ⟨c1, g1, x1⟩ := hw c a w g
  exact opRun_mono (h c1 a w g1) fun _ _ ⟨s', c', k, g', x'⟩ => ⟨s', c', k, g', x1.trans x'⟩
def SeqK (P : Program) (all : Array Oper) (K : S → Prop) : List Oper → S → Prop
  | [], s => K s
  | o :: rest, s => OpW P all o (SeqK P all K rest) s
theorem wpOps_of_seq {Q' : Exit → Act → World → Prop} {c0 : Ctx} {own0 : Own} {w0 : World} (hQ : ∀ s c a w, K s → Sat c s a w → Ext c0 own0 w0 c s.own w → Q' .normal a w) :
    ∀ (l : List Oper) (k : Nat) (s : S) (c : Ctx) (a : Act) (w : World), (∀ j, l[j]? = all[k + j]?) → SeqK P all K l s → Sat c s a w → Ext c0 own0 w0 c s.own w → wpOpsIn Fence.wide 0 P all Q' (List.range' k l.length) a w
  | [], k, s, c, a, w, _, h, g, x => hQ s c a w h g x
  | o :: l, k, s, c, a, w, hl, h, g, x => by
    have h0 : all[k]? = some o := by simpa using (hl 0).symm
    rw [qM, List.range'_succ, wpOpsIn_cons]
    unfold wpOpIn
    rw [h0]
    have h1 := h c a w g
    unfold opRun at h1
    have go : ∀ a' w', (∃ s' c', SeqK P all K l s' ∧ Sat c' s' a' w' ∧ Ext c s.own w c' s'.own w') → wpOpsIn Fence.wide 0 P all Q' (List.range' (k + 1) l.length) a' w' :=
      fun a' w' ⟨s', c', h', g', x'⟩ => wpOps_of_seq hQ l (k + 1) s' c' a' w' (fun j => by have := hl (j + 1); simpa [Nat.add_assoc, Nat.add_comm 1 j] using this) h' g' (x.trans x')
    simp only []
    split
    · rename_i hw; rw [if_pos hw] at h1; exact wpIn_weak h1 go
    · rename_i hw; rw [if_neg hw] at h1; exact ⟨fun _ _ => trivial, go _ _ h1⟩
theorem seq_start {l : List Oper} (h : SeqK P l.toArray (Q .normal) l s) {c : Ctx} {a : Act} {w : World} (g : Sat c s a w) : wpOpsIn Fence.wide 0 P l.toArray (fun e a' w' => ∃ s' c', Q e s' ∧ Sat c' s' a' w' ∧ Ext c s.own w c' s'.own w') (List.range l.toArray.size) a w := by
  have := wpOps_of_seq (P := P) (all := l.toArray) (Q' := fun e a' w' => ∃ s' c', Q e s' ∧ Sat c' s' a' w' ∧ Ext c s.own w c' s'.own w') (fun s' c' a' w' k g' x' => ⟨s', c', k, g', x'⟩) l 0 s c a w (by simp) h g (.refl _ _ _)
  rw [List.range_eq_range']
  simpa using this
theorem AW.reg {id : Nat} {l : List Oper} (h : SeqK P l.toArray (Q .normal) l s) : AW P (.region id l.toArray false) Q s := fun c a w g => (wpIn_wide (n := 0)).1 (wpIn_region (seq_start h g))
end
inductive Loc where
  | t (i : Nat)
  | b (d : Nat)
  | h
  deriving DecidableEq
def Same : Loc → S → S → Prop
  | .t i, s, s' => s.t i = s'.t i
  | .b d, s, s' => s.L d = s'.L d
  | .h, s, s' => s.H = s'.H
theorem Same.refl (ℓ : Loc) (s : S) : Same ℓ s s := by cases ℓ <;> rfl
theorem Same.symm {ℓ : Loc} {s s' : S} (h : Same ℓ s s') : Same ℓ s' s := by cases ℓ <;> exact Eq.symm h
theorem Same.trans {ℓ : Loc} {s s' s'' : S} (h : Same ℓ s s') (k : Same ℓ s' s'') : Same ℓ s s'' := by cases ℓ <;> exact Eq.trans h k
def Len (s s' : S) : Prop := s.n = s'.n
theorem S.ext' {s s' : S} (hn : Len s s') (h : ∀ ℓ, Same ℓ s s') : s = s' := by
  cases s; cases s'
  have h1 := funext fun i => h (.t i)
  have h2 := funext fun i => h (.b i)
  have h3 := h .h
  simp only [Same, Len] at hn h1 h2 h3
  subst hn h1 h2 h3; rfl
def S.over (W : List Loc) (s s' : S) : S :=
  { n := s.n
    t := fun i => if Loc.t i ∈ W then s'.t i else s.t i
    L := fun i => if Loc.b i ∈ W then s'.L i else s.L i
    H := if Loc.h ∈ W then s'.H else s.H }
theorem over_len (W : List Loc) (s s' : S) : Len (s.over W s') s := rfl
theorem over_in {W : List Loc} {s s' : S} {ℓ : Loc} (h : ℓ ∈ W) : Same ℓ (s.over W s') s' := by
  cases ℓ <;> simp [Same, S.over, h]
theorem over_out {W : List Loc} {s s' : S} {ℓ : Loc} (h : ℓ ∉ W) : Same ℓ (s.over W s') s := by
  cases ℓ <;> simp [Same, S.over, h]
structure LOp (P : Program) (all : Array Oper) (o : Oper) (R W : List Loc) (s s' : S) : Prop where
  len : Len s' s
  out : ∀ ℓ, ℓ ∉ W → Same ℓ s' s
  run : ∀ s1, Len s1 s → (∀ ℓ, ℓ ∈ R → Same ℓ s1 s) → OpW P all o (fun s2 => s2 = s1.over W s') s1
theorem LOp.opW {P : Program} {all : Array Oper} {o : Oper} {R W : List Loc} {s s' : S} (h : LOp P all o R W s s') {K : S → Prop} (k : K s') : OpW P all o K s := by
  refine (h.run s rfl fun ℓ _ => .refl _ _).mono fun s2 e => ?_
  have : s.over W s' = s' := S.ext' h.len.symm fun ℓ => by
    by_cases hl : ℓ ∈ W
    · exact over_in hl
    · exact (over_out hl).trans (h.out ℓ hl).symm
  rw [e, this]; exact k
theorem SeqK.step {P : Program} {all : Array Oper} {o : Oper} {R W : List Loc} {s s' : S} {K : S → Prop} {rest : List Oper} (h : LOp P all o R W s s') (k : SeqK P all K rest s') : SeqK P all K (o :: rest) s := h.opW k
abbrev Fp := List Loc × List Loc
def conflict (f g : Fp) : Bool := f.2.any (fun l => g.1.contains l || g.2.contains l) || f.1.any (g.2.contains ·)
def waits (all : Array Oper) (j i : Nat) : Bool := (all.getD j default).after.any fun e => Region.binds .any e && e.on == i
def reach (all : Array Oper) : Nat → Nat → Nat → Bool
  | 0, _, _ => false
  | n + 1, j, i => waits all j i || (all.getD j default).after.any fun e => Region.binds .any e && reach all n e.on i
def ahead (all : Array Oper) (j : Nat) : Bool := (all.getD j default).after.all fun e => !Region.binds .any e || decide (e.on < j)
def okFp (all : Array Oper) (p : Nat) (fps : List Fp) : Bool :=
  (List.range fps.length).all fun j => ahead all (p + j) && (List.range j).all fun i => !conflict (fps.getD i ([], [])) (fps.getD j ([], [])) || reach all 8 (p + j) (p + i)
def okBar (all : Array Oper) (p m : Nat) : Bool := ahead all m && (List.range' p (m - p)).all (fun i => reach all 8 m i) && (List.range' (m + 1) (all.size - (m + 1))).all (fun j => reach all 8 j m)
def LexK (P : Program) (all : Array Oper) (K : S → Prop) : List Oper → S → Nat → List Fp → Prop
  | [], s, p, fp => okFp all p fp = true ∧ K s
  | o :: rest, s, p, fp => (∃ R W s', LOp P all o R W s s' ∧ LexK P all K rest s' p (fp ++ [(R, W)])) ∨
    (okFp all p fp = true ∧ okBar all p (p + fp.length) = true ∧ OpW P all o (fun s' => LexK P all K rest s' (p + fp.length + 1) []) s)
section
variable {P : Program} {all : Array Oper} {K : S → Prop} {s s' : S} {p : Nat} {fp : List Fp} {o : Oper} {rest : List Oper}
theorem LexK.nil (h : okFp all p fp = true) (k : K s) : LexK P all K [] s p fp := ⟨h, k⟩
theorem LexK.cons {R W : List Loc} (h : LOp P all o R W s s') (k : LexK P all K rest s' p (fp ++ [(R, W)])) : LexK P all K (o :: rest) s p fp := .inl ⟨R, W, s', h, k⟩
theorem LexK.get : ∀ (l : List Oper) (s : S) (p : Nat) (fp : List Fp), LexK P all K l s p fp → ∃ (f : List Fp) (sq : Nat → S), sq 0 = s ∧ f.length ≤ l.length ∧
    (∀ i, i < f.length → ∃ o, l[i]? = some o ∧ LOp P all o (f.getD i ([], [])).1 (f.getD i ([], [])).2 (sq i) (sq (i + 1))) ∧ okFp all p (fp ++ f) = true ∧
    ((f.length = l.length ∧ K (sq f.length)) ∨ (okBar all p (p + fp.length + f.length) = true ∧ ∃ o, l[f.length]? = some o ∧ OpW P all o (fun s' => LexK P all K (l.drop (f.length + 1)) s' (p + fp.length + f.length + 1) []) (sq f.length)))
  | [], s, p, fp, h => ⟨[], fun _ => s, rfl, jA _, fun i hi => absurd hi (Nat.not_lt_zero i), by simpa using h.1, .inl ⟨rfl, h.2⟩⟩
  | o :: rest, s, p, fp, h => by
    rcases h with ⟨R, W, s', h, k⟩ | ⟨h, hb, k⟩
    · obtain ⟨f, sq, h0, h1, h2, h3, h4⟩ := LexK.get rest s' p _ k
      refine ⟨(R, W) :: f, fun i => if i = 0 then s else sq (i - 1), rfl, by simpa using h1, fun i hi => ?_, by simpa using h3, ?_⟩
      · cases i with
        | zero => exact ⟨o, rfl, by simpa [h0] using h⟩
        | succ i =>
          obtain ⟨o', h5, h6⟩ := h2 i (by simpa using hi)
          exact ⟨o', by simpa using h5, by simpa using h6⟩
      · rcases h4 with ⟨h5, h6⟩ | ⟨h6, o', h7, h8⟩
        · exact .inl ⟨by simpa using h5, by simpa using h6⟩
        · have e : p + (fp ++ [(R, W)]).length + f.length = p + fp.length + ((R, W) :: f).length := by simp; omega
          rw [e] at h6 h8
          exact .inr ⟨h6, o', by simpa using h7, by simpa using h8⟩
    · exact ⟨[], fun _ => s, rfl, qZ _, fun i hi => absurd hi (Nat.not_lt_zero i), by simpa using h, .inr ⟨by simpa using hb, o, rfl, by simpa using k⟩⟩
end
section
variable {P : Program} {all : Array Oper} {K : S → Prop}
theorem conflict_of {f g : Fp} (h : conflict f g = false) {l : Loc} : (l ∈ f.2 → l ∉ g.1 ∧ l ∉ g.2) ∧ (l ∈ f.1 → l ∉ g.2) := by
  simp only [conflict, Bool.or_eq_false_iff, List.any_eq_false] at h
  constructor
  · intro hl; have := h.1 l hl; simpa using this
  · intro hl; have := h.2 l hl; simpa using this
theorem cnt_set : ∀ (l : List Bool) (i : Nat), l[i]? = some false → (l.set i true).count false + 1 = l.count false
  | [], i, h => by simp at h
  | b :: l, 0, h => by simp at h; subst h; simp
  | b :: l, i + 1, h => by
    have := cnt_set l i (by simpa using h)
    simp only [List.set_cons_succ, List.count_cons]
    omega
def stand (p : Nat) (sq : Nat → S) (f : List Fp) (Lm : Array Bool) : Nat → S
  | 0 => sq 0
  | i + 1 => if Lm.getD (p + i) false = true then (stand p sq f Lm i).over (f.getD i ([], [])).2 (sq (i + 1)) else stand p sq f Lm i
theorem stand_len {p : Nat} {sq : Nat → S} {f : List Fp} {Lm : Array Bool} : ∀ k, Len (stand p sq f Lm k) (sq 0)
  | 0 => rfl
  | k + 1 => by
    simp only [stand]
    split
    · exact (over_len (f.getD k ([], [])).2 (stand p sq f Lm k) (sq (k + 1))).trans (stand_len k)
    · exact stand_len k
variable {p : Nat} {sq : Nat → S} {f : List Fp}
abbrev Steps' (P : Program) (all : Array Oper) (p : Nat) (sq : Nat → S) (f : List Fp) : Prop := ∀ i, i < f.length → ∃ o, all[p + i]? = some o ∧ LOp P all o (f.getD i ([], [])).1 (f.getD i ([], [])).2 (sq i) (sq (i + 1))
theorem sq_len (hL : Steps' P all p sq f) : ∀ k, k ≤ f.length → Len (sq k) (sq 0)
  | 0, _ => rfl
  | k + 1, h => by
    obtain ⟨o, _, ho⟩ := hL k (by omega)
    exact ho.len.trans (sq_len hL k (by omega))
theorem okFp_at {fps : List Fp} (h : okFp all p fps = true) {j : Nat} (hj : j < fps.length) : ahead all (p + j) = true ∧ ∀ i, i < j → conflict (fps.getD i ([], [])) (fps.getD j ([], [])) = false ∨ reach all 8 (p + j) (p + i) = true := by
  simp only [okFp, List.all_eq_true, List.mem_range, jG, Bool.or_eq_true, Bool.not_eq_true'] at h
  exact h j hj
def shut (all : Array Oper) (Lm : Array Bool) : Prop := ∀ j, Lm.getD j false = true → ∀ i, waits all j i = true → Lm.getD i false = true
theorem waits_of {j : Nat} {e : Edge} (he : e ∈ (all.getD j default).after) (hb : Region.binds .any e = true) : waits all j e.on = true := by
  unfold waits
  rw [Array.any_eq_true']
  exact ⟨e, he, by simp [hb]⟩
theorem reach_pre {Lm : Array Bool} (hs : shut all Lm) : ∀ (n j i : Nat), (∀ i, waits all j i = true → Lm.getD i false = true) → reach all n j i = true → Lm.getD i false = true
  | 0, _, _, _, h => by cases h
  | n + 1, j, i, hp, h => by
    simp only [reach, Bool.or_eq_true, Array.any_eq_true', jG] at h
    rcases h with h | ⟨e, he, hb, hr⟩
    · exact hp i h
    · exact reach_pre hs n e.on i (hs _ (hp _ (waits_of he hb))) hr
theorem reach_shut {Lm : Array Bool} (hs : shut all Lm) {n j i : Nat} (hj : Lm.getD j false = true) (h : reach all n j i = true) : Lm.getD i false = true := reach_pre hs n j i (hs j hj) h
theorem stand_same (hL : Steps' P all p sq f) {Lm : Array Bool} {ℓ : Loc} :
    ∀ k, k ≤ f.length → (∀ i, i < k → ℓ ∈ (f.getD i ([], [])).2 → Lm.getD (p + i) false = true) → Same ℓ (stand p sq f Lm k) (sq k)
  | 0, _, _ => .refl _ _
  | k + 1, hk, h => by
    obtain ⟨o, _, ho⟩ := hL k (by omega)
    simp only [stand]
    by_cases hw : ℓ ∈ (f.getD k ([], [])).2
    · rw [if_pos (h k (by omega) hw)]
      exact over_in hw
    · have ih := stand_same hL k (by omega) (fun i hi => h i (by omega)) (ℓ := ℓ)
      split
      · exact (over_out hw).trans (ih.trans (ho.out ℓ hw).symm)
      · exact ih.trans (ho.out ℓ hw).symm
theorem stand_later {Lm : Array Bool} {ℓ : Loc} {j : Nat} : ∀ k, j ≤ k → (∀ i, j ≤ i → i < k → ℓ ∈ (f.getD i ([], [])).2 → Lm.getD (p + i) false = false) → Same ℓ (stand p sq f Lm k) (stand p sq f Lm j)
  | 0, hk, h => by obtain rfl : j = 0 := by omega
                   exact .refl _ _
  | k + 1, hk, h => by
    by_cases e : j = k + 1
    · subst e; exact .refl _ _
    · simp only [stand]
      have ih := stand_later (Lm := Lm) (ℓ := ℓ) (j := j) k (by omega) (fun i h1 h2 => h i h1 (by omega))
      split
      · rename_i hl
        refine (over_out fun hw => ?_).trans ih
        rw [h k (by omega) (by omega) hw] at hl; cases hl
      · exact ih
theorem getD_set_self {Lm : Array Bool} {j : Nat} (h : j < Lm.size) : (Lm.setIfInBounds j true).getD j false = true := by simp [h]
theorem draw_key {n : Nat} (hn : all.size = n) (hfn : p + f.length ≤ n) (hL : Steps' P all p sq f) (ok : okFp all p f = true)
    {Q' : Exit → Act → World → Prop} {c0 : Ctx} {own0 : Own} {w0 : World}
    (hend : (p + f.length = n ∧ ∀ c a w, Sat c (sq f.length) a w → Ext c0 own0 w0 c (sq f.length).own w → Q' .normal a w) ∨
      (okBar all p (p + f.length) = true ∧ ∃ o, all[p + f.length]? = some o ∧ ∀ c a w, Sat c (sq f.length) a w → Ext c0 own0 w0 c (sq f.length).own w → opRun P all o a w fun a' w' =>
        ∀ (fuel : Nat) (Lm : Array Bool), Lm.size = n → Lm.toList.count false = fuel → (∀ i, i < p + f.length + 1 → Lm.getD i false = true) → (∀ i, p + f.length + 1 ≤ i → Lm.getD i false = false) → wpAnyIn Fence.wide 0 P .any all Q' fuel Lm a' w')) :
    ∀ (fuel : Nat) (Lm : Array Bool) (c : Ctx) (a : Act) (w : World), Lm.size = n → Lm.toList.count false = fuel → shut all Lm → (∀ i, i < p → Lm.getD i false = true) → (∀ j, p + f.length ≤ j → Lm.getD j false = false) →
      Sat c (stand p sq f Lm f.length) a w → Ext c0 own0 w0 c (stand p sq f Lm f.length).own w → wpAnyIn Fence.wide 0 P .any all Q' fuel Lm a w := by
  have getlt : ∀ {Lm : Array Bool} {j : Nat}, Lm.getD j true = false → j < Lm.size := fun {Lm j} h => by
    rcases Nat.lt_or_ge j Lm.size with h' | h'
    · exact h'
    · simp [Array.getElem?_eq_none h'] at h
  have ready_iff : ∀ {Lm : Array Bool} {j : Nat}, j ∈ Region.ready .any all Lm → Lm.getD j true = false ∧ ∀ i, waits all j i = true → Lm.getD i false = true := by
    intro Lm j hj
    obtain ⟨h0, o, ho, hall⟩ := mem_ready.1 hj
    refine ⟨h0, fun i hi => ?_⟩
    have : all.getD j default = o := by simp [ho]
    unfold waits at hi
    rw [this, Array.any_eq_true] at hi
    obtain ⟨q, hq, hi⟩ := hi
    simp only [jG, beq_iff_eq] at hi
    have := hall _ (Array.getElem_mem hq) hi.1
    rwa [hi.2] at this
  have ready_of : ∀ {Lm : Array Bool} {j : Nat}, Lm.size = n → j < n → Lm.getD j true = false → ahead all j = true → (∀ i, i < j → Lm.getD i false = true) → j ∈ Region.ready .any all Lm := by
    intro Lm j hs hj h0 ha hb
    refine mem_ready.2 ⟨h0, all[j]'(by omega), Array.getElem?_eq_getElem (by omega), fun e he hbnd => ?_⟩
    have : all.getD j default = all[j]'(by omega) := by simp [show j < all.size by omega]
    unfold ahead at ha
    rw [this] at ha
    have h1 := Array.all_eq_true_iff_forall_mem.1 ha e he
    simp only [hbnd, Bool.not_true, Bool.false_or, decide_eq_true_eq] at h1
    exact hb _ h1
  have count0 : ∀ {Lm : Array Bool} {j : Nat}, Lm.toList.count false = 0 → Lm.getD j true ≠ false := by
    intro Lm j hc h
    have hj := getlt h
    have hm : false ∈ Lm.toList := by
      have : Lm[j] = false := by simpa [hj] using h
      rw [← this]; simp
    exact absurd (List.count_pos_iff.2 hm) (by omega)
  have done : ∀ (fuel : Nat) (Lm : Array Bool) (a : Act) (w : World), Lm.toList.count false = 0 → Q' .normal a w → wpAnyIn Fence.wide 0 P .any all Q' fuel Lm a w := by
    intro fuel Lm a w hc hq
    have hr : Region.ready .any all Lm = [] := by
      cases hr : Region.ready .any all Lm with
      | nil => rfl
      | cons j r =>
        have hj : j ∈ Region.ready .any all Lm := by rw [hr]; simp
        exact absurd (ready_iff hj).1 (count0 hc)
    cases fuel with
    | zero => exact ⟨hr, hq⟩
    | succ fuel => exact ⟨fun _ => hq, fun i hi => by rw [hr] at hi; cases hi⟩
  have barfacts : okBar all p (p + f.length) = true → ahead all (p + f.length) = true ∧ (∀ i, p ≤ i → i < p + f.length → reach all 8 (p + f.length) i = true) ∧ (∀ j, p + f.length < j → j < n → reach all 8 j (p + f.length) = true) := by
    intro h
    simp only [okBar, jG, List.all_eq_true, List.mem_range'] at h
    refine ⟨h.1.1, fun i h1 h2 => h.1.2 i ⟨i - p, by omega, by omega⟩, fun j h1 h2 => h.2 j ⟨j - (p + f.length + 1), by omega, by omega⟩⟩
  intro fuel
  induction fuel with
  | zero =>
    intro Lm c a w hs hc hsh hpre hlast g x
    refine done 0 Lm a w hc ?_
    have hall : ∀ i, i < n → Lm.getD i false = true := fun i hi => by
      have := count0 (j := i) hc
      cases h : Lm[i]? with
      | none => simp at h; omega
      | some b => cases b <;> simp [h] at this ⊢
    have hfull : p + f.length = n := by
      rcases Nat.lt_or_ge (p + f.length) n with h | h
      · have := hlast (p + f.length) (jA _); rw [hall _ h] at this; cases this
      · omega
    have e : stand p sq f Lm f.length = sq f.length := S.ext' ((stand_len _).trans (sq_len hL _ (jA _)).symm) fun ℓ => stand_same hL _ (jA _) fun i hi _ => hall (p + i) (by omega)
    rw [e] at g x
    rcases hend with ⟨_, k⟩ | ⟨_, o, ho, _⟩
    · exact k _ _ _ g x
    · have := (Array.getElem?_eq_some_iff.1 ho).1; omega
  | succ fuel ih =>
    intro Lm c a w hs hc hsh hpre hlast g x
    have some_unlisted : ∃ j, j < n ∧ Lm.getD j true = false := by
      have hm : false ∈ Lm.toList := List.count_pos_iff.1 (by omega)
      obtain ⟨j, hj⟩ := List.getElem?_of_mem hm
      have hj' : Lm[j]? = some false := by simpa using hj
      refine ⟨j, ?_, by simp [hj']⟩
      have := (Array.getElem?_eq_some_iff.1 hj').1
      omega
    have setfacts : ∀ {j : Nat}, Lm.getD j true = false → (Lm.setIfInBounds j true).size = n ∧ (Lm.setIfInBounds j true).toList.count false = fuel := by
      intro j hj
      have hlt := getlt hj
      refine ⟨by simpa using hs, ?_⟩
      have h1 : Lm.toList[j]? = some false := by
        have : Lm[j] = false := by simpa [hlt] using hj
        rw [Array.getElem?_toList, Array.getElem?_eq_getElem hlt, this]
      have := cnt_set Lm.toList j h1
      rw [Array.toList_setIfInBounds]
      omega
    have unl : ∀ {j : Nat}, j < n → Lm.getD j true = false → Lm.getD j false = false := fun {j} hj h => by
      have hlt : j < Lm.size := by omega
      simpa [hlt] using h
    refine ⟨fun hr => ?_, fun j hj => ?_⟩
    · -- nothing is ready, yet one is not listed: the least of these is ready
      exfalso
      obtain ⟨j, hjn, hj⟩ := some_unlisted
      have least : ∀ m, (∃ j, j < m ∧ Lm.getD j true = false) → ∃ j, j < m ∧ Lm.getD j true = false ∧ ∀ i, i < j → Lm.getD i true = true := by
        intro m
        induction m with
        | zero => rintro ⟨j, h, _⟩; omega
        | succ m ihm =>
          rintro ⟨j, h1, h2⟩
          by_cases he : ∃ j, j < m ∧ Lm.getD j true = false
          · obtain ⟨i, h3, h4, h5⟩ := ihm he
            exact ⟨i, by omega, h4, h5⟩
          · have : j = m := by
              rcases Nat.lt_or_ge j m with h | h
              · exact absurd ⟨j, h, h2⟩ he
              · omega
            subst this
            exact ⟨j, by omega, h2, fun i hi => by
              cases h : Lm.getD i true with
              | true => rfl
              | false => exact absurd ⟨i, hi, h⟩ he⟩
      obtain ⟨i, h1, h2, h3⟩ := least n ⟨j, hjn, hj⟩
      have h3' : ∀ q, q < i → Lm.getD q false = true := fun q hq => by
        have h4 := h3 q hq
        have : q < Lm.size := by omega
        simpa [this] using h4
      have hip : p ≤ i := by
        rcases Nat.lt_or_ge i p with h | h
        · have := hpre i h; rw [unl h1 h2] at this; cases this
        · exact h
      have hah : ahead all i = true := by
        rcases Nat.lt_or_ge i (p + f.length) with h | h
        · have := (okFp_at ok (j := i - p) (by omega)).1
          rwa [show p + (i - p) = i by omega] at this
        · rcases hend with ⟨h5, _⟩ | ⟨h6, _⟩
          · omega
          · have : i = p + f.length := by
              rcases Nat.lt_or_ge (p + f.length) i with h7 | h7
              · have h8 := h3' (p + f.length) h7
                rw [hlast _ (jA _)] at h8; cases h8
              · omega
            subst this
            exact (barfacts h6).1
      have := ready_of hs h1 h2 hah h3'
      rw [hr] at this; cases this
    · obtain ⟨hun, hwt⟩ := ready_iff hj
      have hjn : j < n := by have := getlt hun; omega
      obtain ⟨hs1, hc1⟩ := setfacts hun
      have hunf := unl hjn hun
      have hjp : p ≤ j := by
        rcases Nat.lt_or_ge j p with h | h
        · have := hpre j h; rw [hunf] at this; cases this
        · exact h
      have hrch : ∀ {i}, reach all 8 j i = true → Lm.getD i false = true := fun h => reach_pre hsh 8 j _ hwt h
      have hsh1 : shut all (Lm.setIfInBounds j true) := by
        intro q hq i hi
        by_cases hqj : j = q
        · subst hqj; exact getD_set_true (hwt i hi)
        · rw [getD_set_ne false hqj] at hq
          exact getD_set_true (hsh q hq i hi)
      rcases Nat.lt_or_ge j (p + f.length) with hjf | hjf
      · obtain ⟨q, rfl⟩ : ∃ q, j = p + q := ⟨j - p, by omega⟩
        have hqf : q < f.length := by omega
        obtain ⟨o, ho, hop⟩ := hL q hqf
        obtain ⟨_, hcf⟩ := okFp_at ok hqf
        have nolater : ∀ i, q < i → i < f.length → Lm.getD (p + i) false = true → conflict (f.getD q ([], [])) (f.getD i ([], [])) = false := by
          intro i h1 h2 h3
          rcases (okFp_at ok h2).2 q h1 with h | h
          · exact h
          · have := reach_shut hsh h3 h; rw [hunf] at this; cases this
        -- what it looks at stands as in the text's order
        have hread : ∀ ℓ, ℓ ∈ (f.getD q ([], [])).1 → Same ℓ (stand p sq f Lm f.length) (sq q) := by
          intro ℓ hℓ
          refine (stand_later (j := q) f.length (by omega) fun i h1 h2 hw => ?_).trans (stand_same hL q (by omega) fun i hi hw => ?_)
          · by_cases hij : i = q
            · subst hij; exact hunf
            · cases h3 : Lm.getD (p + i) false with
              | false => rfl
              | true =>
                have := (conflict_of (nolater i (by omega) h2 h3) (l := ℓ)).2 hℓ
                exact absurd hw this
          · rcases hcf i hi with h | h
            · exact absurd hℓ ((conflict_of h (l := ℓ)).1 hw).1
            · exact hrch h
        have hlen : Len (stand p sq f Lm f.length) (sq q) := (stand_len _).trans (sq_len hL q (by omega)).symm
        have hafter : (stand p sq f Lm f.length).over (f.getD q ([], [])).2 (sq (q + 1)) = stand p sq f (Lm.setIfInBounds (p + q) true) f.length := by
          refine S.ext' ((over_len _ _ _).trans ((stand_len _).trans (stand_len _).symm)) fun ℓ => ?_
          by_cases hw : ℓ ∈ (f.getD q ([], [])).2
          · refine (over_in hw).trans ?_
            refine Same.symm ((stand_later (j := q + 1) f.length (by omega) fun i h1 h2 hwi => ?_).trans ?_)
            · rw [getD_set_ne false (by omega)]
              cases h3 : Lm.getD (p + i) false with
              | false => rfl
              | true =>
                have := ((conflict_of (nolater i (by omega) h2 h3) (l := ℓ)).1 hw).2
                exact absurd hwi this
            · refine stand_same hL (q + 1) (by omega) fun i hi hwi => ?_
              by_cases hij : i = q
              · subst hij; exact getD_set_self (by omega)
              · refine getD_set_true ?_
                rcases hcf i (by omega) with h | h
                · exact absurd hw ((conflict_of h (l := ℓ)).1 hwi).2
                · exact hrch h
          · refine (over_out hw).trans ?_
            have key : ∀ k, Same ℓ (stand p sq f Lm k) (stand p sq f (Lm.setIfInBounds (p + q) true) k) := by
              intro k
              induction k with
              | zero => exact .refl _ _
              | succ k ihk =>
                simp only [stand]
                by_cases hkj : k = q
                · subst hkj
                  rw [if_neg (by rw [hunf]; simp), if_pos (getD_set_self (by omega))]
                  exact ihk.trans (over_out hw).symm
                · rw [getD_set_ne false (by omega)]
                  split
                  · by_cases hwk : ℓ ∈ (f.getD k ([], [])).2
                    · exact (over_in hwk).trans (over_in hwk).symm
                    · exact (over_out hwk).trans (ihk.trans (over_out hwk).symm)
                  · exact ihk
            exact key f.length
        have hrun := hop.run _ hlen hread c a w g
        unfold wpOpIn
        rw [ho]
        have go : ∀ a' w', (∃ s' c', s' = (stand p sq f Lm f.length).over (f.getD q ([], [])).2 (sq (q + 1)) ∧ Sat c' s' a' w' ∧ Ext c (stand p sq f Lm f.length).own w c' s'.own w') → wpAnyIn Fence.wide 0 P .any all Q' fuel (Lm.setIfInBounds (p + q) true) a' w' := by
          rintro a' w' ⟨s', c', rfl, g', x'⟩
          rw [hafter] at g' x'
          exact ih _ c' a' w' hs1 hc1 hsh1 (fun i hi => getD_set_true (hpre i hi)) (fun i hi => by rw [getD_set_ne false (by omega)]; exact hlast i hi) g' (x.trans x')
        unfold opRun at hrun
        simp only []
        split
        · rename_i hw; rw [if_pos hw] at hrun; exact wpIn_weak hrun go
        · rename_i hw; rw [if_neg hw] at hrun; exact ⟨fun _ _ => trivial, go _ _ hrun⟩
      · rcases hend with ⟨h5, _⟩ | ⟨h6, o, ho, hk⟩
        · omega
        · obtain ⟨_, hb1, hb2⟩ := barfacts h6
          obtain rfl : j = p + f.length := by
            rcases Nat.lt_or_ge (p + f.length) j with h7 | h7
            · have := hrch (hb2 j h7 hjn)
              rw [hlast _ (jA _)] at this; cases this
            · omega
          have hall : ∀ i, i < p + f.length → Lm.getD i false = true := fun i hi => by
            rcases Nat.lt_or_ge i p with h | h
            · exact hpre i h
            · exact hrch (hb1 i h hi)
          have e : stand p sq f Lm f.length = sq f.length := S.ext' ((stand_len _).trans (sq_len hL _ (jA _)).symm) fun ℓ => stand_same hL _ (jA _) fun i hi _ => hall (p + i) (by omega)
          rw [e] at g x
          have hrun := hk c a w g x
          unfold wpOpIn
          rw [ho]
          have go : ∀ a' w', (∀ (fuel : Nat) (Lm : Array Bool), Lm.size = n → Lm.toList.count false = fuel → (∀ i, i < p + f.length + 1 → Lm.getD i false = true) → (∀ i, p + f.length + 1 ≤ i → Lm.getD i false = false) → wpAnyIn Fence.wide 0 P .any all Q' fuel Lm a' w') → wpAnyIn Fence.wide 0 P .any all Q' fuel (Lm.setIfInBounds (p + f.length) true) a' w' := by
            intro a' w' h
            refine h fuel _ hs1 hc1 (fun i hi => ?_) fun i hi => ?_
            · by_cases hif : i = p + f.length
              · subst hif; exact getD_set_self (by omega)
              · exact getD_set_true (hall i (by omega))
            · rw [getD_set_ne false (by omega)]; exact hlast i (by omega)
          unfold opRun at hrun
          simp only []
          split
          · rename_i hw; rw [if_pos hw] at hrun; exact wpIn_weak hrun go
          · rename_i hw; rw [if_neg hw] at hrun; exact ⟨fun _ _ => trivial, go _ _ hrun⟩
theorem shut_of {Lm : Array Bool} {p : Nat} (hah : ∀ j, j < p → ahead all j = true) (hp : ∀ i, i < p → Lm.getD i false = true) (hq : ∀ i, p ≤ i → Lm.getD i false = false) : shut all Lm := by
  intro j hj i hi
  have hjp : j < p := by
    rcases Nat.lt_or_ge j p with h | h
    · exact h
    · rw [hq j h] at hj; cases hj
  have h1 := hah j hjp
  unfold ahead at h1
  unfold waits at hi
  rw [Array.any_eq_true'] at hi
  obtain ⟨e, he, hi⟩ := hi
  simp only [jG, beq_iff_eq] at hi
  have h2 := Array.all_eq_true_iff_forall_mem.1 h1 e he
  simp only [hi.1, Bool.not_true, Bool.false_or, decide_eq_true_eq] at h2
  exact hp i (by omega)
theorem lex_any {Q' : Exit → Act → World → Prop} {c0 : Ctx} {own0 : Own} {w0 : World} (hQ : ∀ s c a w, K s → Sat c s a w → Ext c0 own0 w0 c s.own w → Q' .normal a w) :
    ∀ (N : Nat) (l : List Oper) (s : S) (p : Nat), l.length < N → (∀ j, l[j]? = all[p + j]?) → p + l.length = all.size → LexK P all K l s p [] → (∀ j, j < p → ahead all j = true) → ∀ (fuel : Nat) (Lm : Array Bool) (c : Ctx) (a : Act) (w : World),
      Lm.size = all.size → Lm.toList.count false = fuel → (∀ i, i < p → Lm.getD i false = true) → (∀ i, p ≤ i → Lm.getD i false = false) → Sat c s a w → Ext c0 own0 w0 c s.own w → wpAnyIn Fence.wide 0 P .any all Q' fuel Lm a w := by
  intro N
  induction N with
  | zero => intro l s p h; omega
  | succ N ih =>
    intro l s p hN hl hsz h hah fuel Lm c a w hs hc hpre hlast g x
    obtain ⟨f, sq, h0, h1, h2, h3, h4⟩ := LexK.get l s p [] h
    subst h0
    have ok : okFp all p f = true := by simpa using h3
    have e0 : ∀ k, stand p sq f Lm k = sq 0 := by
      intro k
      induction k with
      | zero => rfl
      | succ k ihk => simp only [stand]; rw [if_neg (by rw [hlast _ (by omega)]; simp), ihk]
    refine draw_key rfl (by omega) (fun i hi => ?_) ok ?_ fuel Lm c a w hs hc (shut_of hah hpre hlast) hpre (fun j hj => hlast j (by omega)) (by rw [e0]; exact g) (by rw [e0]; exact x)
    · obtain ⟨o, ho, hop⟩ := h2 i hi
      exact ⟨o, by rw [← hl]; exact ho, hop⟩
    · rcases h4 with ⟨h5, h6⟩ | ⟨h6, o, ho, hop⟩
      · exact .inl ⟨by omega, fun c a w g x => hQ _ c a w h6 g x⟩
      · have hlt : f.length < l.length := (List.getElem?_eq_some_iff.1 ho).1
        simp only [qQ, Nat.add_zero] at h6 hop
        refine .inr ⟨h6, o, by rw [← hl]; exact ho, fun c a w g x => opRun_mono (hop c a w g) ?_⟩
        rintro a' w' ⟨s', c', hk, g', x'⟩ fuel' Lm' hs' hc' hp' hq'
        refine ih (l.drop (f.length + 1)) s' (p + f.length + 1) (by simp; omega) (fun j => ?_) (by simp; omega) hk (fun j hj => ?_) fuel' Lm' c' a' w' hs' hc' hp' hq' g' (x.trans x')
        · rw [List.getElem?_drop, hl]; congr 1; omega
        · rcases Nat.lt_or_ge j p with h7 | h7
          · exact hah j h7
          · rcases Nat.lt_or_ge j (p + f.length) with h8 | h8
            · have := (okFp_at ok (j := j - p) (by omega)).1
              rwa [show p + (j - p) = j by omega] at this
            · obtain rfl : j = p + f.length := by omega
              simp only [okBar, jG] at h6
              exact h6.1.1
end
theorem lex_start {P : Program} {Q : Exit → S → Prop} {s : S} {l : List Oper} (h : LexK P l.toArray (Q .normal) l s 0 []) {c : Ctx} {a : Act} {w : World} (g : Sat c s a w) : wpAnyIn Fence.wide 0 P .any l.toArray (fun e a' w' => ∃ s' c', Q e s' ∧ Sat c' s' a' w' ∧ Ext c s.own w c' s'.own w') l.toArray.size (Array.replicate l.toArray.size false) a { w with drawn := w.drawn + 1 } := by
  refine lex_any (P := P) (all := l.toArray) (K := Q .normal) (c0 := c) (own0 := s.own) (w0 := w) (fun s' c' a' w' k g' x' => ⟨s', c', k, g', x'⟩) (l.length + 1) l s 0 (by omega) (by simp) (by simp) h (fun j hj => absurd hj (Nat.not_lt_zero j)) _ _ c a _ (by simp) ?_ (fun i hi => absurd hi (Nat.not_lt_zero i)) ?_
    ⟨⟨g.conc.mem, g.conc.obj, g.conc.inj, g.conc.fin, g.conc.tabw, g.conc.tabo⟩, g.size, g.tmps, g.defers, g.wf⟩ ⟨rfl, rfl, rfl, jA _, fun _ _ _ => rfl, fun _ _ _ h => h, fun _ _ _ h => .inl h, fun _ _ h => h, fun i x b n h1 he h2 => .inr ⟨i, x, n, h1, he, h2⟩, rfl, fun k x h => .inl (by rw [h]; simp)⟩
  · simp
  · intro j hj; simp [Array.getElem?_replicate]; split <;> simp
theorem AW.draw {P : Program} {Q : Exit → S → Prop} {s : S} {id : Nat} {l : List Oper} (hm : P.follows .mixedOrders = true) (h : LexK P l.toArray (Q .normal) l s 0 []) : AW P (.region id l.toArray true) Q s := fun c a w g => (wpIn_wide (n := 0)).1 (wpIn_region_any hm (lex_start h g))
end Go.Proofs.YtgnnjebfoffphaaGreatDoor.E
