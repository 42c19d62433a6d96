/- The index: what its objects hold. -/
import Derived.Test.YtojkjiakkcgfcaaW4
import Derived.Test.YtojkjiakkcgfcaaE23
namespace Go.Proofs.Ytojkjiakkcgfcaa.W
open Go.RowKit E
set_option linter.unusedVariables false
abbrev iv (n : Int) : Value := .int .i64 n
abbrev KI : KK := .int .i64
abbrev yes : C := .a (.t (.v (.bool true)))
theorem keq_iv (a b : Int) : keq (iv a) (iv b) = decide (a = b) := rfl
def inTab (f : Int → Option Bx) (t i : Int) : Bool := match f i with | some b => decide (b.tb = t) && !decide (b.ss.length = 0) | none => false
def fdel (f : Int → Option Bx) (id : Int) : Int → Option Bx := fun i => if i = id then none else f i
def fput (f : Int → Option Bx) (id : Int) (b : Bx) : Int → Option Bx := fun i => if i = id then some b else f i
structure IdxAt (H : Heap) (k k1 k2 : Nat) (es1 : List ME) (c1 : Nat) (es2 : List ME) (c2 : Nat) (g : Int → Option Nat) (f : Int → Option Bx) : Prop where
  box : H k = some (.box [.mp k1, .mp k2])
  m1 : H k1 = some (.map KI es1 c1)
  ok1 : MOk KI es1 c1
  get1 : ∀ i, mget (iv i) es1 = (f i).map (bxC .un)
  m2 : H k2 = some (.map KI es2 c2)
  ok2 : MOk KI es2 c2
  get2 : ∀ t, mget (iv t) es2 = (g t).map fun k3 => .a (.mp k3)
  n12 : k1 ≠ k2
  gne : ∀ t k3, g t = some k3 → k3 ≠ k1 ∧ k3 ≠ k2 ∧ k3 ≠ k
  ginj : ∀ t t' k3, g t = some k3 → g t' = some k3 → t = t'
  tab : ∀ t k3, g t = some k3 → ∃ es3 c3, H k3 = some (.map KI es3 c3) ∧ MOk KI es3 c3 ∧ ∀ i, mget (iv i) es3 = if inTab f t i = true then some yes else none
  no : ∀ t, g t = none → ∀ i, inTab f t i = false
  ss : ∀ i b, f i = some b → b.ss.length ≤ 1000000
theorem IdxAt.k1 {H : Heap} {k k1 k2 : Nat} {es1 : List ME} {c1 : Nat} {es2 : List ME} {c2 : Nat} {g : Int → Option Nat} {f : Int → Option Bx} (h : IdxAt H k k1 k2 es1 c1 es2 c2 g f) : k ≠ k1 ∧ k ≠ k2 := by
  constructor
  · intro e; have := h.box; rw [e, h.m1] at this; cases this
  · intro e; have := h.box; rw [e, h.m2] at this; cases this
def Idx (H : Heap) (k : Nat) (f : Int → Option Bx) (N : Nat) : Prop := ∃ k1 k2 es1 c1 es2 c2 g, IdxAt H k k1 k2 es1 c1 es2 c2 g f ∧ es1.length = N
section
variable {H : Heap} {k k1 k2 : Nat} {es1 : List ME} {c1 : Nat} {es2 : List ME} {c2 : Nat} {g : Int → Option Nat} {f : Int → Option Bx}
theorem inTab_del {id t i : Int} : inTab (fdel f id) t i = if i = id then false else inTab f t i := by
  unfold inTab fdel
  by_cases h : i = id <;> simp [h]
theorem inTab_put {id t i : Int} {b : Bx} : inTab (fput f id b) t i = if i = id then decide (b.tb = t) && !decide (b.ss.length = 0) else inTab f t i := by
  unfold inTab fput
  by_cases h : i = id <;> simp [h]
/-- the numbered box goes out of its table's map -/
theorem IdxAt.del1 (h : IdxAt H k k1 k2 es1 c1 es2 c2 g f) (id t0 : Int) (k3 : Nat) (es3 : List ME) (c3 : Nat) (hg : g t0 = some k3) (h3 : H k3 = some (.map KI es3 c3)) (ht : ∀ t, t ≠ t0 → inTab f t id = false) :
    IdxAt (upd (upd H k1 (some (.map KI (mdel (iv id) es1) c1))) k3 (some (.map KI (mdel (iv id) es3) c3))) k k1 k2 (mdel (iv id) es1) c1 es2 c2 g (fdel f id) := by
  obtain ⟨n1, n2, n3⟩ := h.gne _ _ hg
  obtain ⟨nk1, nk2⟩ := h.k1
  have old : ∀ j, j ≠ k1 → j ≠ k3 → upd (upd H k1 (some (.map KI (mdel (iv id) es1) c1))) k3 (some (.map KI (mdel (iv id) es3) c3)) j = H j := fun j h1 h2 => by rw [upd_ne _ _ h2, upd_ne _ _ h1]
  refine ⟨by rw [old k nk1 n3.symm]; exact h.box, by rw [upd_ne _ _ n1.symm, upd_same], h.ok1.del, fun i => ?_, by rw [old k2 h.n12.symm n2.symm]; exact h.m2, h.ok2, h.get2, h.n12, h.gne, h.ginj, fun t k4 hk4 => ?_, fun t ht' i => ?_, fun i b hb => ?_⟩
  · rw [mget_mdel h.ok1 rfl rfl, keq_iv]
    by_cases hi : i = id
    · subst hi; simp [fdel]
    · simp [hi, fdel, h.get1]
  · obtain ⟨es4, c4, h4, h5, h6⟩ := h.tab t k4 hk4
    by_cases e : k4 = k3
    · subst e
      have := h.ginj _ _ _ hk4 hg
      subst this
      rw [h3] at h4; injection h4 with h4; injection h4 with _ e1 e2; subst e1 e2
      refine ⟨_, _, upd_same _ _ _, h5.del, fun i => ?_⟩
      rw [mget_mdel h5 rfl rfl, keq_iv, inTab_del, h6]
      by_cases hi : i = id <;> simp [hi]
    · refine ⟨es4, c4, by rw [old k4 (h.gne _ _ hk4).1 e]; exact h4, h5, fun i => ?_⟩
      rw [h6, inTab_del]
      by_cases hi : i = id
      · subst hi
        have : inTab f t i = false := ht t (fun e1 => by subst e1; rw [hk4] at hg; injection hg with hg; exact e hg)
        simp [this]
      · simp [hi]
  · rw [inTab_del, h.no t ht' i]; simp
  · unfold fdel at hb
    split at hb
    · cases hb
    · exact h.ss i b hb
theorem IdxAt.del0 (h : IdxAt H k k1 k2 es1 c1 es2 c2 g f) (id : Int) (ht : ∀ t, inTab f t id = false) :
    IdxAt (upd H k1 (some (.map KI (mdel (iv id) es1) c1))) k k1 k2 (mdel (iv id) es1) c1 es2 c2 g (fdel f id) := by
  obtain ⟨nk1, nk2⟩ := h.k1
  have old : ∀ j, j ≠ k1 → upd H k1 (some (.map KI (mdel (iv id) es1) c1)) j = H j := fun j h1 => by rw [upd_ne _ _ h1]
  refine ⟨by rw [old k nk1]; exact h.box, by rw [upd_same], h.ok1.del, fun i => ?_, by rw [old k2 h.n12.symm]; exact h.m2, h.ok2, h.get2, h.n12, h.gne, h.ginj, fun t k4 hk4 => ?_, fun t ht' i => ?_, fun i b hb => ?_⟩
  · rw [mget_mdel h.ok1 rfl rfl, keq_iv]
    by_cases hi : i = id
    · subst hi; simp [fdel]
    · simp [hi, fdel, h.get1]
  · obtain ⟨es4, c4, h4, h5, h6⟩ := h.tab t k4 hk4
    refine ⟨es4, c4, by rw [old k4 (h.gne _ _ hk4).1]; exact h4, h5, fun i => ?_⟩
    rw [h6, inTab_del]
    by_cases hi : i = id
    · subst hi; simp [ht t]
    · simp [hi]
  · rw [inTab_del, h.no t ht' i]; simp
  · unfold fdel at hb
    split at hb
    · cases hb
    · exact h.ss i b hb
theorem fput_fdel {id : Int} {b : Bx} : fput (fdel f id) id b = fput f id b := by
  funext i; unfold fput fdel; by_cases h : i = id <;> simp [h]
theorem get1_put (h : IdxAt H k k1 k2 es1 c1 es2 c2 g f) (id : Int) (b : Bx) (i : Int) : mget (iv i) (mset (iv id) (bxC .un b) c1 es1) = (fput f id b i).map (bxC .un) := by
  rw [mget_mset rfl rfl h.ok1.key, keq_iv]
  by_cases hi : i = id
  · subst hi; simp [fput]
  · simp [hi, fput, h.get1]
theorem ss_put (h : IdxAt H k k1 k2 es1 c1 es2 c2 g f) (id : Int) (b : Bx) (hb : b.ss.length ≤ 1000000) : ∀ i b', fput f id b i = some b' → b'.ss.length ≤ 1000000 := fun i b' h' => by
  unfold fput at h'
  split at h'
  · injection h' with h'; rw [← h']; exact hb
  · exact h.ss i b' h'
theorem IdxAt.put0 (h : IdxAt H k k1 k2 es1 c1 es2 c2 g f) (id : Int) (b : Bx) (hb : b.ss.length = 0) (hi0 : ∀ t, inTab f t id = false) :
    IdxAt (upd H k1 (some (.map KI (mset (iv id) (bxC .un b) c1 es1) (mclock (iv id) es1 c1)))) k k1 k2 (mset (iv id) (bxC .un b) c1 es1) (mclock (iv id) es1 c1) es2 c2 g (fput f id b) := by
  obtain ⟨nk1, nk2⟩ := h.k1
  have old : ∀ (x : Option AO) j, j ≠ k1 → upd H k1 x j = H j := fun x j h1 => by rw [upd_ne _ _ h1]
  have tb : ∀ t i, inTab (fput f id b) t i = inTab f t i := fun t i => by
    rw [inTab_put]
    by_cases hi : i = id
    · subst hi; simp [hb, hi0 t]
    · simp [hi]
  refine ⟨by rw [old _ k nk1]; exact h.box, upd_same _ _ _, h.ok1.set rfl, get1_put h id b, by rw [old _ k2 h.n12.symm]; exact h.m2, h.ok2, h.get2, h.n12, h.gne, h.ginj, fun t k4 hk4 => ?_, fun t ht i => by rw [tb]; exact h.no t ht i, ss_put h id b (by omega)⟩
  obtain ⟨es4, c4, h4, h5, h6⟩ := h.tab t k4 hk4
  exact ⟨es4, c4, by rw [old _ k4 (h.gne _ _ hk4).1]; exact h4, h5, fun i => by rw [h6, tb]⟩
theorem IdxAt.put1 (h : IdxAt H k k1 k2 es1 c1 es2 c2 g f) (id : Int) (b : Bx) (hb : b.ss.length ≠ 0) (hs : b.ss.length ≤ 1000000) (k3 : Nat) (es3 : List ME) (c3 : Nat) (hg : g b.tb = some k3) (h3 : H k3 = some (.map KI es3 c3)) (hi0 : ∀ t, inTab f t id = false) :
    IdxAt (upd (upd H k1 (some (.map KI (mset (iv id) (bxC .un b) c1 es1) (mclock (iv id) es1 c1)))) k3 (some (.map KI (mset (iv id) yes c3 es3) (mclock (iv id) es3 c3)))) k k1 k2 (mset (iv id) (bxC .un b) c1 es1) (mclock (iv id) es1 c1) es2 c2 g (fput f id b) := by
  obtain ⟨nk1, nk2⟩ := h.k1
  obtain ⟨n1, n2, n3⟩ := h.gne _ _ hg
  have old : ∀ (x y : Option AO) j, j ≠ k1 → j ≠ k3 → upd (upd H k1 x) k3 y j = H j := fun x y j h1 h2 => by rw [upd_ne _ _ h2, upd_ne _ _ h1]
  refine ⟨by rw [old _ _ k nk1 n3.symm]; exact h.box, by rw [upd_ne _ _ n1.symm, upd_same], h.ok1.set rfl, get1_put h id b, by rw [old _ _ k2 h.n12.symm n2.symm]; exact h.m2, h.ok2, h.get2, h.n12, h.gne, h.ginj, fun t k4 hk4 => ?_, fun t ht i => ?_, ss_put h id b hs⟩
  · obtain ⟨es4, c4, h4, h5, h6⟩ := h.tab t k4 hk4
    by_cases e : k4 = k3
    · subst e
      have := h.ginj _ _ _ hk4 hg
      subst this
      rw [h3] at h4; injection h4 with h4; injection h4 with _ e1 e2; subst e1 e2
      refine ⟨_, _, upd_same _ _ _, h5.set rfl, fun i => ?_⟩
      rw [mget_mset rfl rfl h5.key, keq_iv, inTab_put, h6]
      by_cases hi : i = id <;> simp [hi, hb]
    · refine ⟨es4, c4, by rw [old _ _ k4 (h.gne _ _ hk4).1 e]; exact h4, h5, fun i => ?_⟩
      rw [h6, inTab_put]
      by_cases hi : i = id
      · subst hi
        have : b.tb ≠ t := fun e1 => by subst e1; rw [hk4] at hg; injection hg with hg; exact e hg
        simp [hi0 t, this]
      · simp [hi]
  · rw [inTab_put]
    by_cases hi : i = id
    · have : b.tb ≠ t := fun e1 => by subst e1; rw [ht] at hg; cases hg
      simp [hi, this]
    · simp [hi, h.no t ht i]
/-- a table that is new -/
theorem IdxAt.newTab (h : IdxAt H k k1 k2 es1 c1 es2 c2 g f) (t0 : Int) (k3 : Nat) (hg : g t0 = none) (h3 : H k3 = none) :
    IdxAt (upd (upd H k3 (some (.map KI [] 0))) k2 (some (.map KI (mset (iv t0) (.a (.mp k3)) c2 es2) (mclock (iv t0) es2 c2)))) k k1 k2 es1 c1 (mset (iv t0) (.a (.mp k3)) c2 es2) (mclock (iv t0) es2 c2) (fun t => if t = t0 then some k3 else g t) f := by
  obtain ⟨nk1, nk2⟩ := h.k1
  have n31 : k3 ≠ k1 := fun e => by rw [e, h.m1] at h3; cases h3
  have n32 : k3 ≠ k2 := fun e => by rw [e, h.m2] at h3; cases h3
  have n3k : k3 ≠ k := fun e => by rw [e, h.box] at h3; cases h3
  have old : ∀ (x y : Option AO) j, j ≠ k3 → j ≠ k2 → upd (upd H k3 x) k2 y j = H j := fun x y j h1 h2 => by rw [upd_ne _ _ h2, upd_ne _ _ h1]
  have oldn : ∀ t k4, g t = some k4 → k4 ≠ k3 := fun t k4 hk4 e => by
    obtain ⟨_, _, h4, _⟩ := h.tab t k4 hk4
    rw [e, h3] at h4; cases h4
  refine ⟨by rw [old _ _ k n3k.symm nk2]; exact h.box, by rw [old _ _ k1 n31.symm h.n12]; exact h.m1, h.ok1, h.get1, upd_same _ _ _, h.ok2.set rfl, fun t => ?_, h.n12, fun t k4 hk4 => ?_, fun t t' k4 h4 h5 => ?_, fun t k4 hk4 => ?_, fun t ht i => ?_, h.ss⟩
  · rw [mget_mset rfl rfl h.ok2.key, keq_iv]
    by_cases e : t = t0 <;> simp [e, h.get2]
  · by_cases e : t = t0
    · rw [if_pos e] at hk4; injection hk4 with hk4; subst hk4; exact ⟨n31, n32, n3k⟩
    · rw [if_neg e] at hk4; exact h.gne t k4 hk4
  · by_cases e : t = t0 <;> by_cases e' : t' = t0
    · rw [e, e']
    · rw [if_pos e] at h4; rw [if_neg e'] at h5; injection h4 with h4; exact absurd h4.symm (oldn _ _ h5)
    · rw [if_neg e] at h4; rw [if_pos e'] at h5; injection h5 with h5; exact absurd h5.symm (oldn _ _ h4)
    · rw [if_neg e] at h4; rw [if_neg e'] at h5; exact h.ginj _ _ _ h4 h5
  · by_cases e : t = t0
    · rw [if_pos e] at hk4; injection hk4 with hk4; subst hk4
      exact ⟨[], 0, by rw [upd_ne _ _ n32, upd_same], .nil, fun i => by rw [e, h.no t0 hg i]; rfl⟩
    · rw [if_neg e] at hk4
      obtain ⟨es4, c4, h4, h5, h6⟩ := h.tab t k4 hk4
      exact ⟨es4, c4, by rw [old _ _ k4 (oldn _ _ hk4) (h.gne _ _ hk4).2.1]; exact h4, h5, h6⟩
  · by_cases e : t = t0
    · rw [if_pos e] at ht; cases ht
    · rw [if_neg e] at ht; exact h.no t ht i
end
end Go.Proofs.Ytojkjiakkcgfcaa.W
