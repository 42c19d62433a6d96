/- Maps: the operations. Plain theorems, for any program. -/
import Derived.Test.YtojkjiakkcgfcaaE14
namespace Go.Proofs.Ytojkjiakkcgfcaa.E
open Go.RowKit
set_option linter.unusedVariables false

section
variable {P : Program} {all : Array Oper} {o : Oper} {s s' : S} {K : S → Prop} {rest : List Oper}
/-- what a write leaves as it was -/
structure OneBlk (w w' : World) (b : Nat) : Prop where
  os : w'.os = w.os
  tape : w'.tape = w.tape
  output : w'.output = w.output
  size : w'.heap.size = w.heap.size
  blk : ∀ j, j ≠ b → w'.heap[j]? = w.heap[j]?
theorem OneBlk.setBlock (w : World) (b : Nat) (x : Obj) : OneBlk w (ChangeMaps.setBlock w b x) b :=
  ⟨rfl, rfl, rfl, by simp [ChangeMaps.setBlock], fun j hj => by simp [ChangeMaps.setBlock, Ne.symm hj]⟩
theorem setBlock_at {w : World} {b : Nat} {x : Obj} (h : b < w.heap.size) : (ChangeMaps.setBlock w b x).heap[b]? = some x := by simp [ChangeMaps.setBlock, h]
theorem put_run {a : Act} {w w' : World} {r : Next} {K : Act → World → Prop} (hdst : o.dst = none) (h : (execOp a.eval o).run P w = .ok r w') (hr : r = .skip ∨ ∃ v, r = .value v) (k : K a w') : o.wp P a w K (fun _ _ _ => False) := by
  unfold Oper.wp
  rw [h]
  rcases hr with rfl | ⟨v, rfl⟩
  · simpa [Oper.upon, hdst, Act.put] using k
  · simpa [Oper.upon, hdst, Act.put] using k
theorem h_put {k : Nat} {x x' : AO} (hdst : o.dst = none) (hH : s.H k = some x) (hx : ¬ x.empty)
    (h : ∀ (c : Ctx) (w : World) (a : Act) (b n : Nat), MemOk c w → c.β k = some (b, n) → ORep c w x b n → (∀ y, y ∈ o.op.operands → RepX c (s.eval y) (a.eval y)) → ∃ r w', (execOp a.eval o).run P w = .ok r w' ∧ (r = .skip ∨ ∃ v, r = .value v) ∧ OneBlk w w' b ∧ (∀ o, c.μ b o = none) ∧ ORep c w' x' b n) :
    LR P o (.h :: lk o) [.h] s (s.setOwn (.e k) x') := by
  refine ⟨(setOwn_t s (.e k) x').2, fun ℓ hℓ => ?_, fun s1 hl hs c a w g => ?_⟩
  · cases ℓ with
    | h => exact absurd (by simp) hℓ
    | _ => simp [Same, S.setOwn]
  have hHH : s1.H = s.H := hs .h (by simp)
  rw [over_H hHH]
  have hb : s1.own (.e k) = some x := Eq.trans (congrFun hHH k) hH
  obtain ⟨b, m, h1, h2⟩ := g.conc.obj (.e k) _ hb hx
  obtain ⟨r, w', h3, h4, h5, h6, h7⟩ := h c w a b m g.memOk h1 h2 fun u hu => by rw [← evs hs (fun _ h => List.mem_cons_of_mem _ h) hu]; exact g.eval u
  refine put_run hdst h3 h4 ⟨c, ?_⟩
  exact g.write (c' := c) (i := .e k) hb hx h1 h5.os h5.tape h5.output h5.size h5.blk rfl rfl (fun _ _ _ h => h) (fun _ _ _ h => .inl h) (fun o u h => by rw [h6 o] at h; cases h) h7
theorem l_put {d : Nat} {x x' : AO} (hdst : o.dst = none) (hL : s.L d = some x) (hx : ¬ x.empty)
    (h : ∀ (c : Ctx) (w : World) (a : Act), MemOk c w → ORep c w x (c.lam d).1 (c.lam d).2 → (∀ y, y ∈ o.op.operands → RepX c (s.eval y) (a.eval y)) → ∃ r w', (execOp a.eval o).run P w = .ok r w' ∧ (r = .skip ∨ ∃ v, r = .value v) ∧ OneBlk w w' (c.lam d).1 ∧ (∀ o, c.μ (c.lam d).1 o = none) ∧ ORep c w' x' (c.lam d).1 (c.lam d).2) :
    LR P o (.b d :: lk o) [.b d] s (s.setOwn (.l d) x') := by
  refine ⟨(setOwn_t s (.l d) x').2, fun ℓ hℓ => ?_, fun s1 hl hs c a w g => ?_⟩
  · cases ℓ with
    | b i =>
      have hi : i ≠ d := fun e => hℓ (by simp [e])
      simp [Same, S.setOwn, upd_ne _ _ hi]
    | _ => simp [Same, S.setOwn]
  rw [over_L]
  have hb : s1.own (.l d) = some x := Eq.trans (hs (.b d) (by simp)) hL
  obtain ⟨b, m, h1, h2⟩ := g.conc.obj (.l d) _ hb hx
  have hbm : c.lam d = (b, m) := by injection h1
  obtain ⟨r, w', h3, h4, h5, h6, h7⟩ := h c w a g.memOk (by rw [hbm]; exact h2) fun u hu => by rw [← evs hs (fun _ h => List.mem_cons_of_mem _ h) hu]; exact g.eval u
  rw [hbm] at h5 h6 h7
  refine put_run hdst h3 h4 ⟨c, ?_⟩
  exact g.write (c' := c) (i := .l d) hb hx h1 h5.os h5.tape h5.output h5.size h5.blk rfl rfl (fun _ _ _ h => h) (fun _ _ _ h => .inl h) (fun o u h => by rw [h6 o] at h; cases h) h7
theorem map_nomem {c : Ctx} {w : World} {b : Nat} {ents : Array MapEntry} {ck : Nat} (hm : MemOk c w) (hb : w.heap[b]? = some (.map ents ck)) (q : Nat) : c.μ b q = none := by
  cases h : c.μ b q with
  | none => rfl
  | some u => have := hm.mem b q u h; simp [World.cell?, hb] at this
/-- the value that a slot holds, where it is known to the bit -/
def litOf : List A → Option (List Value)
  | [] => some []
  | .t (.v u) :: r => (litOf r).map (u :: ·)
  | _ :: _ => none
def keyX : X → Option Value
  | .c (.a (.t (.v u))) => some u
  | .c (.g l) => (litOf l).map fun vs => .agg vs.toArray
  | _ => none
theorem litOf_rep {μ : Mem} {β : Pos} : ∀ {l : List A} {vs us : List Value}, litOf l = some vs → Reps (RepA μ β) l us → us = vs
  | [], vs, us, h, hr => by
    cases h
    exact List.eq_nil_of_length_eq_zero hr.1.symm
  | a :: l, vs, us, h, hr => by
    cases a with
    | t x => cases x with
      | v u =>
        simp only [litOf] at h
        obtain ⟨vs', h1, rfl⟩ := Option.map_eq_some_iff.1 h
        cases us with
        | nil => have := hr.1; simp at this
        | cons v us =>
          have h2 := hr.2 0 _ v rfl rfl
          have h3 := litOf_rep h1 (us := us) ⟨by simpa using hr.1, fun i x v h4 h5 => hr.2 (i + 1) x v h4 h5⟩
          cases h2 with | t h2 => cases h2; rw [h3]
      | sl z sz es => cases h
    | _ => cases h
theorem keyX_rep {c : Ctx} {x : X} {v u : Value} (h : RepX c x v) (hk : keyX x = some u) : v = u := by
  unfold keyX at hk
  split at hk
  · cases hk; exact rep_tv h
  · obtain ⟨vs, h1, rfl⟩ := Option.map_eq_some_iff.1 hk
    obtain ⟨us, h2, h3⟩ := h
    rw [h2, ← litOf_rep h1 h3]
  · cases hk
theorem constX_rep {c : Ctx} {u : Value} : RepX c (constX u) u := by
  cases u with
  | agg cs =>
    simp only [constX]
    split
    · rename_i hall
      refine ⟨cs, rfl, by simp, fun i x v h1 h2 => ?_⟩
      rw [List.getElem?_map, h2] at h1
      simp only [Option.map_some, Option.some.injEq] at h1
      subst h1
      exact .t (.v (List.all_eq_true.1 hall v (List.mem_of_getElem? h2)))
    · trivial
  | tuple => trivial
  | _ => exact RepA.t (.v rfl)
/-- what a look into a map yields -/
def lookX (m : Option C) (z : X) (ok : Bool) : X :=
  match ok, m, z with
  | false, some x, _ => .c x
  | false, none, .c z => .c z
  | true, some x, _ => .tup [x, .a (.t (.v (.bool true)))]
  | true, none, .c z => .tup [z, .a (.t (.v (.bool false)))]
  | _, _, _ => .any
theorem lookX_loc {m : Option C} {z : X} {ok : Bool} : (lookX m z ok).loc = none := by
  unfold lookX; split <;> rfl
theorem lookX_some {c : Ctx} {x : C} {z : X} {v : Value} {ok : Bool} (h : RepC c.μ c.β x v) : RepX c (lookX (some x) z ok) (if ok then .tuple #[v, .bool true] else v) := by
  cases ok with
  | false => exact h
  | true => exact ⟨_, rfl, .cons h (.cons (.t (.v rfl)) .nil)⟩
theorem lookX_none {c : Ctx} {z : Value} {ok : Bool} : RepX c (lookX none (constX z) ok) (if ok then .tuple #[z, .bool false] else z) := by
  have h := constX_rep (c := c) (u := z)
  generalize constX z = x at h
  cases x with
  | c x =>
    cases ok with
    | false => exact h
    | true => exact ⟨_, rfl, .cons h (.cons (.t (.v rfl)) .nil)⟩
  | _ => cases ok <;> trivial
section
variable {t kt et : TypeId} {x y z : Operand} {kk : KK} {es : List ME} {ck k d n : Nat} {kv zv : Value} {ok : Bool} {mo : Option C} {u : C}
theorem look_run (kl : KeyLaw P kt kk) (ho : o.op = .lookup t x y ok) (ht : P.underlying t = some (.map kt et)) (hz : zeroIs P et zv) (hy : keyX (s.eval y) = some kv) (hk : kok kk kv = true) (hm : mget kv es = mo)
    {c : Ctx} {w : World} {a : Act} {b : Nat} (hx : a.eval x = .map (some b)) (ho' : ∃ ents, w.heap[b]? = some (.map ents ck) ∧ MapRep c kk es ck ents) (hrep : ∀ y, y ∈ o.op.operands → RepX c (s.eval y) (a.eval y)) :
    ∃ v, (execOp a.eval o).run P w = .ok (.value v) w ∧ RepX c (lookX mo (constX zv) ok) v := by
  obtain ⟨ents, hb, hr⟩ := ho'
  have hkv := keyX_rep (hrep y (by rw [ho]; simp [Op.operands])) hy
  rcases hr.lookup hb ht kl hk hz ok with ⟨h1, h2⟩ | ⟨x', v, h1, h2, h3⟩
  · rw [h1] at hm; subst hm
    exact ⟨_, by simp [execOp, ho, hx, hkv, h2], lookX_none⟩
  · rw [h1] at hm; subst hm
    exact ⟨_, by simp [execOp, ho, hx, hkv, h3], lookX_some h2⟩
/-- a map with a name is looked into -/
theorem h_lookup (kl : KeyLaw P kt kk) (r : X) (ho : o.op = .lookup t x y ok) (ht : P.underlying t = some (.map kt et)) (hz : zeroIs P et zv) (hx : s.eval x = .c (.a (.mp k))) (hH : s.H k = some (.map kk es ck)) (hy : keyX (s.eval y) = some kv) (hk : kok kk kv = true) (hm : mget kv es = mo) (hr : lookX mo (constX zv) ok = r) (hd : inB o.dst s.n = true) :
    LR P o (.h :: lk o) (dstT o) s (s.put o.dst r) :=
  .q (pre := fun c w => ∃ b n, c.β k = some (b, n) ∧ ORep c w (.map kk es ck) b n) ⟨fun d e => by (rw [← hr, lookX_loc] at e; cases e), fun c w a hm' ⟨b, n, hb, hp⟩ hrep => by
    have h0 := hrep x (by rw [ho]; simp [Op.operands])
    rw [hx] at h0
    have hv : a.eval x = .map (some b) := by
      generalize a.eval x = v at h0
      cases h0 with | mp h => rw [hb] at h; cases h; rfl
    obtain ⟨v, h1, h2⟩ := look_run (s := s) kl ho ht hz hy hk hm hv hp hrep
    unfold Oper.wp
    rw [h1]
    exact ⟨v, c, rfl, by rw [← hr]; exact h2, .refl hm'⟩⟩ (fun ℓ h => by simp [lk, h]) hd
    fun s1 hs c a w g => by
      have hb : s1.H k = some (.map kk es ck) := Eq.trans (congrFun (hs .h (by simp)) k) hH
      exact g.conc.obj (.e k) _ hb (by simp [AO.empty])
theorem l_lookup (kl : KeyLaw P kt kk) (r : X) (ho : o.op = .lookup t x y ok) (ht : P.underlying t = some (.map kt et)) (hz : zeroIs P et zv) (hx : s.eval x = .lmp d) (hL : s.L d = some (.map kk es ck)) (hy : keyX (s.eval y) = some kv) (hk : kok kk kv = true) (hm : mget kv es = mo) (hr : lookX mo (constX zv) ok = r) (hd : inB o.dst s.n = true) :
    LR P o (.b d :: lk o) (dstT o) s (s.put o.dst r) :=
  .q (pre := fun c w => ORep c w (.map kk es ck) (c.lam d).1 (c.lam d).2) ⟨fun d e => by (rw [← hr, lookX_loc] at e; cases e), fun c w a hm' hp hrep => by
    have h0 := hrep x (by rw [ho]; simp [Op.operands])
    rw [hx] at h0
    obtain ⟨v, h1, h2⟩ := look_run (s := s) kl ho ht hz hy hk hm h0 hp hrep
    unfold Oper.wp
    rw [h1]
    exact ⟨v, c, rfl, by rw [← hr]; exact h2, .refl hm'⟩⟩ (fun ℓ h => by simp [lk, h]) hd
    fun s1 hs c a w g => by
      have hb : s1.L d = some (.map kk es ck) := Eq.trans (hs (.b d) (by simp)) hL
      obtain ⟨b, n, h1, h2⟩ := g.conc.obj (.l d) _ hb (by simp [AO.empty])
      injection h1 with h1
      rw [h1]; exact h2
theorem q_lookupN (kl : KeyLaw P kt kk) (r : X) (ho : o.op = .lookup t x y ok) (ht : P.underlying t = some (.map kt et)) (hz : zeroIs P et zv) (hx : s.eval x = tv (.map none)) (hy : keyX (s.eval y) = some kv) (hk : kok kk kv = true) (hr : lookX none (constX zv) ok = r) : QV P o s r :=
  .of_same (fun d e => by rw [← hr, lookX_loc] at e; cases e) fun c w a hm hrep => by
    have h0 := hrep x (by rw [ho]; simp [Op.operands])
    rw [hx] at h0
    have h0 := rep_tv h0
    have hkv := keyX_rep (hrep y (by rw [ho]; simp [Op.operands])) hy
    exact ⟨if ok then .tuple #[zv, .bool false] else zv, by simp [execOp, ho, h0, hkv, lookup_nil ht kl hk hz ok w], by rw [← hr]; exact lookX_none⟩
/-- .. and written -/
theorem h_mapUpdate (kl : KeyLaw P kt kk) (hdst : o.dst = none) (ho : o.op = .mapUpdate t x y z) (ht : P.underlying t = some (.map kt et)) (hx : s.eval x = .c (.a (.mp k))) (hH : s.H k = some (.map kk es ck)) (hy : keyX (s.eval y) = some kv) (hk : kok kk kv = true) (hz : s.eval z = .c u) :
    LR P o (.h :: lk o) [.h] s (s.setOwn (.e k) (.map kk (mset kv u ck es) (mclock kv es ck))) :=
  h_put hdst hH (by simp [AO.empty]) fun c w a b n hm hb ⟨ents, h1, h2⟩ hrep => by
    have h0 := hrep x (by rw [ho]; simp [Op.operands])
    rw [hx] at h0
    have hv : a.eval x = .map (some b) := by
      generalize a.eval x = v at h0
      cases h0 with | mp h => rw [hb] at h; cases h; rfl
    have hkv := keyX_rep (hrep y (by rw [ho]; simp [Op.operands])) hy
    have h3 := hrep z (by rw [ho]; simp [Op.operands])
    rw [hz] at h3
    obtain ⟨ents', h4, h5⟩ := h2.set h1 ht kl hk h3
    exact ⟨.skip, _, by simp [execOp, ho, hv, hkv, h4], .inl rfl, OneBlk.setBlock _ _ _, map_nomem hm h1, ents', setBlock_at (Array.getElem?_eq_some_iff.1 h1).1, h5⟩
theorem h_insert (kl : KeyLaw P kt kk) (hdst : o.dst = none) (ho : o.op = .insert t x y z) (ht : P.underlying t = some (.map kt et)) (hx : s.eval x = .c (.a (.mp k))) (hH : s.H k = some (.map kk es ck)) (hy : keyX (s.eval y) = some kv) (hk : kok kk kv = true) (hz : s.eval z = .c u) :
    LR P o (.h :: lk o) [.h] s (s.setOwn (.e k) (.map kk (mset kv u ck es) (mclock kv es ck))) :=
  h_put hdst hH (by simp [AO.empty]) fun c w a b n hm hb ⟨ents, h1, h2⟩ hrep => by
    have h0 := hrep x (by rw [ho]; simp [Op.operands])
    rw [hx] at h0
    have hv : a.eval x = .map (some b) := by
      generalize a.eval x = v at h0
      cases h0 with | mp h => rw [hb] at h; cases h; rfl
    have hkv := keyX_rep (hrep y (by rw [ho]; simp [Op.operands])) hy
    have h3 := hrep z (by rw [ho]; simp [Op.operands])
    rw [hz] at h3
    obtain ⟨ents', h4, h5⟩ := h2.set h1 ht kl hk h3
    exact ⟨.skip, _, by simp [execOp, ho, hv, hkv, h4], .inl rfl, OneBlk.setBlock _ _ _, map_nomem hm h1, ents', setBlock_at (Array.getElem?_eq_some_iff.1 h1).1, h5⟩
theorem l_mapUpdate (kl : KeyLaw P kt kk) (hdst : o.dst = none) (ho : o.op = .mapUpdate t x y z) (ht : P.underlying t = some (.map kt et)) (hx : s.eval x = .lmp d) (hL : s.L d = some (.map kk es ck)) (hy : keyX (s.eval y) = some kv) (hk : kok kk kv = true) (hz : s.eval z = .c u) :
    LR P o (.b d :: lk o) [.b d] s (s.setOwn (.l d) (.map kk (mset kv u ck es) (mclock kv es ck))) :=
  l_put hdst hL (by simp [AO.empty]) fun c w a hm ⟨ents, h1, h2⟩ hrep => by
    have h0 := hrep x (by rw [ho]; simp [Op.operands])
    rw [hx] at h0
    have hv : a.eval x = .map (some (c.lam d).1) := h0
    have hkv := keyX_rep (hrep y (by rw [ho]; simp [Op.operands])) hy
    have h3 := hrep z (by rw [ho]; simp [Op.operands])
    rw [hz] at h3
    obtain ⟨ents', h4, h5⟩ := h2.set h1 ht kl hk h3
    exact ⟨.skip, _, by simp [execOp, ho, hv, hkv, h4], .inl rfl, OneBlk.setBlock _ _ _, map_nomem hm h1, ents', setBlock_at (Array.getElem?_eq_some_iff.1 h1).1, h5⟩
theorem l_insert (kl : KeyLaw P kt kk) (hdst : o.dst = none) (ho : o.op = .insert t x y z) (ht : P.underlying t = some (.map kt et)) (hx : s.eval x = .lmp d) (hL : s.L d = some (.map kk es ck)) (hy : keyX (s.eval y) = some kv) (hk : kok kk kv = true) (hz : s.eval z = .c u) :
    LR P o (.b d :: lk o) [.b d] s (s.setOwn (.l d) (.map kk (mset kv u ck es) (mclock kv es ck))) :=
  l_put hdst hL (by simp [AO.empty]) fun c w a hm ⟨ents, h1, h2⟩ hrep => by
    have h0 := hrep x (by rw [ho]; simp [Op.operands])
    rw [hx] at h0
    have hv : a.eval x = .map (some (c.lam d).1) := h0
    have hkv := keyX_rep (hrep y (by rw [ho]; simp [Op.operands])) hy
    have h3 := hrep z (by rw [ho]; simp [Op.operands])
    rw [hz] at h3
    obtain ⟨ents', h4, h5⟩ := h2.set h1 ht kl hk h3
    exact ⟨.skip, _, by simp [execOp, ho, hv, hkv, h4], .inl rfl, OneBlk.setBlock _ _ _, map_nomem hm h1, ents', setBlock_at (Array.getElem?_eq_some_iff.1 h1).1, h5⟩
theorem h_delete (kl : KeyLaw P kt kk) (hdst : o.dst = none) (ho : o.op = .call { callee := .builtin .delete, args := #[x, y], argTypes := #[t, kt] }) (ht : P.underlying t = some (.map kt et)) (hx : s.eval x = .c (.a (.mp k))) (hH : s.H k = some (.map kk es ck)) (hy : keyX (s.eval y) = some kv) (hk : kok kk kv = true) :
    LR P o (.h :: lk o) [.h] s (s.setOwn (.e k) (.map kk (mdel kv es) ck)) :=
  h_put hdst hH (by simp [AO.empty]) fun c w a b n hm hb ⟨ents, h1, h2⟩ hrep => by
    have h0 := hrep x (by rw [ho]; simp [Op.operands, Call.operands])
    rw [hx] at h0
    have hv : a.eval x = .map (some b) := by
      generalize a.eval x = v at h0
      cases h0 with | mp h => rw [hb] at h; cases h; rfl
    have hkv := keyX_rep (hrep y (by rw [ho]; simp [Op.operands, Call.operands])) hy
    obtain ⟨ents', h4, h5⟩ := h2.del h1 ht kl hk o.type
    exact ⟨.value (.tuple #[]), _, by simp [execOp, ho, hv, hkv, resolve, invoke, builtin, h4], .inr ⟨_, rfl⟩, OneBlk.setBlock _ _ _, map_nomem hm h1, ents', setBlock_at (Array.getElem?_eq_some_iff.1 h1).1, h5⟩
/-- delete from a map that is nil -/
theorem q_deleteN (kl : KeyLaw P kt kk) (ho : o.op = .call { callee := .builtin .delete, args := #[x, y], argTypes := #[t, kt] }) (ht : P.underlying t = some (.map kt et)) (hx : s.eval x = tv (.map none)) (hy : keyX (s.eval y) = some kv) (hk : kok kk kv = true) : QV P o s .any :=
  .of_same (fun _ h => by cases h) fun c w a hm hrep => by
    have h0 := hrep x (by rw [ho]; simp [Op.operands, Call.operands])
    rw [hx] at h0
    have h0 := rep_tv h0
    have hkv := keyX_rep (hrep y (by rw [ho]; simp [Op.operands, Call.operands])) hy
    exact ⟨.tuple #[], by simp [execOp, ho, h0, hkv, resolve, invoke, builtin, Builtin.delete_, run_underlying ht, kl.check kv true w hk], trivial⟩
theorem h_lenM (ho : o.op = .call { callee := .builtin .len, args := #[x], argTypes := #[t] }) (ht : P.underlying t = some (.map kt et)) (hx : s.eval x = .c (.a (.mp k))) (hH : s.H k = some (.map kk es ck)) (hd : inB o.dst s.n = true) :
    LR P o (.h :: lk o) (dstT o) s (s.put o.dst (iX .i64 (es.length : Nat))) :=
  .q (pre := fun c w => ∃ b n, c.β k = some (b, n) ∧ ORep c w (.map kk es ck) b n) (.of_same (fun _ => nolp) fun c w a hm' ⟨b, n, hb, ents, h1, h2⟩ hrep => by
    have h0 := hrep x (by rw [ho]; simp [Op.operands, Call.operands])
    rw [hx] at h0
    have hv : a.eval x = .map (some b) := by
      generalize a.eval x = v at h0
      cases h0 with | mp h => rw [hb] at h; cases h; rfl
    refine ⟨.int .i64 (es.length : Nat), ?_, tv_rep rfl⟩
    simp [execOp, ho, hv, resolve, invoke, builtin, Builtin.len_, run_underlying ht, MapKept.run_getObj_map h1, goInt, h2.len]) (fun ℓ h => by simp [lk, h]) hd
    fun s1 hs c a w g => by
      have hb : s1.H k = some (.map kk es ck) := Eq.trans (congrFun (hs .h (by simp)) k) hH
      exact g.conc.obj (.e k) _ hb (by simp [AO.empty])
end
end
end Go.Proofs.Ytojkjiakkcgfcaa.E
