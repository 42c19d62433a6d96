/- Steps of a region that draws, in an order of the proof's own; operations whose result is one of several. Plain theorems, for any program. -/
import Derived.Test.YtojkjiakkcgfcaaE33
namespace Go.Proofs.Ytojkjiakkcgfcaa.E
open Go.RowKit
set_option linter.unusedVariables false
section
variable {P : Program} {all : Array Oper} {o : Oper} {s s' : S} {K : S → Prop} {rest : List Nat} {hs : List Hi} {R W : List Loc} {j d n : Nat} {t : Nat → X} {L : Nat → Option AO} {H : Heap} {x : X}
theorem LexO.nil (h : okO all hs = true) (k : K s) : LexO P all K [] s hs := ⟨h, k⟩
theorem LexO.cons (hj : all[j]? = some o) (ha : aheadO all (hs.map (·.1)) j = true) (h : LOp P all o R W s s') (k : LexO P all K rest s' (hs ++ [(j, (R, W))])) : LexO P all K (j :: rest) s hs := ⟨ha, o, hj, .inl ⟨R, W, s', h, k⟩⟩
theorem LexO.nop (hj : all[j]? = some o) (ha : aheadO all (hs.map (·.1)) j = true) (hx : okX all j rest = true) (hok : okO all (hs ++ [(j, (R, W))]) = true) (h : NOp P all o R W s fun s' => LexO P all K rest s' (hs ++ [(j, (R, W))])) : LexO P all K (j :: rest) s hs := ⟨ha, o, hj, .inr ⟨hx, R, W, hok, h⟩⟩
theorem LexO.q (hj : all[j]? = some o) (ha : aheadO all (hs.map (·.1)) j = true) (h : QV P o ⟨n, t, L, H⟩ x) (hg : o.guard = none) (hdst : o.dst = some d) (hd : Nat.blt d n = true) (k : LexO P all K rest ⟨n, upd t d x, L, H⟩ (hs ++ [(j, (lookT all o, dstT o))])) : LexO P all K (j :: rest) ⟨n, t, L, H⟩ hs :=
  .cons hj ha (.q h hg (inb' hdst hd)) (by rw [hdst]; exact k)
theorem LexO.q0 (hj : all[j]? = some o) (ha : aheadO all (hs.map (·.1)) j = true) (h : QV P o s x) (hg : o.guard = none) (hdst : o.dst = none) (k : LexO P all K rest s (hs ++ [(j, (lookT all o, dstT o))])) : LexO P all K (j :: rest) s hs := .cons hj ha (.q0 h hg hdst) k
theorem LexO.on {i i' : Nat} {b : Bool} (hj : all[j]? = some o) (ha : aheadO all (hs.map (·.1)) j = true) (h : QV P o ⟨n, t, L, H⟩ x) (hg : o.guard = some (i', b)) (hi : (all[i']?).bind (·.dst) = some i) (hb : t i = tv (.bool b)) (hdst : o.dst = some d) (hd : Nat.blt d n = true) (k : LexO P all K rest ⟨n, upd t d x, L, H⟩ (hs ++ [(j, (lookT all o, dstT o))])) : LexO P all K (j :: rest) ⟨n, t, L, H⟩ hs :=
  .cons hj ha (.on h hg hi hb (inb' hdst hd)) (by rw [hdst]; exact k)
theorem LexO.off {i i' : Nat} {b b' : Bool} (hj : all[j]? = some o) (ha : aheadO all (hs.map (·.1)) j = true) (hg : o.guard = some (i', b)) (hi : (all[i']?).bind (·.dst) = some i) (hb : t i = tv (.bool b')) (hne : (b' == b) = false) (hdst : o.dst = some d) (hd : Nat.blt d n = true) (k : LexO P all K rest ⟨n, upd t d (.tup []), L, H⟩ (hs ++ [(j, (lookT all o, dstT o))])) : LexO P all K (j :: rest) ⟨n, t, L, H⟩ hs :=
  .cons hj ha (.off hg hi hb (fun e => by subst e; simp at hne) (inb' hdst hd)) (by rw [hdst]; exact k)
theorem LexO.offU {i i' : Nat} {b : Bool} (hj : all[j]? = some o) (ha : aheadO all (hs.map (·.1)) j = true) (hg : o.guard = some (i', b)) (hi : (all[i']?).bind (·.dst) = some i) (hb : t i = .tup []) (hdst : o.dst = some d) (hd : Nat.blt d n = true) (k : LexO P all K rest ⟨n, upd t d (.tup []), L, H⟩ (hs ++ [(j, (lookT all o, dstT o))])) : LexO P all K (j :: rest) ⟨n, t, L, H⟩ hs :=
  .cons hj ha (.offU hg hi hb (inb' hdst hd)) (by rw [hdst]; exact k)
theorem LexO.r {s' : S} (hj : all[j]? = some o) (ha : aheadO all (hs.map (·.1)) j = true) (h : LR P o R W ⟨n, t, L, H⟩ s') (hg : o.guard = none) (k : LexO P all K rest s' (hs ++ [(j, (R, W))])) : LexO P all K (j :: rest) ⟨n, t, L, H⟩ hs := .cons hj ha (.r h hg) k
theorem LexO.rOn {s' : S} {i i' : Nat} {b : Bool} (hj : all[j]? = some o) (ha : aheadO all (hs.map (·.1)) j = true) (h : LR P o R W ⟨n, t, L, H⟩ s') (hg : o.guard = some (i', b)) (hi : (all[i']?).bind (·.dst) = some i) (hb : t i = tv (.bool b)) (k : LexO P all K rest s' (hs ++ [(j, (.t i :: R, W))])) : LexO P all K (j :: rest) ⟨n, t, L, H⟩ hs := .cons hj ha (.rOn h hg hi hb) k
theorem LexO.consD {q : Prop} [Decidable q] {e : Option Nat} (hj : all[j]? = some o) (ha : aheadO all (hs.map (·.1)) j = true) (h : LOp P all o R W s (s.put e (bX (decide q)))) (ht : q → LexO P all K rest (s.put e (bX true)) (hs ++ [(j, (R, W))])) (he : ¬ q → LexO P all K rest (s.put e (bX false)) (hs ++ [(j, (R, W))])) : LexO P all K (j :: rest) s hs := by
  by_cases hq : q
  · rw [decide_eq_true hq] at h; exact .cons hj ha h (ht hq)
  · rw [decide_eq_false hq] at h; exact .cons hj ha h (he hq)
theorem LexO.consB {b : Bool} {e : Option Nat} (hj : all[j]? = some o) (ha : aheadO all (hs.map (·.1)) j = true) (h : LOp P all o R W s (s.put e (bX b))) (ht : b = true → LexO P all K rest (s.put e (bX true)) (hs ++ [(j, (R, W))])) (he : b = false → LexO P all K rest (s.put e (bX false)) (hs ++ [(j, (R, W))])) : LexO P all K (j :: rest) s hs := by
  cases b
  · exact .cons hj ha h (he rfl)
  · exact .cons hj ha h (ht rfl)
theorem LexO.qD {q : Prop} [Decidable q] (hj : all[j]? = some o) (ha : aheadO all (hs.map (·.1)) j = true) (h : QV P o ⟨n, t, L, H⟩ (bX (decide q))) (hg : o.guard = none) (hdst : o.dst = some d) (hd : Nat.blt d n = true) (ht : q → LexO P all K rest ⟨n, upd t d (bX true), L, H⟩ (hs ++ [(j, (lookT all o, dstT o))])) (he : ¬ q → LexO P all K rest ⟨n, upd t d (bX false), L, H⟩ (hs ++ [(j, (lookT all o, dstT o))])) : LexO P all K (j :: rest) ⟨n, t, L, H⟩ hs :=
  LexO.consD hj ha (.q h hg (inb' hdst hd)) (fun hq => by rw [hdst]; exact ht hq) (fun hq => by rw [hdst]; exact he hq)
theorem LexO.qB {b : Bool} (hj : all[j]? = some o) (ha : aheadO all (hs.map (·.1)) j = true) (h : QV P o ⟨n, t, L, H⟩ (bX b)) (hg : o.guard = none) (hdst : o.dst = some d) (hd : Nat.blt d n = true) (ht : b = true → LexO P all K rest ⟨n, upd t d (bX true), L, H⟩ (hs ++ [(j, (lookT all o, dstT o))])) (he : b = false → LexO P all K rest ⟨n, upd t d (bX false), L, H⟩ (hs ++ [(j, (lookT all o, dstT o))])) : LexO P all K (j :: rest) ⟨n, t, L, H⟩ hs :=
  LexO.consB hj ha (.q h hg (inb' hdst hd)) (fun hq => by rw [hdst]; exact ht hq) (fun hq => by rw [hdst]; exact he hq)
theorem LexO.onD {i i' : Nat} {b : Bool} {q : Prop} [Decidable q] (hj : all[j]? = some o) (ha : aheadO all (hs.map (·.1)) j = true) (h : QV P o ⟨n, t, L, H⟩ (bX (decide q))) (hg : o.guard = some (i', b)) (hi : (all[i']?).bind (·.dst) = some i) (hb : t i = tv (.bool b)) (hdst : o.dst = some d) (hd : Nat.blt d n = true) (ht : q → LexO P all K rest ⟨n, upd t d (bX true), L, H⟩ (hs ++ [(j, (lookT all o, dstT o))])) (he : ¬ q → LexO P all K rest ⟨n, upd t d (bX false), L, H⟩ (hs ++ [(j, (lookT all o, dstT o))])) : LexO P all K (j :: rest) ⟨n, t, L, H⟩ hs :=
  LexO.consD hj ha (.on h hg hi hb (inb' hdst hd)) (fun hq => by rw [hdst]; exact ht hq) (fun hq => by rw [hdst]; exact he hq)
theorem LexO.onB {i i' : Nat} {b c : Bool} (hj : all[j]? = some o) (ha : aheadO all (hs.map (·.1)) j = true) (h : QV P o ⟨n, t, L, H⟩ (bX c)) (hg : o.guard = some (i', b)) (hi : (all[i']?).bind (·.dst) = some i) (hb : t i = tv (.bool b)) (hdst : o.dst = some d) (hd : Nat.blt d n = true) (ht : c = true → LexO P all K rest ⟨n, upd t d (bX true), L, H⟩ (hs ++ [(j, (lookT all o, dstT o))])) (he : c = false → LexO P all K rest ⟨n, upd t d (bX false), L, H⟩ (hs ++ [(j, (lookT all o, dstT o))])) : LexO P all K (j :: rest) ⟨n, t, L, H⟩ hs :=
  LexO.consB hj ha (.on h hg hi hb (inb' hdst hd)) (fun hq => by rw [hdst]; exact ht hq) (fun hq => by rw [hdst]; exact he hq)
/-! ### one of several results -/
/-- whatever state agrees with s where the operation looks: a value in its slot, and the objects turned, as Q says -/
def EOp (P : Program) (all : Array Oper) (o : Oper) (R : List Loc) (d : Nat) (s : S) (Q : X → Heap → Prop) : Prop :=
  ∀ s1, Len s1 s → (∀ ℓ, ℓ ∈ R → Same ℓ s1 s) → OpW P all o (fun s2 => ∃ x H', Q x H' ∧ s2 = ⟨s1.n, upd s1.t d x, s1.L, H'⟩) s1
theorem NOp.e {Q : X → Heap → Prop} (h : EOp P all o R d ⟨n, t, L, H⟩ Q) (k : ∀ x H', Q x H' → K ⟨n, upd t d x, L, H'⟩) : NOp P all o R [.t d, .h] ⟨n, t, L, H⟩ K := fun s1 hl hs => (h s1 hl hs).mono fun s2 ⟨x, H', q, e⟩ => by
  refine ⟨⟨n, upd t d x, L, H'⟩, rfl, fun ℓ hℓ => ?_, ?_, k x H' q⟩
  · cases ℓ with
    | t i =>
      have h : i ≠ d := fun e => hℓ (by simp [e])
      simp [Same, upd_ne _ _ h]
    | b i => rfl
    | h => exact absurd (by simp) hℓ
  · subst e
    refine S.ext' rfl fun ℓ => ?_
    cases ℓ with
    | t i =>
      by_cases h : i = d
      · subst h; simp [Same, S.over, upd_same]
      · simp [Same, S.over, upd_ne _ _ h, h]
    | b i => simp [Same, S.over]
    | h => simp [Same, S.over]
/-- a value alone -/
def VOp (P : Program) (all : Array Oper) (o : Oper) (R : List Loc) (d : Nat) (s : S) (Q : X → Prop) : Prop :=
  ∀ s1, Len s1 s → (∀ ℓ, ℓ ∈ R → Same ℓ s1 s) → OpW P all o (fun s2 => ∃ x, Q x ∧ s2 = ⟨s1.n, upd s1.t d x, s1.L, s1.H⟩) s1
theorem NOp.v {Q : X → Prop} (h : VOp P all o R d ⟨n, t, L, H⟩ Q) (k : ∀ x, Q x → K ⟨n, upd t d x, L, H⟩) : NOp P all o R [.t d] ⟨n, t, L, H⟩ K := fun s1 hl hs => (h s1 hl hs).mono fun s2 ⟨x, q, e⟩ => by
  refine ⟨⟨n, upd t d x, L, H⟩, rfl, fun ℓ hℓ => ?_, ?_, k x q⟩
  · cases ℓ with
    | t i =>
      have h : i ≠ d := fun e => hℓ (by simp [e])
      simp [Same, upd_ne _ _ h]
    | b i => rfl
    | h => rfl
  · subst e
    refine S.ext' rfl fun ℓ => ?_
    cases ℓ with
    | t i =>
      by_cases h : i = d
      · subst h; simp [Same, S.over, upd_same]
      · simp [Same, S.over, upd_ne _ _ h, h]
    | b i => simp [Same, S.over]
    | h => simp [Same, S.over]
theorem evO {s1 s : S} (hs : ∀ ℓ, ℓ ∈ Loc.h :: lk o → Same ℓ s1 s) {y : Operand} (hy : y ∈ o.op.operands) : s1.eval y = s.eval y := evs hs (fun _ h => List.mem_cons_of_mem _ h) hy
theorem argsX_same {s1 s : S} : ∀ {l : List Operand}, (∀ y ∈ l, s1.eval y = s.eval y) → argsX s1 l = argsX s l
  | [], _ => rfl
  | y :: l, h => by
    have h1 := h y (by simp)
    have h2 := argsX_same (s1 := s1) (s := s) (l := l) fun z hz => h z (List.mem_cons_of_mem _ hz)
    simp only [argsX, h1, h2]
theorem elemsX_same {s1 s : S} {sz : Nat} : ∀ {l : List (Nat × Operand)} {k : Nat}, (∀ p ∈ l, s1.eval p.2 = s.eval p.2) → elemsX s1 sz k l = elemsX s sz k l
  | [], k, _ => rfl
  | (i, y) :: l, k, h => by
    have h1 := h (i, y) (by simp)
    have h2 := elemsX_same (s1 := s1) (s := s) (sz := sz) (l := l) (k := k + 1) fun z hz => h z (List.mem_cons_of_mem _ hz)
    simp only at h1
    simp only [elemsX, h1, h2]
/-- .. from a rule for each state of that kind -/
theorem EOp.of {Q : X → Heap → Prop} (h : ∀ (t1 : Nat → X) (L1 : Nat → Option AO), (∀ y, y ∈ o.op.operands → S.eval ⟨n, t1, L1, H⟩ y = S.eval ⟨n, t, L, H⟩ y) → OpW P all o (fun s2 => ∃ x H', Q x H' ∧ s2 = ⟨n, upd t1 d x, L1, H'⟩) ⟨n, t1, L1, H⟩) : EOp P all o (.h :: lk o) d ⟨n, t, L, H⟩ Q := by
  intro s1 hl hs
  obtain ⟨n1, t1, L1, H1⟩ := s1
  have e1 : n1 = n := hl
  have e2 : H1 = H := hs .h (by simp)
  subst e1 e2
  exact h t1 L1 fun y hy => evO hs hy
theorem VOp.of {Q : X → Prop} (h : ∀ (t1 : Nat → X) (L1 : Nat → Option AO), (∀ y, y ∈ o.op.operands → S.eval ⟨n, t1, L1, H⟩ y = S.eval ⟨n, t, L, H⟩ y) → OpW P all o (fun s2 => ∃ x, Q x ∧ s2 = ⟨n, upd t1 d x, L1, H⟩) ⟨n, t1, L1, H⟩) : VOp P all o (.h :: lk o) d ⟨n, t, L, H⟩ Q := by
  intro s1 hl hs
  obtain ⟨n1, t1, L1, H1⟩ := s1
  have e1 : n1 = n := hl
  have e2 : H1 = H := hs .h (by simp)
  subst e1 e2
  exact h t1 L1 fun y hy => evO hs hy
abbrev fpE (o : Oper) (d : Nat) : Fp := (.h :: lk o, [.t d, .h])
theorem LexO.e {Q : X → Heap → Prop} (hj : all[j]? = some o) (ha : aheadO all (hs.map (·.1)) j = true) (hx : okX all j rest = true) (hok : okO all (hs ++ [(j, fpE o d)]) = true) (h : EOp P all o (.h :: lk o) d ⟨n, t, L, H⟩ Q) (k : ∀ x H', Q x H' → LexO P all K rest ⟨n, upd t d x, L, H'⟩ (hs ++ [(j, fpE o d)])) : LexO P all K (j :: rest) ⟨n, t, L, H⟩ hs :=
  .nop hj ha hx hok (.e h k)
variable {x0 y : Operand} {tt e : TypeId} {sz bytes k m : Nat} {z : Nz} {cells r : List A} {es es' : List (List T)} {H0 : Heap} {c : C}
theorem LexO.newBox (hj : all[j]? = some o) (ha : aheadO all (hs.map (·.1)) j = true) (hx : okX all j rest = true) (hok : okO all (hs ++ [(j, fpE o d)]) = true) (ho : o.op = .box e y) (hg : o.guard = none) (hdst : o.dst = some d) (hy : S.eval ⟨n, t, L, H⟩ y = .c c) (hr : c.cells = r) (hd : Nat.blt d n = true)
    (k : ∀ k, H k = none → LexO P all K rest ⟨n, upd t d (.c (.a (.bp k 0))), L, upd H k (some (.box r))⟩ (hs ++ [(j, fpE o d)])) : LexO P all K (j :: rest) ⟨n, t, L, H⟩ hs :=
  .e (Q := fun x H' => ∃ k, H k = none ∧ x = .c (.a (.bp k 0)) ∧ H' = upd H k (some (.box r))) hj ha hx hok (.of fun t1 L1 ev => e_box r hg ho (by rw [ev y (by rw [ho]; simp [Op.operands])]; exact hy) hr (inb' hdst hd) fun k' hk' => ⟨_, _, ⟨k', hk', rfl, rfl⟩, by rw [hdst]; rfl⟩) fun x H' ⟨k', h1, h2, h3⟩ => by subst h2 h3; exact k k' h1
theorem LexO.newAlloc {zv : Value} (hj : all[j]? = some o) (ha : aheadO all (hs.map (·.1)) j = true) (hx : okX all j rest = true) (hok : okO all (hs ++ [(j, fpE o d)]) = true) (ho : o.op = .alloc e) (hg : o.guard = none) (hdst : o.dst = some d) (hz : zeroIs P e zv) (h1 : zv.cells.toList.all Value.oneCell' = true) (hr : zv.cells.toList.map litA = r) (hd : Nat.blt d n = true)
    (k : ∀ k, H k = none → LexO P all K rest ⟨n, upd t d (.c (.a (.bp k 0))), L, upd H k (some (.box r))⟩ (hs ++ [(j, fpE o d)])) : LexO P all K (j :: rest) ⟨n, t, L, H⟩ hs :=
  .e (Q := fun x H' => ∃ k, H k = none ∧ x = .c (.a (.bp k 0)) ∧ H' = upd H k (some (.box r))) hj ha hx hok (.of fun t1 L1 ev => e_alloc r hg ho hz h1 hr (inb' hdst hd) fun k' hk' => ⟨_, _, ⟨k', hk', rfl, rfl⟩, by rw [hdst]; rfl⟩) fun x H' ⟨k', h1, h2, h3⟩ => by subst h2 h3; exact k k' h1
theorem LexO.newMap (kk : KK) (hj : all[j]? = some o) (ha : aheadO all (hs.map (·.1)) j = true) (hx : okX all j rest = true) (hok : okO all (hs ++ [(j, fpE o d)]) = true) (ho : o.op = .makeMap e none) (hg : o.guard = none) (hdst : o.dst = some d) (hd : Nat.blt d n = true)
    (k : ∀ k, H k = none → LexO P all K rest ⟨n, upd t d (.c (.a (.mp k))), L, upd H k (some (.map kk [] 0))⟩ (hs ++ [(j, fpE o d)])) : LexO P all K (j :: rest) ⟨n, t, L, H⟩ hs :=
  .e (Q := fun x H' => ∃ k, H k = none ∧ x = .c (.a (.mp k)) ∧ H' = upd H k (some (.map kk [] 0))) hj ha hx hok (.of fun t1 L1 ev => e_makeMap kk hg ho (inb' hdst hd) fun k' hk' => ⟨_, _, ⟨k', hk', rfl, rfl⟩, by rw [hdst]; rfl⟩) fun x H' ⟨k', h1, h2, h3⟩ => by subst h2 h3; exact k k' h1
theorem LexO.app (hj : all[j]? = some o) (ha : aheadO all (hs.map (·.1)) j = true) (hok1 : okX all j rest = true) (hok : okO all (hs ++ [(j, fpE o d)]) = true) (hg : o.guard = none) (ho : o.op = .call { callee := .builtin .append, args := #[x0, y], argTypes := #[tt, tt] }) (ty : elB P tt e sz bytes = true) (hx : S.eval ⟨n, t, L, H⟩ x0 = .c (.a (.ts k z sz es))) (hH : H k = some (.tip e sz es.length)) (hy : srcX (S.eval ⟨n, t, L, H⟩ y) = some (es', sz)) (hb : (es.length + es'.length) * bytes ≤ 140737488355328 ∧ es.length + es'.length ≤ 9223372036854775807) (hdst : o.dst = some d) (hd : Nat.blt d n = true)
    (hk : ∀ k', H k' = none → LexO P all K rest ⟨n, upd t d (.c (.a (.ts k' z sz (es ++ es')))), L, upd (upd H k none) k' (some (.tip e sz (es ++ es').length))⟩ (hs ++ [(j, fpE o d)])) : LexO P all K (j :: rest) ⟨n, t, L, H⟩ hs :=
  .e (Q := fun x H' => ∃ k', H k' = none ∧ x = .c (.a (.ts k' z sz (es ++ es'))) ∧ H' = upd (upd H k none) k' (some (.tip e sz (es ++ es').length))) hj ha hok1 hok (.of fun t1 L1 ev => e_app hg ho ty (by rw [ev x0 (by rw [ho]; simp [Op.operands, Call.operands])]; exact hx) hH (by rw [ev y (by rw [ho]; simp [Op.operands, Call.operands])]; exact hy) hb hdst hd fun k' hk' => ⟨_, _, ⟨k', hk', rfl, rfl⟩, rfl⟩) fun x H' ⟨k', h1, h2, h3⟩ => by subst h2 h3; exact hk k' h1
theorem LexO.app1 (hj : all[j]? = some o) (ha : aheadO all (hs.map (·.1)) j = true) (hok1 : okX all j rest = true) (hok : okO all (hs ++ [(j, fpE o d)]) = true) (hg : o.guard = none) (h0 : H0 k = none) (ho : o.op = .call { callee := .builtin .append, args := #[x0, y], argTypes := #[tt, tt] }) (ty : elB P tt e sz bytes = true) (hx : S.eval ⟨n, t, L, upd H0 k (some (.tip e sz es.length))⟩ x0 = .c (.a (.ts k z sz es))) (hy : srcX (S.eval ⟨n, t, L, upd H0 k (some (.tip e sz es.length))⟩ y) = some (es', sz)) (hb : (es.length + es'.length) * bytes ≤ 140737488355328 ∧ es.length + es'.length ≤ 9223372036854775807) (hdst : o.dst = some d) (hd : Nat.blt d n = true)
    (hk : ∀ k', H0 k' = none → LexO P all K rest ⟨n, upd t d (.c (.a (.ts k' z sz (es ++ es')))), L, upd H0 k' (some (.tip e sz (es ++ es').length))⟩ (hs ++ [(j, fpE o d)])) : LexO P all K (j :: rest) ⟨n, t, L, upd H0 k (some (.tip e sz es.length))⟩ hs :=
  .app hj ha hok1 hok hg ho ty hx (upd_same _ _ _) hy hb hdst hd fun k' h' => by rw [upd_back h0]; exact hk k' (upd_lt h').2
theorem LexO.appR (hj : all[j]? = some o) (ha : aheadO all (hs.map (·.1)) j = true) (hok1 : okX all j rest = true) (hok : okO all (hs ++ [(j, fpE o d)]) = true) (hg : o.guard = none) (ho : o.op = .call { callee := .builtin .append, args := #[x0, y], argTypes := #[tt, tt] }) (ty : elB P tt e sz bytes = true) (hx : S.eval ⟨n, t, L, H⟩ x0 = .c (.a (.os k 0 m sz))) (hH : H k = some (.row e sz cells)) (hm : cells.length = m * sz) (hy : srcX (S.eval ⟨n, t, L, H⟩ y) = some (es', sz)) (hb : (m + es'.length) * bytes ≤ 140737488355328 ∧ m + es'.length ≤ 9223372036854775807) (hdst : o.dst = some d) (hd : Nat.blt d n = true)
    (hk : ∀ k', H k' = none → LexO P all K rest ⟨n, upd t d (.c (.a (.os k' 0 (m + es'.length) sz))), L, upd (upd H k none) k' (some (.row e sz (cells ++ es'.flatten.map .t)))⟩ (hs ++ [(j, fpE o d)])) : LexO P all K (j :: rest) ⟨n, t, L, H⟩ hs :=
  .e (Q := fun x H' => ∃ k', H k' = none ∧ x = .c (.a (.os k' 0 (m + es'.length) sz)) ∧ H' = upd (upd H k none) k' (some (.row e sz (cells ++ es'.flatten.map .t)))) hj ha hok1 hok (.of fun t1 L1 ev => e_appR hg ho ty (by rw [ev x0 (by rw [ho]; simp [Op.operands, Call.operands])]; exact hx) hH hm (by rw [ev y (by rw [ho]; simp [Op.operands, Call.operands])]; exact hy) hb hdst hd fun k' hk' => ⟨_, _, ⟨k', hk', rfl, rfl⟩, rfl⟩) fun x H' ⟨k', h1, h2, h3⟩ => by subst h2 h3; exact hk k' h1
theorem LexO.appR1 (hj : all[j]? = some o) (ha : aheadO all (hs.map (·.1)) j = true) (hok1 : okX all j rest = true) (hok : okO all (hs ++ [(j, fpE o d)]) = true) (hg : o.guard = none) (h0 : H0 k = none) (ho : o.op = .call { callee := .builtin .append, args := #[x0, y], argTypes := #[tt, tt] }) (ty : elB P tt e sz bytes = true) (hx : S.eval ⟨n, t, L, upd H0 k (some (.row e sz cells))⟩ x0 = .c (.a (.os k 0 m sz))) (hm : cells.length = m * sz) (hy : srcX (S.eval ⟨n, t, L, upd H0 k (some (.row e sz cells))⟩ y) = some (es', sz)) (hb : (m + es'.length) * bytes ≤ 140737488355328 ∧ m + es'.length ≤ 9223372036854775807) (hdst : o.dst = some d) (hd : Nat.blt d n = true)
    (hk : ∀ k', H0 k' = none → LexO P all K rest ⟨n, upd t d (.c (.a (.os k' 0 (m + es'.length) sz))), L, upd H0 k' (some (.row e sz (cells ++ es'.flatten.map .t)))⟩ (hs ++ [(j, fpE o d)])) : LexO P all K (j :: rest) ⟨n, t, L, upd H0 k (some (.row e sz cells))⟩ hs :=
  .appR hj ha hok1 hok hg ho ty hx (upd_same _ _ _) hm hy hb hdst hd fun k' h' => by rw [upd_back h0]; exact hk k' (upd_lt h').2
theorem LexO.appNR (hj : all[j]? = some o) (ha : aheadO all (hs.map (·.1)) j = true) (hok1 : okX all j rest = true) (hok : okO all (hs ++ [(j, fpE o d)]) = true) (hg : o.guard = none) (ho : o.op = .call { callee := .builtin .append, args := #[x0, y], argTypes := #[tt, tt] }) (ty : elB P tt e sz bytes = true) (hx : S.eval ⟨n, t, L, H⟩ x0 = tv (.slice none 0 0)) (hy : srcX (S.eval ⟨n, t, L, H⟩ y) = some (es, sz)) (hb : es.length * bytes ≤ 140737488355328 ∧ es.length ≤ 9223372036854775807) (hdst : o.dst = some d) (hd : Nat.blt d n = true)
    (hk : ∀ k', H k' = none → LexO P all K rest ⟨n, upd t d (.c (.a (.os k' 0 es.length sz))), L, upd H k' (some (.row e sz (es.flatten.map .t)))⟩ (hs ++ [(j, fpE o d)])) : LexO P all K (j :: rest) ⟨n, t, L, H⟩ hs :=
  .e (Q := fun x H' => ∃ k', H k' = none ∧ x = .c (.a (.os k' 0 es.length sz)) ∧ H' = upd H k' (some (.row e sz (es.flatten.map .t)))) hj ha hok1 hok (.of fun t1 L1 ev => OpW.appNR hg ho ty (by rw [ev x0 (by rw [ho]; simp [Op.operands, Call.operands])]; exact hx) (by rw [ev y (by rw [ho]; simp [Op.operands, Call.operands])]; exact hy) hb hdst hd fun k' hk' => ⟨_, _, ⟨k', hk', rfl, rfl⟩, rfl⟩) fun x H' ⟨k', h1, h2, h3⟩ => by subst h2 h3; exact hk k' h1
theorem LexO.appZR (hj : all[j]? = some o) (ha : aheadO all (hs.map (·.1)) j = true) (hok1 : okX all j rest = true) (hok : okO all (hs ++ [(j, fpE o d)]) = true) (hg : o.guard = none) (ho : o.op = .call { callee := .builtin .append, args := #[x0, y], argTypes := #[tt, tt] }) (ty : elB P tt e sz bytes = true) (hx : S.eval ⟨n, t, L, H⟩ x0 = .c (.a (.ts k z sz []))) (hy : srcX (S.eval ⟨n, t, L, H⟩ y) = some (es, sz)) (hb : es.length * bytes ≤ 140737488355328 ∧ es.length ≤ 9223372036854775807) (hdst : o.dst = some d) (hd : Nat.blt d n = true)
    (hk : ∀ k', H k' = none → LexO P all K rest ⟨n, upd t d (.c (.a (.os k' 0 es.length sz))), L, upd H k' (some (.row e sz (es.flatten.map .t)))⟩ (hs ++ [(j, fpE o d)])) : LexO P all K (j :: rest) ⟨n, t, L, H⟩ hs :=
  .e (Q := fun x H' => ∃ k', H k' = none ∧ x = .c (.a (.os k' 0 es.length sz)) ∧ H' = upd H k' (some (.row e sz (es.flatten.map .t)))) hj ha hok1 hok (.of fun t1 L1 ev => OpW.appZR hg ho ty (by rw [ev x0 (by rw [ho]; simp [Op.operands, Call.operands])]; exact hx) (by rw [ev y (by rw [ho]; simp [Op.operands, Call.operands])]; exact hy) hb hdst hd fun k' hk' => ⟨_, _, ⟨k', hk', rfl, rfl⟩, rfl⟩) fun x H' ⟨k', h1, h2, h3⟩ => by subst h2 h3; exact hk k' h1
theorem LexO.callE {f : FuncId} {ys : Array Operand} {ts : Array TypeId} {args : List C} {Q : X → Heap → Prop} (hj : all[j]? = some o) (ha : aheadO all (hs.map (·.1)) j = true) (hok1 : okX all j rest = true) (hok : okO all (hs ++ [(j, fpE o d)]) = true) (ho : o.op = .call { callee := .value (.func f), args := ys, argTypes := ts }) (hg : o.guard = none) (hdst : o.dst = some d) (hd : Nat.blt d n = true) (hf : fnB P f = true) (hargs : argsX ⟨n, t, L, H⟩ ys.toList = some args) (h : Spec P f args H Q) (hl : ∀ x H', Q x H' → x.loc = none)
    (k : ∀ x H', Q x H' → LexO P all K rest ⟨n, upd t d x, L, H'⟩ (hs ++ [(j, fpE o d)])) : LexO P all K (j :: rest) ⟨n, t, L, H⟩ hs :=
  .e (Q := Q) hj ha hok1 hok (.of fun t1 L1 ev => OpW.callE ho hg hdst hd hf (by rw [argsX_same fun y hy => ev y (by rw [ho]; simp only [Op.operands, Call.operands]; simpa using .inr (by simpa using hy))]; exact hargs) h hl fun x H' q => ⟨x, H', q, rfl⟩) k
theorem LexO.callV {zf : Operand} {f : FuncId} {cs : List A} {ys : Array Operand} {ts : Array TypeId} {args : List C} {Q : X → Heap → Prop} (hj : all[j]? = some o) (ha : aheadO all (hs.map (·.1)) j = true) (hok1 : okX all j rest = true) (hok : okO all (hs ++ [(j, fpE o d)]) = true) (ho : o.op = .call { callee := .value zf, args := ys, argTypes := ts }) (hg : o.guard = none) (hdst : o.dst = some d) (hd : Nat.blt d n = true) (hz : fnX (S.eval ⟨n, t, L, H⟩ zf) = some (f, cs)) (hf : fnB P f = true) (hargs : argsX ⟨n, t, L, H⟩ ys.toList = some args) (h : Spec P f (args ++ cs.map C.a) H Q) (hl : ∀ x H', Q x H' → x.loc = none)
    (k : ∀ x H', Q x H' → LexO P all K rest ⟨n, upd t d x, L, H'⟩ (hs ++ [(j, fpE o d)])) : LexO P all K (j :: rest) ⟨n, t, L, H⟩ hs :=
  .e (Q := Q) hj ha hok1 hok (.of fun t1 L1 ev => OpW.callV ho hg hdst hd (by rw [ev zf (by rw [ho]; simp [Op.operands, Call.operands])]; exact hz) hf (by rw [argsX_same fun y hy => ev y (by rw [ho]; simp only [Op.operands, Call.operands]; simpa using .inr (by simpa using hy))]; exact hargs) h hl fun x H' q => ⟨x, H', q, rfl⟩) k
end
end Go.Proofs.Ytojkjiakkcgfcaa.E
