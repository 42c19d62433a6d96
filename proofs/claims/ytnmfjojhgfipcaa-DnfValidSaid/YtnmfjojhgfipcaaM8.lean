/- Parts of the proof, one after the other: E25, E26, E27, E28, E29, E30, E31, E32, E33, E34. No condition. -/
import Derived.Test.YtnmfjojhgfipcaaM7
import Derived.Sort.Grow
import Derived.ProofKit
import Derived.OpenShut
import Derived.ShutString
import Derived.ChangeOld
import Derived.Carry
import Derived.Deep.Slices
import Derived.Lib.SmallJoins
import Derived.SizedLaws
import Derived.Laws.MakeOwn
/- The library's sort, in the engine's words. Plain theorems, for any program. -/
namespace Go.Proofs.Ytnmfjojhgfipcaa.E
open Go.RowKit
set_option linter.unusedVariables false
/-- an object's block is written, and blocks of the call's own lie behind -/
theorem Conc.write {c : Ctx} {H : Heap} {w w' : World} {k : Nat} {x x' : AO} {b n : Nat} (g : Conc c (ownH H) w) (hi : H k = some x) (hx : ¬ x.empty) (hp : c.β k = some (b, n))
    (hos : w'.os = w.os) (htape : w'.tape = w.tape) (hout : w'.output = w.output) (hsz : w'.heap.size = w.heap.size) (hblk : ∀ k, k ≠ b → w'.heap[k]? = w.heap[k]?) (hno : ∀ o, c.μ b o = none) (ho : ORep c w' x' b n) :
    Conc c (ownH (upd H k (some x'))) w' ∧ Ext c (ownH H) w c (ownH (upd H k (some x'))) w' := by
  let s : S := ⟨0, fun _ => .any, fun _ => none, H⟩
  have e1 : s.own = ownH H := by funext i; cases i <;> rfl
  have e2 : (s.setOwn (.e k) x').own = ownH (upd H k (some x')) := by funext i; cases i <;> rfl
  obtain ⟨c0, hc0⟩ : ∃ c0 : Ctx, c0 = { c with base := 0 } := ⟨_, rfl⟩
  have gc : Conc c0 (ownH H) w := by subst hc0; exact g.rebase
  have hs : Sat c0 s ⟨#[], []⟩ w := ⟨by rw [e1]; exact gc, rfl, fun i => trivial, .nil (by subst hc0; exact Nat.zero_le _), fun i d h => by cases h⟩
  have hp0 : c0.β k = some (b, n) := by subst hc0; exact hp
  have hno0 : ∀ o, c0.μ b o = none := by subst hc0; exact hno
  have ho0 : ORep c0 w' x' b n := by subst hc0; exact ho.keep rfl (fun _ _ _ h => h) (fun _ _ h => h) (fun _ _ h => h)
  obtain ⟨h1, h2⟩ := hs.write (c' := c0) (i := .e k) (x := x) hi hx hp0 hos htape hout hsz hblk rfl rfl (fun _ _ _ h => h) (fun _ _ _ h => .inl h) (fun o u h => by rw [hno0 o] at h; cases h) ho0
  rw [e1, e2] at h2
  have h3 := h1.conc
  rw [e2] at h3
  subst hc0
  exact ⟨h3.rebase (k := c.base), h2.rebase⟩
end Go.Proofs.Ytnmfjojhgfipcaa.E
/- From the form's reading of the arguments to the engine's trees; the last step of a law's row. Plain theorems, for any program. -/
namespace Go.Proofs.Ytnmfjojhgfipcaa.E
open Go.RowKit Go.ChangeShapes Go.WideShapes Go.ChangeAt Go.Deep
set_option linter.unusedVariables false
section
variable {H : Type} {enc : TypeId × Value → H} {P : Program} {w W W' : World}
theorem trodAll_below (hl : laidOutB P = true) : ∀ (ts : List TypeId) (vs : List Value) (ds : List (DataW H)) (ps : List MemPlace), (∀ t ∈ ts, P.readableRec t = true ∧ t < P.types.size) →
    DataW.TrodAll enc P W 0 (fun _ => true) true ts vs ds ps → Below W.heap.size W W' → DataW.TrodAll enc P W' 0 (fun b => decide (b < W.heap.size)) true ts vs ds ps
  | [], vs, ds, ps, _, h, _ => by
    obtain ⟨rfl, rfl, rfl⟩ := trodAll_nil h
    exact trodAll_mk0
  | t :: ts, vs, ds, ps, hr, h, hb => by
    obtain ⟨v, vs', d, ds', p, q, rfl, rfl, rfl, h1, h2⟩ := trodAll_cons h
    refine trodAll_cons_mk (Below.trod hl (hr t (by simp)).1 (hr t (by simp)).2 h1 hb ?_) (trodAll_below hl ts vs' ds' q (fun t ht => hr t (by simp [ht])) h2 hb)
    obtain ⟨m, hm⟩ := h1
    exact DataW.trod_lt m _ _ _ hm
/-- the form's reach, of a datum: no string, slice or map in it takes more -/
def Sz {H : Type} (P : Program) (t : TypeId) (d : DataW H) : Prop := ∀ n ∈ d.weights P t, n ≤ 140737488351232
theorem Sz.of {H : Type} {P : Program} {ts : List TypeId} {ds : List (DataW H)} (h : (DataW.weightsEach P ts ds).all (· ≤ reachBytes) = true) {j : Nat} {t : TypeId} {d : DataW H} (ht : ts[j]? = some t) (hd : ds[j]? = some d) : Sz P t d := by
  intro n hn
  have := List.all_eq_true.1 h n (DataW.weights_mem_each ht hd n hn)
  show n ≤ reachBytes
  exact of_decide_eq_true this
theorem weights_all {H : Type} {P : Program} {e : TypeId} : ∀ {ds : List (DataW H)} {d : DataW H}, d ∈ ds → ∀ n ∈ d.weights P e, n ∈ DataW.weightsAll P e ds
  | d' :: ds, d, h, n, hn => by
    simp only [DataW.weightsAll, List.mem_append]
    rcases List.mem_cons.1 h with rfl | h
    · exact .inl hn
    · exact .inr (weights_all h n hn)
end
/-- all memory is common -/
abbrev mu (w : World) : Mem := fun b o => w.cell? ⟨b, o, none⟩
/-- the data of a type read as trees -/
def Reads {α : Type} (P : Program) (N : Nat) (t : TypeId) (n : Nat) (F : α → List T) (ok : α → Prop) : Prop :=
  ∀ (H : Type) (enc : TypeId × Value → H) (w : World) (sp : Nat → Bool) (held : Bool) (fuel : Nat) (cs : List Value) (y : DataW H × List MemPlace), fuel ≤ N →
    DataW.trod enc P w 0 sp held fuel t cs = some y → Sz P t y.1 → cs.length = n → ∃ x, Reps (RepT (mu w)) (F x) cs ∧ ok x
/-- the same, of a struct's fields from one on -/
def ReadsF {α : Type} (P : Program) (N : Nat) (off : Nat) (fl : List Field) (n : Nat) (F : α → List T) (ok : α → Prop) : Prop :=
  ∀ (H : Type) (enc : TypeId × Value → H) (w : World) (sp : Nat → Bool) (held : Bool) (m : Nat) (cs : List Value), m < N →
    (∀ f ∈ fl, ∃ y, DataW.trod enc P w 0 sp held m f.type ((cs.drop f.offset).take (P.cellsOf f.type)) = some y ∧ Sz P f.type y.1) → cs.length = off + n → ∃ x, Reps (RepT (mu w)) (F x) (cs.drop off) ∧ ok x
section
variable {α β : Type} {P : Program} {N n : Nat} {t e : TypeId} {F : α → List T} {ok : α → Prop} {G : β → List T} {ok' : β → Prop}
theorem Reads.conv (h : Reads P N t n F ok) (g : α → β) (hg : ∀ x, ok x → G (g x) = F x) (ho : ∀ x, ok x → ok' (g x)) : Reads P N t n G ok' := fun H enc w sp held fuel cs y hf hy hz hl => by
  obtain ⟨x, h1, h2⟩ := h H enc w sp held fuel cs y hf hy hz hl
  exact ⟨g x, by rw [hg x h2]; exact h1, ho x h2⟩
theorem reps1 {μ : Mem} {x : T} {v : Value} (h : RepT μ x v) : Reps (RepT μ) [x] [v] := .cons h .nil
theorem Reads.int {k : IntKind} (ht : P.underlying t = some (.int k)) : Reads P N t 1 (fun i : Int => [.v (.int k i)]) (fun i => (Lit.int k i).wf = true) := fun H enc w sp held fuel cs y hf hy hz hl => by
  obtain ⟨i, rfl, _, h⟩ := DataW.trod_int ht hy
  exact ⟨i, reps1 (.v rfl), h⟩
theorem Reads.bool (ht : P.underlying t = some .bool) : Reads P N t 1 (fun b : Bool => [.v (.bool b)]) (fun _ => True) := fun H enc w sp held fuel cs y hf hy hz hl => by
  obtain ⟨i, rfl, _⟩ := DataW.trod_bool ht hy
  exact ⟨i, reps1 (.v rfl), trivial⟩
theorem Reads.string (ht : P.underlying t = some .string) : Reads P N t 1 (fun s : ByteArray => [.v (.string s)]) (fun s => s.size ≤ 140737488351232) := fun H enc w sp held fuel cs y hf hy hz hl => by
  obtain ⟨s, rfl, hx, _⟩ := DataW.trod_string ht hy
  refine ⟨s, reps1 (.v rfl), ?_⟩
  have := hz s.data.toList.length (by rw [hx]; simp [DataW.weights])
  rwa [Array.length_toList] at this
theorem ReadsF.nil {off : Nat} : ReadsF P N off [] 0 (fun _ : Unit => []) (fun _ => True) := fun H enc w sp held m cs hm h hl => ⟨(), by rw [List.drop_eq_nil_of_le (by omega)]; exact .nil, trivial⟩
theorem ReadsF.cons {f : Field} {fl : List Field} {off n1 n2 : Nat} (ho : f.offset = off) (hc : P.cellsOf f.type = n1) (h1 : ∀ M, M < N → Reads P M f.type n1 F ok) (h2 : ReadsF P N (off + n1) fl n2 G ok') :
    ReadsF P N off (f :: fl) (n1 + n2) (fun p : α × β => F p.1 ++ G p.2) (fun p => ok p.1 ∧ ok' p.2) := fun H enc w sp held m cs hm h hl => by
  obtain ⟨y, hy, hz⟩ := h f (by simp)
  rw [ho, hc] at hy
  obtain ⟨x, h3, h4⟩ := h1 m hm H enc w sp held m _ y (Nat.le_refl _) hy hz (by simp; omega)
  obtain ⟨x', h5, h6⟩ := h2 H enc w sp held m cs hm (fun f' hf => h f' (by simp [hf])) (by omega)
  refine ⟨(x, x'), ?_, h4, h6⟩
  have e1 : cs.drop off = (cs.drop off).take n1 ++ cs.drop (off + n1) := by rw [← List.drop_drop, List.take_append_drop]
  rw [e1]
  exact h3.append h5
theorem Reads.struct {fl : List Field} (ht : P.underlying t = some (.struct ⟨fl⟩)) (h : ReadsF P N 0 fl n F ok) : Reads P N t n F ok := fun H enc w sp held fuel cs y hf hy hz hl => by
  obtain ⟨xs, m, hm, hx, _, hxl, hg⟩ := DataW.trod_struct ht hy
  have hxl' : xs.length = fl.length := by simpa using hxl
  obtain ⟨x, h1, h2⟩ := h H enc w sp held m cs (by omega) (fun f hfl => by
    obtain ⟨i, hi⟩ := List.getElem?_of_mem hfl
    have hi' : i < fl.length := (List.getElem?_eq_some_iff.1 hi).1
    have h3 := hg i f (by simpa using hi)
    have h5 : xs[i]? = some xs[i] := List.getElem?_eq_getElem (by omega)
    refine ⟨xs[i], by rw [h3, h5], fun k hk => hz k ?_⟩
    rw [hx]
    simp only [DataW.weights, ht]
    exact DataW.weights_mem_each (j := i) (by simp [hi]) (by rw [List.getElem?_map, h5]; rfl) k hk) (by omega)
  exact ⟨x, by simpa using h1, h2⟩
/-- many with a reading each -/
theorem many {μ : Mem} : ∀ (css : List (List Value)), (∀ c ∈ css, ∃ x, Reps (RepT μ) (F x) c ∧ ok x) → ∃ xs : List α, xs.length = css.length ∧ (∀ (i : Nat) (x : α) (c : List Value), xs[i]? = some x → css[i]? = some c → Reps (RepT μ) (F x) c) ∧ ∀ x ∈ xs, ok x
  | [], _ => ⟨[], rfl, fun i x c h => by simp at h, by simp⟩
  | c :: css, h => by
    obtain ⟨x, h1, h2⟩ := h c (by simp)
    obtain ⟨xs, h3, h4, h5⟩ := many css fun c hc => h c (by simp [hc])
    refine ⟨x :: xs, by simp [h3], fun i x' c' hi hc => ?_, by simpa using ⟨h2, h5⟩⟩
    cases i with
    | zero => simp at hi hc; subst hi hc; exact h1
    | succ i => exact h4 i x' c' (by simpa using hi) (by simpa using hc)
theorem Reads.slice (ht : P.underlying t = some (.slice e)) (hC : P.cellsOf e = n) (hs : 0 < n) (h : ∀ M, M < N → Reads P M e n F ok) :
    Reads P N t 1 (fun l : List α => [.sl .un n (l.map F)]) (fun l => l.length * P.bytesOf e ≤ 140737488351232 ∧ l.length ≤ maxLen ∧ ∀ x ∈ l, ok x) := fun H enc w sp held fuel cs y hf hy hz hl => by
  rcases DataW.trod_slice ht hy with ⟨rfl, _⟩ | ⟨a, len, cap, elems, rest, m, hm, rfl, hx, _, hlc, hcm, hel, hg, _⟩
  · exact ⟨[], reps1 (.nil (by simp)), by simp, by simp, by simp⟩
  · rw [hC] at hg
    have hi' : ∀ i, ∃ cs', i < len → w.cells? 0 (a.add (i * n)) n = some cs' ∧ ∃ y, DataW.trod enc P w 0 sp held m e cs' = some y ∧ Sz P e y.1 := by
      intro i
      by_cases h : i < len
      · have h1 := hg i h
        have h2 : elems[i]? = some elems[i] := List.getElem?_eq_getElem (by omega)
        rw [h2, Option.bind_eq_some_iff] at h1
        obtain ⟨cs', h3, h4⟩ := h1
        refine ⟨cs', fun _ => ⟨h3, _, h4, fun k hk => hz k ?_⟩⟩
        rw [hx]
        simp only [DataW.weights, ht, List.mem_cons, List.mem_append]
        exact .inr (.inl (weights_all (List.mem_map.2 ⟨_, List.getElem_mem (by omega), rfl⟩) k hk))
      · exact ⟨[], fun h' => absurd h' h⟩
    obtain ⟨f, hff⟩ := Classical.axiomOfChoice hi'
    obtain ⟨xs, h1, h2, h3⟩ := many (F := F) (ok := ok) (μ := mu w) ((List.range len).map f) fun c hc => by
      obtain ⟨i, hi, rfl⟩ := List.mem_map.1 hc
      obtain ⟨h5, y', h6, h7⟩ := hff i (List.mem_range.1 hi)
      exact h m (by omega) H enc w sp held m _ y' (Nat.le_refl _) h6 h7 (World.cells?_some h5).2.1
    have hxl : xs.length = len := by simpa using h1
    have hb : xs.length * P.bytesOf e ≤ 140737488351232 := by
      have := hz ((elems.length + rest.length) * P.bytesOf e) (by rw [hx]; simp [DataW.weights, ht])
      refine Nat.le_trans (Nat.mul_le_mul_right _ ?_) this
      omega
    refine ⟨xs, reps1 ?_, hb, by omega, h3⟩
    rcases Nat.eq_zero_or_pos len with h0 | h0
    · have : xs = [] := List.length_eq_zero_iff.1 (by omega)
      subst this; subst h0
      exact .emp (by simp)
    · have hspot : a.spot = none := by
        obtain ⟨_, hl0, hc0⟩ := World.cells?_some (hff 0 h0).1
        have h0 := hc0 0 hs
        rw [List.getElem?_eq_getElem (by omega), Go.Deep.add_add] at h0
        have := World.cell?_spot h0
        simpa [Addr.add] using this
      obtain ⟨b, off, spot⟩ := a
      simp only at hspot
      subst hspot
      have add_eq : ∀ j, (⟨b, off, none⟩ : Addr).add j = ⟨b, off + j, none⟩ := fun j => by unfold Addr.add; split <;> simp_all
      have fl : ∀ i, i < len → (f i).length = n := fun i hi => (World.cells?_some (hff i hi).1).2.1
      have el : ∀ i (e : List T), (xs.map F)[i]? = some e → i < len ∧ Reps (RepT (mu w)) e (f i) := fun i e he => by
        have hi : i < xs.length := by have := (List.getElem?_eq_some_iff.1 he).1; simpa using this
        have e1 : e = F xs[i] := by have := (List.getElem?_eq_some_iff.1 he).2; simpa using this.symm
        subst e1
        exact ⟨by omega, h2 i _ _ (List.getElem?_eq_getElem hi) (by simp [List.getElem?_map, List.getElem?_range (show i < len by omega)])⟩
      refine .sl (fun i j => (f i).getD j undef) (fun e => by have := congrArg List.length e; simp at this; subst this; simp at hxl; omega) (by simp [hxl]) (by omega) (fun i e he => ?_) (fun i e j x he hj => ?_) (fun i e j x he hj => ?_)
      · obtain ⟨hi, hr⟩ := el i e he
        rw [hr.1, fl i hi]
      · obtain ⟨hi, hr⟩ := el i e he
        have hj' : j < n := by have := (List.getElem?_eq_some_iff.1 hj).1; rw [hr.1, fl i hi] at this; exact this
        obtain ⟨_, hl1, hc1⟩ := World.cells?_some (hff i hi).1
        have := hc1 j hj'
        rw [Go.Deep.add_add, add_eq] at this
        show w.cell? _ = _
        rw [this, List.getD_eq_getElem?_getD, List.getElem?_eq_getElem (by omega)]
        rfl
      · obtain ⟨hi, hr⟩ := el i e he
        have hj' : j < (f i).length := by rw [← hr.1]; exact (List.getElem?_eq_some_iff.1 hj).1
        have := hr.2 j x (f i)[j] hj (List.getElem?_eq_getElem hj')
        simpa [List.getD_eq_getElem?_getD, List.getElem?_eq_getElem hj'] using this
theorem many_at {μ : Mem} {cs : List Value} : ∀ (k off : Nat), (∀ i, i < k → ∃ x, Reps (RepT μ) (F x) ((cs.drop (off + i * n)).take n) ∧ ok x) → cs.length = off + k * n → ∃ xs : List α, xs.length = k ∧ Reps (RepT μ) (xs.map F).flatten (cs.drop off) ∧ ∀ x ∈ xs, ok x
  | 0, off, _, hl => ⟨[], rfl, by rw [List.drop_eq_nil_of_le (by omega)]; exact .nil, by simp⟩
  | k + 1, off, h, hl => by
    obtain ⟨x, h1, h2⟩ := h 0 (by omega)
    obtain ⟨xs, h3, h4, h5⟩ := many_at k (off + n) (fun i hi => by
      have := h (i + 1) (by omega)
      rw [Nat.add_mul, Nat.one_mul, ← Nat.add_assoc, Nat.add_right_comm] at this; exact this) (by rw [hl, Nat.add_mul]; omega)
    refine ⟨x :: xs, by simp [h3], ?_, by simpa using ⟨h2, h5⟩⟩
    have e1 : cs.drop off = (cs.drop off).take n ++ cs.drop (off + n) := by rw [← List.drop_drop, List.take_append_drop]
    rw [e1, List.map_cons, List.flatten_cons]
    rw [Nat.zero_mul, Nat.add_zero] at h1
    exact h1.append h4
theorem Reads.array {k : Nat} (ht : P.underlying t = some (.array k e)) (hC : P.cellsOf e = n) (h : ∀ M, M < N → Reads P M e n F ok) :
    Reads P N t (k * n) (fun l : List α => (l.map F).flatten) (fun l => l.length = k ∧ ∀ x ∈ l, ok x) := fun H enc w sp held fuel cs y hf hy hz hl => by
  obtain ⟨xs, m, hm, hx, _, hxl, hg⟩ := DataW.trod_array ht hy
  rw [hC] at hg
  obtain ⟨ys, h1, h2, h3⟩ := many_at (F := F) (ok := ok) (μ := mu w) (n := n) (cs := cs) k 0 (fun i hi => by
    have h3 := hg i hi
    have h5 : xs[i]? = some xs[i] := List.getElem?_eq_getElem (by omega)
    rw [h5] at h3
    rw [Nat.zero_add]
    have hle : (i + 1) * n ≤ k * n := Nat.mul_le_mul_right _ (by omega)
    rw [Nat.add_mul] at hle
    exact h m (by omega) H enc w sp held m _ _ (Nat.le_refl _) h3 (fun q hq => hz q (by
      rw [hx]
      simp only [DataW.weights, ht]
      exact weights_all (List.mem_map.2 ⟨_, List.getElem_mem (by omega), rfl⟩) q hq)) (by simp; omega)) (by omega)
  exact ⟨ys, by simpa using h2, h1, h3⟩

/-! ### arguments -/
variable {H : Type} {enc : TypeId × Value → H} {w : World} {r : Reach} {b0 : Nat} {v : Value} {d : DataW H} {p : List MemPlace} {sp : Nat → Bool} {held : Bool} {c : Ctx}
theorem arg_cells {f : α → C} (hr : ∀ N, Reads P N t n F ok) (hn : v.cells.size = n) (h : DataW.Trod enc P w 0 sp held t v d p) (hz : Sz P t d)
    (hf : ∀ x, Reps (RepT (mu w)) (F x) v.cells.toList → RepC (mu w) c.β (f x) v) : ∃ x, RepC (mu w) c.β (f x) v ∧ ok x := by
  obtain ⟨fuel, h⟩ := h
  obtain ⟨x, h1, h2⟩ := hr fuel H enc w sp held fuel _ _ (Nat.le_refl _) h hz (by simpa using hn)
  exact ⟨x, hf x h1, h2⟩
theorem arg1 {f : α → T} {β : Pos} (h1 : v.cells = #[v]) (hr : ∀ N, Reads P N t 1 (fun x => [f x]) ok) (h : DataW.Trod enc P w 0 sp held t v d p) (hz : Sz P t d) : ∃ x, RepC (mu w) β (.a (.t (f x))) v ∧ ok x := by
  obtain ⟨x, h2, h3⟩ := arg_cells (c := ⟨fun _ _ => none, β, fun _ => (0, 0), 0⟩) (f := fun x => .a (.t (f x))) hr (by rw [h1]; rfl) h hz (fun x hx => by
    rw [h1] at hx
    exact .t (hx.2 0 _ _ rfl rfl))
  exact ⟨x, h2, h3⟩
theorem argG {F' : α → List A} {β : Pos} {cs : Array Value} (hv : v = .agg cs) (hsz : cs.size = n) (hr : ∀ N, Reads P N t n F ok) (hF : ∀ x, F' x = (F x).map .t) (h : DataW.Trod enc P w 0 sp held t v d p) (hz : Sz P t d) : ∃ x, RepC (mu w) β (.g (F' x)) v ∧ ok x := by
  subst hv
  obtain ⟨x, h2, h3⟩ := arg_cells (c := ⟨fun _ _ => none, β, fun _ => (0, 0), 0⟩) (f := fun x => .g (F' x)) hr (by simpa [Value.cells] using hsz) h hz (fun x hx => by
    refine ⟨cs, rfl, ?_⟩
    rw [hF]
    have hx : Reps (RepT (mu w)) (F x) cs.toList := hx
    exact reps_t hx)
  exact ⟨x, h2, h3⟩
theorem arg_slice {f : α → T} {β : Pos} (hu : P.underlying t = some (.slice e)) (hv : Value.okWide P w r b0 t v) (hr : ∀ N, Reads P N t 1 (fun x => [f x]) ok) (h : DataW.Trod enc P w 0 sp held t v d p) (hz : Sz P t d) : ∃ x, RepC (mu w) β (.a (.t (f x))) v ∧ ok x := by
  obtain ⟨a, len, cap, rfl⟩ := okWide_slice hu hv
  exact arg1 rfl hr h hz
theorem arg_struct {F' : α → List A} {β : Pos} {fs : Array Field} (hu : P.underlying t = some (.struct fs)) (hc : P.cellsOf t = n) (hv : Value.okWide P w r b0 t v) (hr : ∀ N, Reads P N t n F ok) (hF : ∀ x, F' x = (F x).map .t) (h : DataW.Trod enc P w 0 sp held t v d p) (hz : Sz P t d) : ∃ x, RepC (mu w) β (.g (F' x)) v ∧ ok x := by
  obtain ⟨cs, rfl, h1⟩ := okWide_struct hu hv
  exact argG rfl (by rw [h1, hc]) hr hF h hz
end
/-- the last step: nothing that was there has turned -/
theorem Spec.row {P : Program} {f : FuncId} {args : List C} {w : World} {vs : Array Value} {u : Value} (ht : TabW w) (h : Spec P f args (fun _ => none) fun x _ => x = tv u) (hr : Reps (RepC (mu w) (fun _ => none)) args vs.toList) :
    Calls P f vs w fun e w' => e = .returned u ∧ Below w.heap.size w w' := by
  have hc : Conc ⟨mu w, fun _ => none, fun _ => (0, 0), 0⟩ (ownH fun _ => none) w := ⟨fun b o u h => h, fun i x hi => (by cases i <;> cases hi), fun i j x y b n m hi => (by cases i <;> cases hi), ⟨0, fun k _ => ⟨rfl, rfl⟩⟩, ht, fun tg cs th i x n hi => (by cases i <;> cases hi)⟩
  refine (h _ w vs hc hr).mono ?_
  rintro e w' ⟨v, x, H', c', rfl, rfl, hx, _, hE⟩
  have := rep_tv hx
  subst this
  exact ⟨rfl, hE.os, hE.tape, hE.output, hE.size, fun b hb => hE.blk b hb fun i x n hi => (by cases i <;> cases hi)⟩
end Go.Proofs.Ytnmfjojhgfipcaa.E
/- Two parts of the objects, one of which a call leaves alone. Plain theorems, for any program. -/
namespace Go.Proofs.Ytnmfjojhgfipcaa.E
open Go.RowKit
set_option linter.unusedVariables false
open Classical in
/-- without the objects of which nothing is claimed -/
noncomputable def full (H : Heap) : Heap := fun k => match H k with | some o => if o.empty then none else some o | none => none
theorem full_some {H : Heap} {k : Nat} {o : AO} : full H k = some o ↔ H k = some o ∧ ¬ o.empty := by
  unfold full
  cases h : H k with
  | none => simp
  | some y =>
    simp only
    split
    · rename_i hy
      constructor
      · intro h; cases h
      · rintro ⟨h1, h2⟩; injection h1 with h1; subst h1; exact absurd hy h2
    · rename_i hy
      constructor
      · intro h; injection h with h; subst h; exact ⟨rfl, hy⟩
      · rintro ⟨h1, _⟩; exact h1
structure Part (H A B : Heap) : Prop where
  left : ∀ k o, A k = some o → H k = some o
  right : ∀ k o, B k = some o → H k = some o ∧ A k = none ∧ ¬ o.empty
theorem Part.start (H : Heap) : Part H (fun _ => none) (full H) := ⟨fun _ _ h => (by cases h), fun k o h => ⟨(full_some.1 h).1, rfl, (full_some.1 h).2⟩⟩
theorem Part.sub {H A B : Heap} (h : Part H A B) : ∀ k o, B k = some o → H k = some o := fun k o hk => (h.right k o hk).1
end Go.Proofs.Ytnmfjojhgfipcaa.E
/- append onto a slice without elements, and append onto what that made, in whatever order. Plain theorems, for any program. -/
namespace Go.Proofs.Ytnmfjojhgfipcaa.E
open Go.RowKit
set_option linter.unusedVariables false
section
variable {P : Program} {all : Array Oper} {o : Oper} {s : S}
end
section
variable {P : Program} {o : Oper} {n d : Nat} {t : Nat → X} {L : Nat → Option AO} {H : Heap}
theorem SeqK.xw {all : Array Oper} {K : S → Prop} {rest : List Oper} (i : Nat) {x y : X} (hi : t i = x) (h : XW x y) (k : SeqK P all K (o :: rest) ⟨n, upd t i y, L, H⟩) : SeqK P all K (o :: rest) ⟨n, t, L, H⟩ := OpW.wk (.xw i hi h) k
end
end Go.Proofs.Ytnmfjojhgfipcaa.E
/- Rows that are read whole: appended to a new slice; is it nil; a new row out of an append onto nil. Plain theorems, for any program. -/
namespace Go.Proofs.Ytnmfjojhgfipcaa.E
open Go.RowKit
set_option linter.unusedVariables false
section
variable {P : Program} {all : Array Oper} {o : Oper} {s : S} {K : S → Prop} {rest : List Oper} {n d : Nat} {t : Nat → X} {L : Nat → Option AO} {H : Heap}
end
end Go.Proofs.Ytnmfjojhgfipcaa.E
/- make of a slice; calls through a function value. Plain theorems, for any program. -/
namespace Go.Proofs.Ytnmfjojhgfipcaa.E
open Go.RowKit
set_option linter.unusedVariables false
section
variable {P : Program} {all : Array Oper} {o : Oper} {s : S} {K : S → Prop} {rest : List Oper} {n d : Nat} {t : Nat → X} {L : Nat → Option AO} {H : Heap}
/-! ### function values -/
def fnX : X → Option (FuncId × List A)
  | .c (.a (.fn f cs)) => some (f, cs)
  | .c (.a (.t (.v (.func (.func f) fs vs)))) => if fs.size = 0 ∧ vs.size = 0 then some (f, []) else none
  | _ => none
theorem fn_rep {c : Ctx} {x : X} {v : Value} {f : FuncId} {cs : List A} (h : RepX c x v) (hf : fnX x = some (f, cs)) : ∃ vs : Array Value, v = .func (.func f) #[] vs ∧ Reps (RepC c.μ c.β) (cs.map C.a) vs.toList := by
  unfold fnX at hf
  split at hf
  · cases hf
    have h : RepA c.μ c.β (.fn f cs) v := h
    cases h with
    | @fn _ _ vs u hv h9 =>
      refine ⟨vs, rfl, by rw [hv]; simp, fun i x v h1 h2 => ?_⟩
      rw [List.getElem?_map] at h1
      obtain ⟨y, hy, rfl⟩ := Option.map_eq_some_iff.1 h1
      have hi : i < cs.length := (List.getElem?_eq_some_iff.1 hy).1
      have : v = u i := by rw [hv, List.getElem?_map, List.getElem?_range hi] at h2; simpa using h2.symm
      subst this
      exact h9 i y hy
  · split at hf
    · rename_i fs vs hs
      cases hf
      have := rep_tv h
      subst this
      have e1 : fs = #[] := Array.eq_empty_of_size_eq_zero hs.1
      have e2 : vs = #[] := Array.eq_empty_of_size_eq_zero hs.2
      subst e1 e2
      exact ⟨#[], rfl, .nil⟩
    · cases hf
  · cases hf
theorem callV_wp {z : Operand} {f : FuncId} {cs : List A} {ys : Array Operand} {ts : Array TypeId} {args : List C} {Q : X → Heap → Prop} {c : Ctx} {a : Act} {w : World} (g : Sat c s a w) (ho : o.op = .call { callee := .value z, args := ys, argTypes := ts }) (hz : fnX (s.eval z) = some (f, cs)) (hf : fnB P f = true) (ha : argsX s ys.toList = some args) (h : Spec P f (args ++ cs.map C.a) s.H Q) (hl : ∀ x H', Q x H' → x.loc = none) (hd : inB o.dst s.n = true) :
    o.wp P a w (fun a' w' => ∃ x H' c', Q x H' ∧ Sat c' ((⟨s.n, s.t, s.L, H'⟩ : S).put o.dst x) a' w' ∧ Ext c s.own w c' ((⟨s.n, s.t, s.L, H'⟩ : S).put o.dst x).own w') (fun _ _ _ => False) := by
  have hr : Reps (RepC c.μ c.β) args (ys.map a.eval).toList := by
    have := args_rep (c := c) (f := a.eval) ha fun y _ => g.eval y
    simpa using this
  obtain ⟨vs, hv, hvs⟩ := fn_rep (g.eval z) hz
  have hc : Conc c (ownH s.H) w := g.conc.sub fun i x h => by cases i with
    | e k => exact h
    | l d => cases h
  have hcall := h c w (ys.map a.eval ++ vs) hc (by rw [Array.toList_append]; exact hr.append hvs)
  have hrun : (execOp a.eval o).run P w = .ok (.enter f (ys.map a.eval ++ vs)) w := by
    simp [execOp, ho, resolve, hv, Deferred.ofValue, invoke, enter_run hf]
  unfold Oper.wp
  rw [hrun, Oper.upon_enter]
  refine hcall.mono ?_
  rintro e w' ⟨v, y, H', c', rfl, hq, hrx, hc', hx'⟩
  obtain ⟨g', x'⟩ := g.call hc' hx'
  exact ⟨y, H', _, hq, g'.put o.dst hd (hrx.relam (hl y H' hq)) (fun d e => by rw [hl y H' hq] at e; cases e), by rw [own_put]; exact x'⟩
theorem OpW.callV {z : Operand} {f : FuncId} {cs : List A} {ys : Array Operand} {ts : Array TypeId} {args : List C} {Q : X → Heap → Prop} (ho : o.op = .call { callee := .value z, args := ys, argTypes := ts }) (hg : o.guard = none) (hdst : o.dst = some d) (hd : Nat.blt d n = true) (hz : fnX (S.eval ⟨n, t, L, H⟩ z) = some (f, cs)) (hf : fnB P f = true) (ha : argsX ⟨n, t, L, H⟩ ys.toList = some args) (h : Spec P f (args ++ cs.map C.a) H Q) (hl : ∀ x H', Q x H' → x.loc = none)
    (k : ∀ x H', Q x H' → K ⟨n, upd t d x, L, H'⟩) : OpW P all o K ⟨n, t, L, H⟩ := fun c a w g => by
  unfold opRun
  rw [if_pos (by simp [Region.wanted, hg])]
  refine wp_weak (callV_wp g ho hz hf ha h hl (inb' hdst hd)) ?_
  rintro a' w' ⟨x, H', c', hq, g', x'⟩
  rw [hdst] at g' x'
  exact ⟨_, c', k x H' hq, g', x'⟩
theorem SeqK.callV {z : Operand} {f : FuncId} {cs : List A} {ys : Array Operand} {ts : Array TypeId} {args : List C} {Q : X → Heap → Prop} (ho : o.op = .call { callee := .value z, args := ys, argTypes := ts }) (hg : o.guard = none) (hdst : o.dst = some d) (hd : Nat.blt d n = true) (hz : fnX (S.eval ⟨n, t, L, H⟩ z) = some (f, cs)) (hf : fnB P f = true) (ha : argsX ⟨n, t, L, H⟩ ys.toList = some args) (h : Spec P f (args ++ cs.map C.a) H Q) (hl : ∀ x H', Q x H' → x.loc = none)
    (k : ∀ x H', Q x H' → SeqK P all K rest ⟨n, upd t d x, L, H'⟩) : SeqK P all K (o :: rest) ⟨n, t, L, H⟩ := SeqK.any (OpW.callV ho hg hdst hd hz hf ha h hl k)
end
end Go.Proofs.Ytnmfjojhgfipcaa.E
/- Rows of elements; a literal that will grow; a new row out of an append onto a literal without elements. Plain theorems, for any program. -/
namespace Go.Proofs.Ytnmfjojhgfipcaa.E
open Go.RowKit
set_option linter.unusedVariables false
/-! ### a row as a list of elements -/
abbrev rowE {α : Type} (F : α → List T) (l : List α) : List A := (l.map F).flatten.map .t
section
variable {α : Type} {F : α → List T} {sz : Nat}
end
section
variable {P : Program} {all : Array Oper} {o : Oper} {s : S} {K : S → Prop} {rest : List Oper} {n d : Nat} {t : Nat → X} {L : Nat → Option AO} {H : Heap}
end
end Go.Proofs.Ytnmfjojhgfipcaa.E
/- Moves of maps that are not shared yet; a slice that may be nil against nil. Plain theorems, for any program. -/
namespace Go.Proofs.Ytnmfjojhgfipcaa.E
open Go.RowKit
set_option linter.unusedVariables false
end Go.Proofs.Ytnmfjojhgfipcaa.E
/- Regions that draw, with operations whose result is not determined. Plain theorems, for any program. -/
namespace Go.Proofs.Ytnmfjojhgfipcaa.E
open Go.RowKit
set_option linter.unusedVariables false
/-- an operation that looks at the places R alone and turns the places W alone, to one of several states -/
def NOp (P : Program) (all : Array Oper) (o : Oper) (R W : List Loc) (s : S) (K : S → Prop) : Prop :=
  ∀ s1, Len s1 s → (∀ ℓ, ℓ ∈ R → Same ℓ s1 s) → OpW P all o (fun s2 => ∃ s', Len s' s ∧ (∀ ℓ, ℓ ∉ W → Same ℓ s' s) ∧ s2 = s1.over W s' ∧ K s') s1
abbrev Hi := Nat × Fp
def okO (all : Array Oper) (hs : List Hi) : Bool :=
  (List.range hs.length).all fun j => (List.range j).all fun i => !conflict (hs.getD i default).2 (hs.getD j default).2 || reach all 8 (hs.getD j default).1 (hs.getD i default).1
def aheadO (all : Array Oper) (dn : List Nat) (j : Nat) : Bool := (all.getD j default).after.all fun e => !Region.binds .any e || dn.contains e.on
def okX (all : Array Oper) (j : Nat) (rest : List Nat) : Bool := rest.all fun i => reach all 8 i j
def LexO (P : Program) (all : Array Oper) (K : S → Prop) : List Nat → S → List Hi → Prop
  | [], s, hs => okO all hs = true ∧ K s
  | j :: rest, s, hs => aheadO all (hs.map (·.1)) j = true ∧ ∃ o, all[j]? = some o ∧
      ((∃ R W s', LOp P all o R W s s' ∧ LexO P all K rest s' (hs ++ [(j, (R, W))])) ∨
       (okX all j rest = true ∧ ∃ R W, okO all (hs ++ [(j, (R, W))]) = true ∧ NOp P all o R W s fun s' => LexO P all K rest s' (hs ++ [(j, (R, W))])))
section
variable {P : Program} {all : Array Oper} {K : S → Prop}
/-- a step of a history: one that may be run, or one that has been -/
structure StepO (P : Program) (all : Array Oper) (hs : List Hi) (sq : Nat → S) (Lm : Array Bool) (i : Nat) : Prop where
  len : Len (sq (i + 1)) (sq i)
  out : ∀ ℓ, ℓ ∉ (hs.getD i default).2.2 → Same ℓ (sq (i + 1)) (sq i)
  run : Lm.getD (hs.getD i default).1 false = true ∨ ∃ o, all[(hs.getD i default).1]? = some o ∧ LOp P all o (hs.getD i default).2.1 (hs.getD i default).2.2 (sq i) (sq (i + 1))
variable {hs : List Hi} {sq : Nat → S} {Lm : Array Bool}
theorem okO_at (h : okO all hs = true) {j : Nat} (hj : j < hs.length) : ∀ i, i < j → conflict (hs.getD i default).2 (hs.getD j default).2 = false ∨ reach all 8 (hs.getD j default).1 (hs.getD i default).1 = true := by
  simp only [okO, List.all_eq_true, List.mem_range, Bool.or_eq_true, Bool.not_eq_true'] at h
  exact h j hj
def Aheads (all : Array Oper) (hs : List Hi) : Prop := ∀ k, k < hs.length → aheadO all ((hs.take k).map (·.1)) (hs.getD k default).1 = true
/-- where a history ends: nothing is left, or the next operation's result is not determined -/
def EndO (P : Program) (all : Array Oper) (K : S → Prop) (hs : List Hi) (rest : List Nat) (s : S) : Prop :=
  (rest = [] ∧ okO all hs = true ∧ K s) ∨ ∃ j r o R W, rest = j :: r ∧ aheadO all (hs.map (·.1)) j = true ∧ all[j]? = some o ∧ okX all j r = true ∧ okO all (hs ++ [(j, (R, W))]) = true ∧ NOp P all o R W s fun s' => LexO P all K r s' (hs ++ [(j, (R, W))])
theorem getD_app1 {t : List Hi} {i : Nat} (h : i < hs.length) : (hs ++ t).getD i default = hs.getD i default := by
  rw [List.getD_eq_getElem?_getD, List.getD_eq_getElem?_getD, List.getElem?_append_left h]
theorem getD_app2 {x : Hi} : (hs ++ [x]).getD hs.length default = x := by
  rw [List.getD_eq_getElem?_getD, List.getElem?_append_right (Nat.le_refl _)]; simp
theorem StepO.app {t : List Hi} {sq' : Nat → S} {i : Nat} (h : StepO P all hs sq Lm i) (hi : i < hs.length) (h1 : sq' i = sq i) (h2 : sq' (i + 1) = sq (i + 1)) : StepO P all (hs ++ t) sq' Lm i := by
  obtain ⟨a, b, c⟩ := h
  rw [← h1, ← h2] at a
  refine ⟨a, ?_, ?_⟩
  · rw [getD_app1 hi, h1, h2]; exact b
  · rw [getD_app1 hi, h1, h2]; exact c
theorem Aheads.snoc (h : Aheads all hs) {x : Hi} (hx : aheadO all (hs.map (·.1)) x.1 = true) : Aheads all (hs ++ [x]) := fun k hk => by
  by_cases e : k < hs.length
  · rw [getD_app1 e, List.take_append_of_le_length (by omega)]; exact h k e
  · have : k = hs.length := by simp at hk; omega
    subst this
    rw [getD_app2, List.take_append_of_le_length (Nat.le_refl _), List.take_length]; exact hx
theorem LexO.ext : ∀ (rest : List Nat) (hs : List Hi) (sq : Nat → S), LexO P all K rest (sq hs.length) hs → (∀ i, i < hs.length → StepO P all hs sq Lm i) → Aheads all hs →
    ∃ (t : List Hi) (sq' : Nat → S) (rest' : List Nat), rest = t.map (·.1) ++ rest' ∧ (∀ i, i ≤ hs.length → sq' i = sq i) ∧ (∀ i, i < (hs ++ t).length → StepO P all (hs ++ t) sq' Lm i) ∧ Aheads all (hs ++ t) ∧ EndO P all K (hs ++ t) rest' (sq' (hs ++ t).length)
  | [], hs, sq, h, hL, ha => ⟨[], sq, [], rfl, fun _ _ => rfl, by simpa using hL, by simpa using ha, .inl ⟨rfl, by simpa using h.1, by simpa using h.2⟩⟩
  | j :: rest, hs, sq, h, hL, ha => by
    obtain ⟨h1, o, ho, ⟨R, W, s', hop, k⟩ | ⟨hx, R, W, hok, hn⟩⟩ := h
    · let sq1 : Nat → S := fun i => if i ≤ hs.length then sq i else s'
      have e1 : ∀ i, i ≤ hs.length → sq1 i = sq i := fun i hi => if_pos hi
      have e2 : sq1 (hs.length + 1) = s' := if_neg (by omega)
      have hlen : (hs ++ [(j, (R, W))]).length = hs.length + 1 := by simp
      have hL1 : ∀ i, i < (hs ++ [(j, (R, W))]).length → StepO P all (hs ++ [(j, (R, W))]) sq1 Lm i := fun i hi => by
        by_cases e : i < hs.length
        · exact (hL i e).app e (e1 i (by omega)) (e1 (i + 1) (by omega))
        · have : i = hs.length := by omega
          subst this
          refine ⟨?_, ?_, .inr ⟨o, ?_, ?_⟩⟩
          · rw [e2, e1 _ (Nat.le_refl _)]; exact hop.len
          · rw [getD_app2, e2, e1 _ (Nat.le_refl _)]; exact hop.out
          · rw [getD_app2]; exact ho
          · rw [getD_app2, e2, e1 _ (Nat.le_refl _)]; exact hop
      obtain ⟨t, sq', rest', g1, g2, g3, g4, g5⟩ := LexO.ext rest (hs ++ [(j, (R, W))]) sq1 (by rw [hlen, e2]; exact k) hL1 (ha.snoc h1)
      have ea : hs ++ [(j, (R, W))] ++ t = hs ++ ((j, (R, W)) :: t) := by simp
      rw [ea] at g3 g4 g5
      exact ⟨(j, (R, W)) :: t, sq', rest', by rw [g1]; rfl, fun i hi => (g2 i (by rw [hlen]; omega)).trans (e1 i hi), g3, g4, g5⟩
    · exact ⟨[], sq, j :: rest, rfl, fun _ _ => rfl, by simpa using hL, by simpa using ha, .inr ⟨j, rest, o, R, W, rfl, by simpa using h1, ho, hx, by simpa using hok, by simpa using hn⟩⟩
theorem okO_pre {x : Hi} (h : okO all (hs ++ [x]) = true) {j : Nat} (hj : j < hs.length) : ∀ i, i < j → conflict (hs.getD i default).2 (hs.getD j default).2 = false ∨ reach all 8 (hs.getD j default).1 (hs.getD i default).1 = true := fun i hi => by
  have := okO_at h (j := j) (by simp; omega) i hi
  rwa [getD_app1 hj, getD_app1 (by omega)] at this
theorem EndO.ok {rest : List Nat} {s : S} (h : EndO P all K hs rest s) {j : Nat} (hj : j < hs.length) : ∀ i, i < j → conflict (hs.getD i default).2 (hs.getD j default).2 = false ∨ reach all 8 (hs.getD j default).1 (hs.getD i default).1 = true := by
  rcases h with ⟨_, h, _⟩ | ⟨j', r, o, R, W, _, _, _, _, h, _⟩
  · exact okO_at h hj
  · exact okO_pre h hj
theorem StepO.done {Lm' : Array Bool} {i : Nat} (h : StepO P all hs sq Lm i) (hm : ∀ j, Lm.getD j false = true → Lm'.getD j false = true) : StepO P all hs sq Lm' i := ⟨h.len, h.out, h.run.imp (hm _) id⟩
end
end Go.Proofs.Ytnmfjojhgfipcaa.E
/- Steps of a region that draws, in an order of the proof's own; operations whose result is one of several. Plain theorems, for any program. -/
namespace Go.Proofs.Ytnmfjojhgfipcaa.E
open Go.RowKit
set_option linter.unusedVariables false
section
variable {P : Program} {all : Array Oper} {o : Oper} {s s' : S} {K : S → Prop} {rest : List Nat} {hs : List Hi} {R W : List Loc} {j d n : Nat} {t : Nat → X} {L : Nat → Option AO} {H : Heap} {x : X}
theorem LexO.nil (h : okO all hs = true) (k : K s) : LexO P all K [] s hs := ⟨h, k⟩
theorem LexO.cons (hj : all[j]? = some o) (ha : aheadO all (hs.map (·.1)) j = true) (h : LOp P all o R W s s') (k : LexO P all K rest s' (hs ++ [(j, (R, W))])) : LexO P all K (j :: rest) s hs := ⟨ha, o, hj, .inl ⟨R, W, s', h, k⟩⟩
theorem LexO.nop (hj : all[j]? = some o) (ha : aheadO all (hs.map (·.1)) j = true) (hx : okX all j rest = true) (hok : okO all (hs ++ [(j, (R, W))]) = true) (h : NOp P all o R W s fun s' => LexO P all K rest s' (hs ++ [(j, (R, W))])) : LexO P all K (j :: rest) s hs := ⟨ha, o, hj, .inr ⟨hx, R, W, hok, h⟩⟩
theorem LexO.q (hj : all[j]? = some o) (ha : aheadO all (hs.map (·.1)) j = true) (h : QV P o ⟨n, t, L, H⟩ x) (hg : o.guard = none) (hdst : o.dst = some d) (hd : Nat.blt d n = true) (k : LexO P all K rest ⟨n, upd t d x, L, H⟩ (hs ++ [(j, (lookT all o, dstT o))])) : LexO P all K (j :: rest) ⟨n, t, L, H⟩ hs :=
  .cons hj ha (.q h hg (inb' hdst hd)) (by rw [hdst]; exact k)
theorem LexO.q0 (hj : all[j]? = some o) (ha : aheadO all (hs.map (·.1)) j = true) (h : QV P o s x) (hg : o.guard = none) (hdst : o.dst = none) (k : LexO P all K rest s (hs ++ [(j, (lookT all o, dstT o))])) : LexO P all K (j :: rest) s hs := .cons hj ha (.q0 h hg hdst) k
theorem LexO.on {i i' : Nat} {b : Bool} (hj : all[j]? = some o) (ha : aheadO all (hs.map (·.1)) j = true) (h : QV P o ⟨n, t, L, H⟩ x) (hg : o.guard = some (i', b)) (hi : (all[i']?).bind (·.dst) = some i) (hb : t i = tv (.bool b)) (hdst : o.dst = some d) (hd : Nat.blt d n = true) (k : LexO P all K rest ⟨n, upd t d x, L, H⟩ (hs ++ [(j, (lookT all o, dstT o))])) : LexO P all K (j :: rest) ⟨n, t, L, H⟩ hs :=
  .cons hj ha (.on h hg hi hb (inb' hdst hd)) (by rw [hdst]; exact k)
theorem LexO.off {i i' : Nat} {b b' : Bool} (hj : all[j]? = some o) (ha : aheadO all (hs.map (·.1)) j = true) (hg : o.guard = some (i', b)) (hi : (all[i']?).bind (·.dst) = some i) (hb : t i = tv (.bool b')) (hne : (b' == b) = false) (hdst : o.dst = some d) (hd : Nat.blt d n = true) (k : LexO P all K rest ⟨n, upd t d (.tup []), L, H⟩ (hs ++ [(j, (lookT all o, dstT o))])) : LexO P all K (j :: rest) ⟨n, t, L, H⟩ hs :=
  .cons hj ha (.off hg hi hb (fun e => by subst e; simp at hne) (inb' hdst hd)) (by rw [hdst]; exact k)
theorem LexO.offU {i i' : Nat} {b : Bool} (hj : all[j]? = some o) (ha : aheadO all (hs.map (·.1)) j = true) (hg : o.guard = some (i', b)) (hi : (all[i']?).bind (·.dst) = some i) (hb : t i = .tup []) (hdst : o.dst = some d) (hd : Nat.blt d n = true) (k : LexO P all K rest ⟨n, upd t d (.tup []), L, H⟩ (hs ++ [(j, (lookT all o, dstT o))])) : LexO P all K (j :: rest) ⟨n, t, L, H⟩ hs :=
  .cons hj ha (.offU hg hi hb (inb' hdst hd)) (by rw [hdst]; exact k)
theorem LexO.r {s' : S} (hj : all[j]? = some o) (ha : aheadO all (hs.map (·.1)) j = true) (h : LR P o R W ⟨n, t, L, H⟩ s') (hg : o.guard = none) (k : LexO P all K rest s' (hs ++ [(j, (R, W))])) : LexO P all K (j :: rest) ⟨n, t, L, H⟩ hs := .cons hj ha (.r h hg) k
theorem LexO.rOn {s' : S} {i i' : Nat} {b : Bool} (hj : all[j]? = some o) (ha : aheadO all (hs.map (·.1)) j = true) (h : LR P o R W ⟨n, t, L, H⟩ s') (hg : o.guard = some (i', b)) (hi : (all[i']?).bind (·.dst) = some i) (hb : t i = tv (.bool b)) (k : LexO P all K rest s' (hs ++ [(j, (.t i :: R, W))])) : LexO P all K (j :: rest) ⟨n, t, L, H⟩ hs := .cons hj ha (.rOn h hg hi hb) k
theorem LexO.consD {q : Prop} [Decidable q] {e : Option Nat} (hj : all[j]? = some o) (ha : aheadO all (hs.map (·.1)) j = true) (h : LOp P all o R W s (s.put e (bX (decide q)))) (ht : q → LexO P all K rest (s.put e (bX true)) (hs ++ [(j, (R, W))])) (he : ¬ q → LexO P all K rest (s.put e (bX false)) (hs ++ [(j, (R, W))])) : LexO P all K (j :: rest) s hs := by
  by_cases hq : q
  · rw [decide_eq_true hq] at h; exact .cons hj ha h (ht hq)
  · rw [decide_eq_false hq] at h; exact .cons hj ha h (he hq)
theorem LexO.consB {b : Bool} {e : Option Nat} (hj : all[j]? = some o) (ha : aheadO all (hs.map (·.1)) j = true) (h : LOp P all o R W s (s.put e (bX b))) (ht : b = true → LexO P all K rest (s.put e (bX true)) (hs ++ [(j, (R, W))])) (he : b = false → LexO P all K rest (s.put e (bX false)) (hs ++ [(j, (R, W))])) : LexO P all K (j :: rest) s hs := by
  cases b
  · exact .cons hj ha h (he rfl)
  · exact .cons hj ha h (ht rfl)
theorem LexO.qD {q : Prop} [Decidable q] (hj : all[j]? = some o) (ha : aheadO all (hs.map (·.1)) j = true) (h : QV P o ⟨n, t, L, H⟩ (bX (decide q))) (hg : o.guard = none) (hdst : o.dst = some d) (hd : Nat.blt d n = true) (ht : q → LexO P all K rest ⟨n, upd t d (bX true), L, H⟩ (hs ++ [(j, (lookT all o, dstT o))])) (he : ¬ q → LexO P all K rest ⟨n, upd t d (bX false), L, H⟩ (hs ++ [(j, (lookT all o, dstT o))])) : LexO P all K (j :: rest) ⟨n, t, L, H⟩ hs :=
  LexO.consD hj ha (.q h hg (inb' hdst hd)) (fun hq => by rw [hdst]; exact ht hq) (fun hq => by rw [hdst]; exact he hq)
theorem LexO.qB {b : Bool} (hj : all[j]? = some o) (ha : aheadO all (hs.map (·.1)) j = true) (h : QV P o ⟨n, t, L, H⟩ (bX b)) (hg : o.guard = none) (hdst : o.dst = some d) (hd : Nat.blt d n = true) (ht : b = true → LexO P all K rest ⟨n, upd t d (bX true), L, H⟩ (hs ++ [(j, (lookT all o, dstT o))])) (he : b = false → LexO P all K rest ⟨n, upd t d (bX false), L, H⟩ (hs ++ [(j, (lookT all o, dstT o))])) : LexO P all K (j :: rest) ⟨n, t, L, H⟩ hs :=
  LexO.consB hj ha (.q h hg (inb' hdst hd)) (fun hq => by rw [hdst]; exact ht hq) (fun hq => by rw [hdst]; exact he hq)
theorem LexO.onD {i i' : Nat} {b : Bool} {q : Prop} [Decidable q] (hj : all[j]? = some o) (ha : aheadO all (hs.map (·.1)) j = true) (h : QV P o ⟨n, t, L, H⟩ (bX (decide q))) (hg : o.guard = some (i', b)) (hi : (all[i']?).bind (·.dst) = some i) (hb : t i = tv (.bool b)) (hdst : o.dst = some d) (hd : Nat.blt d n = true) (ht : q → LexO P all K rest ⟨n, upd t d (bX true), L, H⟩ (hs ++ [(j, (lookT all o, dstT o))])) (he : ¬ q → LexO P all K rest ⟨n, upd t d (bX false), L, H⟩ (hs ++ [(j, (lookT all o, dstT o))])) : LexO P all K (j :: rest) ⟨n, t, L, H⟩ hs :=
  LexO.consD hj ha (.on h hg hi hb (inb' hdst hd)) (fun hq => by rw [hdst]; exact ht hq) (fun hq => by rw [hdst]; exact he hq)
theorem LexO.onB {i i' : Nat} {b c : Bool} (hj : all[j]? = some o) (ha : aheadO all (hs.map (·.1)) j = true) (h : QV P o ⟨n, t, L, H⟩ (bX c)) (hg : o.guard = some (i', b)) (hi : (all[i']?).bind (·.dst) = some i) (hb : t i = tv (.bool b)) (hdst : o.dst = some d) (hd : Nat.blt d n = true) (ht : c = true → LexO P all K rest ⟨n, upd t d (bX true), L, H⟩ (hs ++ [(j, (lookT all o, dstT o))])) (he : c = false → LexO P all K rest ⟨n, upd t d (bX false), L, H⟩ (hs ++ [(j, (lookT all o, dstT o))])) : LexO P all K (j :: rest) ⟨n, t, L, H⟩ hs :=
  LexO.consB hj ha (.on h hg hi hb (inb' hdst hd)) (fun hq => by rw [hdst]; exact ht hq) (fun hq => by rw [hdst]; exact he hq)
/-! ### one of several results -/
/-- whatever state agrees with s where the operation looks: a value in its slot, and the objects turned, as Q says -/
def EOp (P : Program) (all : Array Oper) (o : Oper) (R : List Loc) (d : Nat) (s : S) (Q : X → Heap → Prop) : Prop :=
  ∀ s1, Len s1 s → (∀ ℓ, ℓ ∈ R → Same ℓ s1 s) → OpW P all o (fun s2 => ∃ x H', Q x H' ∧ s2 = ⟨s1.n, upd s1.t d x, s1.L, H'⟩) s1
theorem NOp.e {Q : X → Heap → Prop} (h : EOp P all o R d ⟨n, t, L, H⟩ Q) (k : ∀ x H', Q x H' → K ⟨n, upd t d x, L, H'⟩) : NOp P all o R [.t d, .h] ⟨n, t, L, H⟩ K := fun s1 hl hs => (h s1 hl hs).mono fun s2 ⟨x, H', q, e⟩ => by
  refine ⟨⟨n, upd t d x, L, H'⟩, rfl, fun ℓ hℓ => ?_, ?_, k x H' q⟩
  · cases ℓ with
    | t i =>
      have h : i ≠ d := fun e => hℓ (by simp [e])
      simp [Same, upd_ne _ _ h]
    | b i => rfl
    | h => exact absurd (by simp) hℓ
  · subst e
    refine S.ext' rfl fun ℓ => ?_
    cases ℓ with
    | t i =>
      by_cases h : i = d
      · subst h; simp [Same, S.over, upd_same]
      · simp [Same, S.over, upd_ne _ _ h, h]
    | b i => simp [Same, S.over]
    | h => simp [Same, S.over]
/-- a value alone -/
def VOp (P : Program) (all : Array Oper) (o : Oper) (R : List Loc) (d : Nat) (s : S) (Q : X → Prop) : Prop :=
  ∀ s1, Len s1 s → (∀ ℓ, ℓ ∈ R → Same ℓ s1 s) → OpW P all o (fun s2 => ∃ x, Q x ∧ s2 = ⟨s1.n, upd s1.t d x, s1.L, s1.H⟩) s1
theorem NOp.v {Q : X → Prop} (h : VOp P all o R d ⟨n, t, L, H⟩ Q) (k : ∀ x, Q x → K ⟨n, upd t d x, L, H⟩) : NOp P all o R [.t d] ⟨n, t, L, H⟩ K := fun s1 hl hs => (h s1 hl hs).mono fun s2 ⟨x, q, e⟩ => by
  refine ⟨⟨n, upd t d x, L, H⟩, rfl, fun ℓ hℓ => ?_, ?_, k x q⟩
  · cases ℓ with
    | t i =>
      have h : i ≠ d := fun e => hℓ (by simp [e])
      simp [Same, upd_ne _ _ h]
    | b i => rfl
    | h => rfl
  · subst e
    refine S.ext' rfl fun ℓ => ?_
    cases ℓ with
    | t i =>
      by_cases h : i = d
      · subst h; simp [Same, S.over, upd_same]
      · simp [Same, S.over, upd_ne _ _ h, h]
    | b i => simp [Same, S.over]
    | h => simp [Same, S.over]
theorem evO {s1 s : S} (hs : ∀ ℓ, ℓ ∈ Loc.h :: lk o → Same ℓ s1 s) {y : Operand} (hy : y ∈ o.op.operands) : s1.eval y = s.eval y := evs hs (fun _ h => List.mem_cons_of_mem _ h) hy
theorem argsX_same {s1 s : S} : ∀ {l : List Operand}, (∀ y ∈ l, s1.eval y = s.eval y) → argsX s1 l = argsX s l
  | [], _ => rfl
  | y :: l, h => by
    have h1 := h y (by simp)
    have h2 := argsX_same (s1 := s1) (s := s) (l := l) fun z hz => h z (List.mem_cons_of_mem _ hz)
    simp only [argsX, h1, h2]
/-- .. from a rule for each state of that kind -/
theorem EOp.of {Q : X → Heap → Prop} (h : ∀ (t1 : Nat → X) (L1 : Nat → Option AO), (∀ y, y ∈ o.op.operands → S.eval ⟨n, t1, L1, H⟩ y = S.eval ⟨n, t, L, H⟩ y) → OpW P all o (fun s2 => ∃ x H', Q x H' ∧ s2 = ⟨n, upd t1 d x, L1, H'⟩) ⟨n, t1, L1, H⟩) : EOp P all o (.h :: lk o) d ⟨n, t, L, H⟩ Q := by
  intro s1 hl hs
  obtain ⟨n1, t1, L1, H1⟩ := s1
  have e1 : n1 = n := hl
  have e2 : H1 = H := hs .h (by simp)
  subst e1 e2
  exact h t1 L1 fun y hy => evO hs hy
theorem VOp.of {Q : X → Prop} (h : ∀ (t1 : Nat → X) (L1 : Nat → Option AO), (∀ y, y ∈ o.op.operands → S.eval ⟨n, t1, L1, H⟩ y = S.eval ⟨n, t, L, H⟩ y) → OpW P all o (fun s2 => ∃ x, Q x ∧ s2 = ⟨n, upd t1 d x, L1, H⟩) ⟨n, t1, L1, H⟩) : VOp P all o (.h :: lk o) d ⟨n, t, L, H⟩ Q := by
  intro s1 hl hs
  obtain ⟨n1, t1, L1, H1⟩ := s1
  have e1 : n1 = n := hl
  have e2 : H1 = H := hs .h (by simp)
  subst e1 e2
  exact h t1 L1 fun y hy => evO hs hy
abbrev fpE (o : Oper) (d : Nat) : Fp := (.h :: lk o, [.t d, .h])
theorem LexO.e {Q : X → Heap → Prop} (hj : all[j]? = some o) (ha : aheadO all (hs.map (·.1)) j = true) (hx : okX all j rest = true) (hok : okO all (hs ++ [(j, fpE o d)]) = true) (h : EOp P all o (.h :: lk o) d ⟨n, t, L, H⟩ Q) (k : ∀ x H', Q x H' → LexO P all K rest ⟨n, upd t d x, L, H'⟩ (hs ++ [(j, fpE o d)])) : LexO P all K (j :: rest) ⟨n, t, L, H⟩ hs :=
  .nop hj ha hx hok (.e h k)
variable {x0 y : Operand} {tt e : TypeId} {sz bytes k m : Nat} {z : Nz} {cells r : List A} {es es' : List (List T)} {H0 : Heap} {c : C}
theorem LexO.newBox (hj : all[j]? = some o) (ha : aheadO all (hs.map (·.1)) j = true) (hx : okX all j rest = true) (hok : okO all (hs ++ [(j, fpE o d)]) = true) (ho : o.op = .box e y) (hg : o.guard = none) (hdst : o.dst = some d) (hy : S.eval ⟨n, t, L, H⟩ y = .c c) (hr : c.cells = r) (hd : Nat.blt d n = true)
    (k : ∀ k, H k = none → LexO P all K rest ⟨n, upd t d (.c (.a (.bp k 0))), L, upd H k (some (.box r))⟩ (hs ++ [(j, fpE o d)])) : LexO P all K (j :: rest) ⟨n, t, L, H⟩ hs :=
  .e (Q := fun x H' => ∃ k, H k = none ∧ x = .c (.a (.bp k 0)) ∧ H' = upd H k (some (.box r))) hj ha hx hok (.of fun t1 L1 ev => e_box r hg ho (by rw [ev y (by rw [ho]; simp [Op.operands])]; exact hy) hr (inb' hdst hd) fun k' hk' => ⟨_, _, ⟨k', hk', rfl, rfl⟩, by rw [hdst]; rfl⟩) fun x H' ⟨k', h1, h2, h3⟩ => by subst h2 h3; exact k k' h1
theorem LexO.newAlloc {zv : Value} (hj : all[j]? = some o) (ha : aheadO all (hs.map (·.1)) j = true) (hx : okX all j rest = true) (hok : okO all (hs ++ [(j, fpE o d)]) = true) (ho : o.op = .alloc e) (hg : o.guard = none) (hdst : o.dst = some d) (hz : zeroIs P e zv) (h1 : zv.cells.toList.all Value.oneCell' = true) (hr : zv.cells.toList.map litA = r) (hd : Nat.blt d n = true)
    (k : ∀ k, H k = none → LexO P all K rest ⟨n, upd t d (.c (.a (.bp k 0))), L, upd H k (some (.box r))⟩ (hs ++ [(j, fpE o d)])) : LexO P all K (j :: rest) ⟨n, t, L, H⟩ hs :=
  .e (Q := fun x H' => ∃ k, H k = none ∧ x = .c (.a (.bp k 0)) ∧ H' = upd H k (some (.box r))) hj ha hx hok (.of fun t1 L1 ev => e_alloc r hg ho hz h1 hr (inb' hdst hd) fun k' hk' => ⟨_, _, ⟨k', hk', rfl, rfl⟩, by rw [hdst]; rfl⟩) fun x H' ⟨k', h1, h2, h3⟩ => by subst h2 h3; exact k k' h1
theorem LexO.newMap (kk : KK) (hj : all[j]? = some o) (ha : aheadO all (hs.map (·.1)) j = true) (hx : okX all j rest = true) (hok : okO all (hs ++ [(j, fpE o d)]) = true) (ho : o.op = .makeMap e none) (hg : o.guard = none) (hdst : o.dst = some d) (hd : Nat.blt d n = true)
    (k : ∀ k, H k = none → LexO P all K rest ⟨n, upd t d (.c (.a (.mp k))), L, upd H k (some (.map kk [] 0))⟩ (hs ++ [(j, fpE o d)])) : LexO P all K (j :: rest) ⟨n, t, L, H⟩ hs :=
  .e (Q := fun x H' => ∃ k, H k = none ∧ x = .c (.a (.mp k)) ∧ H' = upd H k (some (.map kk [] 0))) hj ha hx hok (.of fun t1 L1 ev => e_makeMap kk hg ho (inb' hdst hd) fun k' hk' => ⟨_, _, ⟨k', hk', rfl, rfl⟩, by rw [hdst]; rfl⟩) fun x H' ⟨k', h1, h2, h3⟩ => by subst h2 h3; exact k k' h1
theorem LexO.app (hj : all[j]? = some o) (ha : aheadO all (hs.map (·.1)) j = true) (hok1 : okX all j rest = true) (hok : okO all (hs ++ [(j, fpE o d)]) = true) (hg : o.guard = none) (ho : o.op = .call { callee := .builtin .append, args := #[x0, y], argTypes := #[tt, tt] }) (ty : elB P tt e sz bytes = true) (hx : S.eval ⟨n, t, L, H⟩ x0 = .c (.a (.ts k z sz es))) (hH : H k = some (.tip e sz es.length)) (hy : srcX (S.eval ⟨n, t, L, H⟩ y) = some (es', sz)) (hb : (es.length + es'.length) * bytes ≤ 140737488355328 ∧ es.length + es'.length ≤ 9223372036854775807) (hdst : o.dst = some d) (hd : Nat.blt d n = true)
    (hk : ∀ k', H k' = none → LexO P all K rest ⟨n, upd t d (.c (.a (.ts k' z sz (es ++ es')))), L, upd (upd H k none) k' (some (.tip e sz (es ++ es').length))⟩ (hs ++ [(j, fpE o d)])) : LexO P all K (j :: rest) ⟨n, t, L, H⟩ hs :=
  .e (Q := fun x H' => ∃ k', H k' = none ∧ x = .c (.a (.ts k' z sz (es ++ es'))) ∧ H' = upd (upd H k none) k' (some (.tip e sz (es ++ es').length))) hj ha hok1 hok (.of fun t1 L1 ev => e_app hg ho ty (by rw [ev x0 (by rw [ho]; simp [Op.operands, Call.operands])]; exact hx) hH (by rw [ev y (by rw [ho]; simp [Op.operands, Call.operands])]; exact hy) hb hdst hd fun k' hk' => ⟨_, _, ⟨k', hk', rfl, rfl⟩, rfl⟩) fun x H' ⟨k', h1, h2, h3⟩ => by subst h2 h3; exact hk k' h1
theorem LexO.app1 (hj : all[j]? = some o) (ha : aheadO all (hs.map (·.1)) j = true) (hok1 : okX all j rest = true) (hok : okO all (hs ++ [(j, fpE o d)]) = true) (hg : o.guard = none) (h0 : H0 k = none) (ho : o.op = .call { callee := .builtin .append, args := #[x0, y], argTypes := #[tt, tt] }) (ty : elB P tt e sz bytes = true) (hx : S.eval ⟨n, t, L, upd H0 k (some (.tip e sz es.length))⟩ x0 = .c (.a (.ts k z sz es))) (hy : srcX (S.eval ⟨n, t, L, upd H0 k (some (.tip e sz es.length))⟩ y) = some (es', sz)) (hb : (es.length + es'.length) * bytes ≤ 140737488355328 ∧ es.length + es'.length ≤ 9223372036854775807) (hdst : o.dst = some d) (hd : Nat.blt d n = true)
    (hk : ∀ k', H0 k' = none → LexO P all K rest ⟨n, upd t d (.c (.a (.ts k' z sz (es ++ es')))), L, upd H0 k' (some (.tip e sz (es ++ es').length))⟩ (hs ++ [(j, fpE o d)])) : LexO P all K (j :: rest) ⟨n, t, L, upd H0 k (some (.tip e sz es.length))⟩ hs :=
  .app hj ha hok1 hok hg ho ty hx (upd_same _ _ _) hy hb hdst hd fun k' h' => by rw [upd_back h0]; exact hk k' (upd_lt h').2
theorem LexO.appR (hj : all[j]? = some o) (ha : aheadO all (hs.map (·.1)) j = true) (hok1 : okX all j rest = true) (hok : okO all (hs ++ [(j, fpE o d)]) = true) (hg : o.guard = none) (ho : o.op = .call { callee := .builtin .append, args := #[x0, y], argTypes := #[tt, tt] }) (ty : elB P tt e sz bytes = true) (hx : S.eval ⟨n, t, L, H⟩ x0 = .c (.a (.os k 0 m sz))) (hH : H k = some (.row e sz cells)) (hm : cells.length = m * sz) (hy : srcX (S.eval ⟨n, t, L, H⟩ y) = some (es', sz)) (hb : (m + es'.length) * bytes ≤ 140737488355328 ∧ m + es'.length ≤ 9223372036854775807) (hdst : o.dst = some d) (hd : Nat.blt d n = true)
    (hk : ∀ k', H k' = none → LexO P all K rest ⟨n, upd t d (.c (.a (.os k' 0 (m + es'.length) sz))), L, upd (upd H k none) k' (some (.row e sz (cells ++ es'.flatten.map .t)))⟩ (hs ++ [(j, fpE o d)])) : LexO P all K (j :: rest) ⟨n, t, L, H⟩ hs :=
  .e (Q := fun x H' => ∃ k', H k' = none ∧ x = .c (.a (.os k' 0 (m + es'.length) sz)) ∧ H' = upd (upd H k none) k' (some (.row e sz (cells ++ es'.flatten.map .t)))) hj ha hok1 hok (.of fun t1 L1 ev => e_appR hg ho ty (by rw [ev x0 (by rw [ho]; simp [Op.operands, Call.operands])]; exact hx) hH hm (by rw [ev y (by rw [ho]; simp [Op.operands, Call.operands])]; exact hy) hb hdst hd fun k' hk' => ⟨_, _, ⟨k', hk', rfl, rfl⟩, rfl⟩) fun x H' ⟨k', h1, h2, h3⟩ => by subst h2 h3; exact hk k' h1
theorem LexO.appR1 (hj : all[j]? = some o) (ha : aheadO all (hs.map (·.1)) j = true) (hok1 : okX all j rest = true) (hok : okO all (hs ++ [(j, fpE o d)]) = true) (hg : o.guard = none) (h0 : H0 k = none) (ho : o.op = .call { callee := .builtin .append, args := #[x0, y], argTypes := #[tt, tt] }) (ty : elB P tt e sz bytes = true) (hx : S.eval ⟨n, t, L, upd H0 k (some (.row e sz cells))⟩ x0 = .c (.a (.os k 0 m sz))) (hm : cells.length = m * sz) (hy : srcX (S.eval ⟨n, t, L, upd H0 k (some (.row e sz cells))⟩ y) = some (es', sz)) (hb : (m + es'.length) * bytes ≤ 140737488355328 ∧ m + es'.length ≤ 9223372036854775807) (hdst : o.dst = some d) (hd : Nat.blt d n = true)
    (hk : ∀ k', H0 k' = none → LexO P all K rest ⟨n, upd t d (.c (.a (.os k' 0 (m + es'.length) sz))), L, upd H0 k' (some (.row e sz (cells ++ es'.flatten.map .t)))⟩ (hs ++ [(j, fpE o d)])) : LexO P all K (j :: rest) ⟨n, t, L, upd H0 k (some (.row e sz cells))⟩ hs :=
  .appR hj ha hok1 hok hg ho ty hx (upd_same _ _ _) hm hy hb hdst hd fun k' h' => by rw [upd_back h0]; exact hk k' (upd_lt h').2
theorem LexO.callE {f : FuncId} {ys : Array Operand} {ts : Array TypeId} {args : List C} {Q : X → Heap → Prop} (hj : all[j]? = some o) (ha : aheadO all (hs.map (·.1)) j = true) (hok1 : okX all j rest = true) (hok : okO all (hs ++ [(j, fpE o d)]) = true) (ho : o.op = .call { callee := .value (.func f), args := ys, argTypes := ts }) (hg : o.guard = none) (hdst : o.dst = some d) (hd : Nat.blt d n = true) (hf : fnB P f = true) (hargs : argsX ⟨n, t, L, H⟩ ys.toList = some args) (h : Spec P f args H Q) (hl : ∀ x H', Q x H' → x.loc = none)
    (k : ∀ x H', Q x H' → LexO P all K rest ⟨n, upd t d x, L, H'⟩ (hs ++ [(j, fpE o d)])) : LexO P all K (j :: rest) ⟨n, t, L, H⟩ hs :=
  .e (Q := Q) hj ha hok1 hok (.of fun t1 L1 ev => OpW.callE ho hg hdst hd hf (by rw [argsX_same fun y hy => ev y (by rw [ho]; simp only [Op.operands, Call.operands]; simpa using .inr (by simpa using hy))]; exact hargs) h hl fun x H' q => ⟨x, H', q, rfl⟩) k
theorem LexO.callV {zf : Operand} {f : FuncId} {cs : List A} {ys : Array Operand} {ts : Array TypeId} {args : List C} {Q : X → Heap → Prop} (hj : all[j]? = some o) (ha : aheadO all (hs.map (·.1)) j = true) (hok1 : okX all j rest = true) (hok : okO all (hs ++ [(j, fpE o d)]) = true) (ho : o.op = .call { callee := .value zf, args := ys, argTypes := ts }) (hg : o.guard = none) (hdst : o.dst = some d) (hd : Nat.blt d n = true) (hz : fnX (S.eval ⟨n, t, L, H⟩ zf) = some (f, cs)) (hf : fnB P f = true) (hargs : argsX ⟨n, t, L, H⟩ ys.toList = some args) (h : Spec P f (args ++ cs.map C.a) H Q) (hl : ∀ x H', Q x H' → x.loc = none)
    (k : ∀ x H', Q x H' → LexO P all K rest ⟨n, upd t d x, L, H'⟩ (hs ++ [(j, fpE o d)])) : LexO P all K (j :: rest) ⟨n, t, L, H⟩ hs :=
  .e (Q := Q) hj ha hok1 hok (.of fun t1 L1 ev => OpW.callV ho hg hdst hd (by rw [ev zf (by rw [ho]; simp [Op.operands, Call.operands])]; exact hz) hf (by rw [argsX_same fun y hy => ev y (by rw [ho]; simp only [Op.operands, Call.operands]; simpa using .inr (by simpa using hy))]; exact hargs) h hl fun x H' q => ⟨x, H', q, rfl⟩) k
end
end Go.Proofs.Ytnmfjojhgfipcaa.E
