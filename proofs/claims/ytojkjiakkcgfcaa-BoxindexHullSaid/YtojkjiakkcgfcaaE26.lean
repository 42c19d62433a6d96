/- From the form's reading of the arguments to the engine's trees; the last step of a law's row. Plain theorems, for any program. -/
import Derived.Test.YtojkjiakkcgfcaaE25
import Derived.ProofKit
import Derived.OpenShut
import Derived.ShutString
import Derived.ChangeOld
import Derived.Carry
import Derived.Deep.Slices
import Derived.Lib.SmallJoins
import Derived.SizedLaws
namespace Go.Proofs.Ytojkjiakkcgfcaa.E
open Go.RowKit Go.ChangeShapes Go.WideShapes Go.ChangeAt Go.Deep
set_option linter.unusedVariables false
section
variable {H : Type} {enc : TypeId × Value → H} {P : Program} {w W W' : World}
theorem trodAll_below (hl : laidOutB P = true) : ∀ (ts : List TypeId) (vs : List Value) (ds : List (DataW H)) (ps : List MemPlace), (∀ t ∈ ts, P.readableRec t = true ∧ t < P.types.size) →
    DataW.TrodAll enc P W 0 (fun _ => true) true ts vs ds ps → Below W.heap.size W W' → DataW.TrodAll enc P W' 0 (fun b => decide (b < W.heap.size)) true ts vs ds ps
  | [], vs, ds, ps, _, h, _ => by
    obtain ⟨rfl, rfl, rfl⟩ := trodAll_nil h
    exact trodAll_mk0
  | t :: ts, vs, ds, ps, hr, h, hb => by
    obtain ⟨v, vs', d, ds', p, q, rfl, rfl, rfl, h1, h2⟩ := trodAll_cons h
    refine trodAll_cons_mk (Below.trod hl (hr t (by simp)).1 (hr t (by simp)).2 h1 hb ?_) (trodAll_below hl ts vs' ds' q (fun t ht => hr t (by simp [ht])) h2 hb)
    obtain ⟨m, hm⟩ := h1
    exact DataW.trod_lt m _ _ _ hm
/-- the form's reach, of a datum: no string, slice or map in it takes more -/
def Sz {H : Type} (P : Program) (t : TypeId) (d : DataW H) : Prop := ∀ n ∈ d.weights P t, n ≤ 140737488351232
theorem Sz.of {H : Type} {P : Program} {ts : List TypeId} {ds : List (DataW H)} (h : (DataW.weightsEach P ts ds).all (· ≤ reachBytes) = true) {j : Nat} {t : TypeId} {d : DataW H} (ht : ts[j]? = some t) (hd : ds[j]? = some d) : Sz P t d := by
  intro n hn
  have := List.all_eq_true.1 h n (DataW.weights_mem_each ht hd n hn)
  show n ≤ reachBytes
  exact of_decide_eq_true this
theorem weights_all {H : Type} {P : Program} {e : TypeId} : ∀ {ds : List (DataW H)} {d : DataW H}, d ∈ ds → ∀ n ∈ d.weights P e, n ∈ DataW.weightsAll P e ds
  | d' :: ds, d, h, n, hn => by
    simp only [DataW.weightsAll, List.mem_append]
    rcases List.mem_cons.1 h with rfl | h
    · exact .inl hn
    · exact .inr (weights_all h n hn)
end
/-- all memory is common -/
abbrev mu (w : World) : Mem := fun b o => w.cell? ⟨b, o, none⟩
/-- the data of a type read as trees -/
def Reads {α : Type} (P : Program) (N : Nat) (t : TypeId) (n : Nat) (F : α → List T) (ok : α → Prop) : Prop :=
  ∀ (H : Type) (enc : TypeId × Value → H) (w : World) (sp : Nat → Bool) (held : Bool) (fuel : Nat) (cs : List Value) (y : DataW H × List MemPlace), fuel ≤ N →
    DataW.trod enc P w 0 sp held fuel t cs = some y → Sz P t y.1 → cs.length = n → ∃ x, Reps (RepT (mu w)) (F x) cs ∧ ok x
/-- the same, of a struct's fields from one on -/
def ReadsF {α : Type} (P : Program) (N : Nat) (off : Nat) (fl : List Field) (n : Nat) (F : α → List T) (ok : α → Prop) : Prop :=
  ∀ (H : Type) (enc : TypeId × Value → H) (w : World) (sp : Nat → Bool) (held : Bool) (m : Nat) (cs : List Value), m < N →
    (∀ f ∈ fl, ∃ y, DataW.trod enc P w 0 sp held m f.type ((cs.drop f.offset).take (P.cellsOf f.type)) = some y ∧ Sz P f.type y.1) → cs.length = off + n → ∃ x, Reps (RepT (mu w)) (F x) (cs.drop off) ∧ ok x
section
variable {α β : Type} {P : Program} {N n : Nat} {t e : TypeId} {F : α → List T} {ok : α → Prop} {G : β → List T} {ok' : β → Prop}
theorem Reads.conv (h : Reads P N t n F ok) (g : α → β) (hg : ∀ x, ok x → G (g x) = F x) (ho : ∀ x, ok x → ok' (g x)) : Reads P N t n G ok' := fun H enc w sp held fuel cs y hf hy hz hl => by
  obtain ⟨x, h1, h2⟩ := h H enc w sp held fuel cs y hf hy hz hl
  exact ⟨g x, by rw [hg x h2]; exact h1, ho x h2⟩
theorem reps1 {μ : Mem} {x : T} {v : Value} (h : RepT μ x v) : Reps (RepT μ) [x] [v] := .cons h .nil
theorem Reads.int {k : IntKind} (ht : P.underlying t = some (.int k)) : Reads P N t 1 (fun i : Int => [.v (.int k i)]) (fun i => (Lit.int k i).wf = true) := fun H enc w sp held fuel cs y hf hy hz hl => by
  obtain ⟨i, rfl, _, h⟩ := DataW.trod_int ht hy
  exact ⟨i, reps1 (.v rfl), h⟩
theorem Reads.bool (ht : P.underlying t = some .bool) : Reads P N t 1 (fun b : Bool => [.v (.bool b)]) (fun _ => True) := fun H enc w sp held fuel cs y hf hy hz hl => by
  obtain ⟨i, rfl, _⟩ := DataW.trod_bool ht hy
  exact ⟨i, reps1 (.v rfl), trivial⟩
theorem Reads.string (ht : P.underlying t = some .string) : Reads P N t 1 (fun s : ByteArray => [.v (.string s)]) (fun s => s.size ≤ 140737488351232) := fun H enc w sp held fuel cs y hf hy hz hl => by
  obtain ⟨s, rfl, hx, _⟩ := DataW.trod_string ht hy
  refine ⟨s, reps1 (.v rfl), ?_⟩
  have := hz s.data.toList.length (by rw [hx]; simp [DataW.weights])
  rwa [Array.length_toList] at this
theorem ReadsF.nil {off : Nat} : ReadsF P N off [] 0 (fun _ : Unit => []) (fun _ => True) := fun H enc w sp held m cs hm h hl => ⟨(), by rw [List.drop_eq_nil_of_le (by omega)]; exact .nil, trivial⟩
theorem ReadsF.cons {f : Field} {fl : List Field} {off n1 n2 : Nat} (ho : f.offset = off) (hc : P.cellsOf f.type = n1) (h1 : ∀ M, M < N → Reads P M f.type n1 F ok) (h2 : ReadsF P N (off + n1) fl n2 G ok') :
    ReadsF P N off (f :: fl) (n1 + n2) (fun p : α × β => F p.1 ++ G p.2) (fun p => ok p.1 ∧ ok' p.2) := fun H enc w sp held m cs hm h hl => by
  obtain ⟨y, hy, hz⟩ := h f (by simp)
  rw [ho, hc] at hy
  obtain ⟨x, h3, h4⟩ := h1 m hm H enc w sp held m _ y (Nat.le_refl _) hy hz (by simp; omega)
  obtain ⟨x', h5, h6⟩ := h2 H enc w sp held m cs hm (fun f' hf => h f' (by simp [hf])) (by omega)
  refine ⟨(x, x'), ?_, h4, h6⟩
  have e1 : cs.drop off = (cs.drop off).take n1 ++ cs.drop (off + n1) := by rw [← List.drop_drop, List.take_append_drop]
  rw [e1]
  exact h3.append h5
theorem Reads.struct {fl : List Field} (ht : P.underlying t = some (.struct ⟨fl⟩)) (h : ReadsF P N 0 fl n F ok) : Reads P N t n F ok := fun H enc w sp held fuel cs y hf hy hz hl => by
  obtain ⟨xs, m, hm, hx, _, hxl, hg⟩ := DataW.trod_struct ht hy
  have hxl' : xs.length = fl.length := by simpa using hxl
  obtain ⟨x, h1, h2⟩ := h H enc w sp held m cs (by omega) (fun f hfl => by
    obtain ⟨i, hi⟩ := List.getElem?_of_mem hfl
    have hi' : i < fl.length := (List.getElem?_eq_some_iff.1 hi).1
    have h3 := hg i f (by simpa using hi)
    have h5 : xs[i]? = some xs[i] := List.getElem?_eq_getElem (by omega)
    refine ⟨xs[i], by rw [h3, h5], fun k hk => hz k ?_⟩
    rw [hx]
    simp only [DataW.weights, ht]
    exact DataW.weights_mem_each (j := i) (by simp [hi]) (by rw [List.getElem?_map, h5]; rfl) k hk) (by omega)
  exact ⟨x, by simpa using h1, h2⟩
/-- many with a reading each -/
theorem many {μ : Mem} : ∀ (css : List (List Value)), (∀ c ∈ css, ∃ x, Reps (RepT μ) (F x) c ∧ ok x) → ∃ xs : List α, xs.length = css.length ∧ (∀ (i : Nat) (x : α) (c : List Value), xs[i]? = some x → css[i]? = some c → Reps (RepT μ) (F x) c) ∧ ∀ x ∈ xs, ok x
  | [], _ => ⟨[], rfl, fun i x c h => by simp at h, by simp⟩
  | c :: css, h => by
    obtain ⟨x, h1, h2⟩ := h c (by simp)
    obtain ⟨xs, h3, h4, h5⟩ := many css fun c hc => h c (by simp [hc])
    refine ⟨x :: xs, by simp [h3], fun i x' c' hi hc => ?_, by simpa using ⟨h2, h5⟩⟩
    cases i with
    | zero => simp at hi hc; subst hi hc; exact h1
    | succ i => exact h4 i x' c' (by simpa using hi) (by simpa using hc)
theorem Reads.slice (ht : P.underlying t = some (.slice e)) (hC : P.cellsOf e = n) (hs : 0 < n) (h : ∀ M, M < N → Reads P M e n F ok) :
    Reads P N t 1 (fun l : List α => [.sl .un n (l.map F)]) (fun l => l.length * P.bytesOf e ≤ 140737488351232 ∧ l.length ≤ maxLen ∧ ∀ x ∈ l, ok x) := fun H enc w sp held fuel cs y hf hy hz hl => by
  rcases DataW.trod_slice ht hy with ⟨rfl, _⟩ | ⟨a, len, cap, elems, rest, m, hm, rfl, hx, _, hlc, hcm, hel, hg, _⟩
  · exact ⟨[], reps1 (.nil (by simp)), by simp, by simp, by simp⟩
  · rw [hC] at hg
    have hi' : ∀ i, ∃ cs', i < len → w.cells? 0 (a.add (i * n)) n = some cs' ∧ ∃ y, DataW.trod enc P w 0 sp held m e cs' = some y ∧ Sz P e y.1 := by
      intro i
      by_cases h : i < len
      · have h1 := hg i h
        have h2 : elems[i]? = some elems[i] := List.getElem?_eq_getElem (by omega)
        rw [h2, Option.bind_eq_some_iff] at h1
        obtain ⟨cs', h3, h4⟩ := h1
        refine ⟨cs', fun _ => ⟨h3, _, h4, fun k hk => hz k ?_⟩⟩
        rw [hx]
        simp only [DataW.weights, ht, List.mem_cons, List.mem_append]
        exact .inr (.inl (weights_all (List.mem_map.2 ⟨_, List.getElem_mem (by omega), rfl⟩) k hk))
      · exact ⟨[], fun h' => absurd h' h⟩
    obtain ⟨f, hff⟩ := Classical.axiomOfChoice hi'
    obtain ⟨xs, h1, h2, h3⟩ := many (F := F) (ok := ok) (μ := mu w) ((List.range len).map f) fun c hc => by
      obtain ⟨i, hi, rfl⟩ := List.mem_map.1 hc
      obtain ⟨h5, y', h6, h7⟩ := hff i (List.mem_range.1 hi)
      exact h m (by omega) H enc w sp held m _ y' (Nat.le_refl _) h6 h7 (World.cells?_some h5).2.1
    have hxl : xs.length = len := by simpa using h1
    have hb : xs.length * P.bytesOf e ≤ 140737488351232 := by
      have := hz ((elems.length + rest.length) * P.bytesOf e) (by rw [hx]; simp [DataW.weights, ht])
      refine Nat.le_trans (Nat.mul_le_mul_right _ ?_) this
      omega
    refine ⟨xs, reps1 ?_, hb, by omega, h3⟩
    rcases Nat.eq_zero_or_pos len with h0 | h0
    · have : xs = [] := List.length_eq_zero_iff.1 (by omega)
      subst this; subst h0
      exact .emp (by simp)
    · have hspot : a.spot = none := by
        obtain ⟨_, hl0, hc0⟩ := World.cells?_some (hff 0 h0).1
        have h0 := hc0 0 hs
        rw [List.getElem?_eq_getElem (by omega), Go.Deep.add_add] at h0
        have := World.cell?_spot h0
        simpa [Addr.add] using this
      obtain ⟨b, off, spot⟩ := a
      simp only at hspot
      subst hspot
      have add_eq : ∀ j, (⟨b, off, none⟩ : Addr).add j = ⟨b, off + j, none⟩ := fun j => by unfold Addr.add; split <;> simp_all
      have fl : ∀ i, i < len → (f i).length = n := fun i hi => (World.cells?_some (hff i hi).1).2.1
      have el : ∀ i (e : List T), (xs.map F)[i]? = some e → i < len ∧ Reps (RepT (mu w)) e (f i) := fun i e he => by
        have hi : i < xs.length := by have := (List.getElem?_eq_some_iff.1 he).1; simpa using this
        have e1 : e = F xs[i] := by have := (List.getElem?_eq_some_iff.1 he).2; simpa using this.symm
        subst e1
        exact ⟨by omega, h2 i _ _ (List.getElem?_eq_getElem hi) (by simp [List.getElem?_map, List.getElem?_range (show i < len by omega)])⟩
      refine .sl (fun i j => (f i).getD j undef) (fun e => by have := congrArg List.length e; simp at this; subst this; simp at hxl; omega) (by simp [hxl]) (by omega) (fun i e he => ?_) (fun i e j x he hj => ?_) (fun i e j x he hj => ?_)
      · obtain ⟨hi, hr⟩ := el i e he
        rw [hr.1, fl i hi]
      · obtain ⟨hi, hr⟩ := el i e he
        have hj' : j < n := by have := (List.getElem?_eq_some_iff.1 hj).1; rw [hr.1, fl i hi] at this; exact this
        obtain ⟨_, hl1, hc1⟩ := World.cells?_some (hff i hi).1
        have := hc1 j hj'
        rw [Go.Deep.add_add, add_eq] at this
        show w.cell? _ = _
        rw [this, List.getD_eq_getElem?_getD, List.getElem?_eq_getElem (by omega)]
        rfl
      · obtain ⟨hi, hr⟩ := el i e he
        have hj' : j < (f i).length := by rw [← hr.1]; exact (List.getElem?_eq_some_iff.1 hj).1
        have := hr.2 j x (f i)[j] hj (List.getElem?_eq_getElem hj')
        simpa [List.getD_eq_getElem?_getD, List.getElem?_eq_getElem hj'] using this
theorem many_at {μ : Mem} {cs : List Value} : ∀ (k off : Nat), (∀ i, i < k → ∃ x, Reps (RepT μ) (F x) ((cs.drop (off + i * n)).take n) ∧ ok x) → cs.length = off + k * n → ∃ xs : List α, xs.length = k ∧ Reps (RepT μ) (xs.map F).flatten (cs.drop off) ∧ ∀ x ∈ xs, ok x
  | 0, off, _, hl => ⟨[], rfl, by rw [List.drop_eq_nil_of_le (by omega)]; exact .nil, by simp⟩
  | k + 1, off, h, hl => by
    obtain ⟨x, h1, h2⟩ := h 0 (by omega)
    obtain ⟨xs, h3, h4, h5⟩ := many_at k (off + n) (fun i hi => by
      have := h (i + 1) (by omega)
      rw [Nat.add_mul, Nat.one_mul, ← Nat.add_assoc, Nat.add_right_comm] at this; exact this) (by rw [hl, Nat.add_mul]; omega)
    refine ⟨x :: xs, by simp [h3], ?_, by simpa using ⟨h2, h5⟩⟩
    have e1 : cs.drop off = (cs.drop off).take n ++ cs.drop (off + n) := by rw [← List.drop_drop, List.take_append_drop]
    rw [e1, List.map_cons, List.flatten_cons]
    rw [Nat.zero_mul, Nat.add_zero] at h1
    exact h1.append h4
theorem Reads.array {k : Nat} (ht : P.underlying t = some (.array k e)) (hC : P.cellsOf e = n) (h : ∀ M, M < N → Reads P M e n F ok) :
    Reads P N t (k * n) (fun l : List α => (l.map F).flatten) (fun l => l.length = k ∧ ∀ x ∈ l, ok x) := fun H enc w sp held fuel cs y hf hy hz hl => by
  obtain ⟨xs, m, hm, hx, _, hxl, hg⟩ := DataW.trod_array ht hy
  rw [hC] at hg
  obtain ⟨ys, h1, h2, h3⟩ := many_at (F := F) (ok := ok) (μ := mu w) (n := n) (cs := cs) k 0 (fun i hi => by
    have h3 := hg i hi
    have h5 : xs[i]? = some xs[i] := List.getElem?_eq_getElem (by omega)
    rw [h5] at h3
    rw [Nat.zero_add]
    have hle : (i + 1) * n ≤ k * n := Nat.mul_le_mul_right _ (by omega)
    rw [Nat.add_mul] at hle
    exact h m (by omega) H enc w sp held m _ _ (Nat.le_refl _) h3 (fun q hq => hz q (by
      rw [hx]
      simp only [DataW.weights, ht]
      exact weights_all (List.mem_map.2 ⟨_, List.getElem_mem (by omega), rfl⟩) q hq)) (by simp; omega)) (by omega)
  exact ⟨ys, by simpa using h2, h1, h3⟩

/-! ### arguments -/
theorem okWide_array {w : World} {r : Reach} {base k : Nat} {v : Value} (ht : P.underlying t = some (.array k e)) (h : Value.okWide P w r base t v) : ∃ cs, v = .agg cs ∧ cs.size = P.cellsOf t := by
  simp only [Value.okWide, ht] at h
  obtain ⟨cs, h1, h2, _⟩ := h
  exact ⟨cs, h1, h2⟩
variable {H : Type} {enc : TypeId × Value → H} {w : World} {r : Reach} {b0 : Nat} {v : Value} {d : DataW H} {p : List MemPlace} {sp : Nat → Bool} {held : Bool} {c : Ctx}
theorem arg_cells {f : α → C} (hr : ∀ N, Reads P N t n F ok) (hn : v.cells.size = n) (h : DataW.Trod enc P w 0 sp held t v d p) (hz : Sz P t d)
    (hf : ∀ x, Reps (RepT (mu w)) (F x) v.cells.toList → RepC (mu w) c.β (f x) v) : ∃ x, RepC (mu w) c.β (f x) v ∧ ok x := by
  obtain ⟨fuel, h⟩ := h
  obtain ⟨x, h1, h2⟩ := hr fuel H enc w sp held fuel _ _ (Nat.le_refl _) h hz (by simpa using hn)
  exact ⟨x, hf x h1, h2⟩
theorem arg1 {f : α → T} {β : Pos} (h1 : v.cells = #[v]) (hr : ∀ N, Reads P N t 1 (fun x => [f x]) ok) (h : DataW.Trod enc P w 0 sp held t v d p) (hz : Sz P t d) : ∃ x, RepC (mu w) β (.a (.t (f x))) v ∧ ok x := by
  obtain ⟨x, h2, h3⟩ := arg_cells (c := ⟨fun _ _ => none, β, fun _ => (0, 0), 0⟩) (f := fun x => .a (.t (f x))) hr (by rw [h1]; rfl) h hz (fun x hx => by
    rw [h1] at hx
    exact .t (hx.2 0 _ _ rfl rfl))
  exact ⟨x, h2, h3⟩
theorem argG {F' : α → List A} {β : Pos} {cs : Array Value} (hv : v = .agg cs) (hsz : cs.size = n) (hr : ∀ N, Reads P N t n F ok) (hF : ∀ x, F' x = (F x).map .t) (h : DataW.Trod enc P w 0 sp held t v d p) (hz : Sz P t d) : ∃ x, RepC (mu w) β (.g (F' x)) v ∧ ok x := by
  subst hv
  obtain ⟨x, h2, h3⟩ := arg_cells (c := ⟨fun _ _ => none, β, fun _ => (0, 0), 0⟩) (f := fun x => .g (F' x)) hr (by simpa [Value.cells] using hsz) h hz (fun x hx => by
    refine ⟨cs, rfl, ?_⟩
    rw [hF]
    have hx : Reps (RepT (mu w)) (F x) cs.toList := hx
    exact reps_t hx)
  exact ⟨x, h2, h3⟩
theorem arg_slice {f : α → T} {β : Pos} (hu : P.underlying t = some (.slice e)) (hv : Value.okWide P w r b0 t v) (hr : ∀ N, Reads P N t 1 (fun x => [f x]) ok) (h : DataW.Trod enc P w 0 sp held t v d p) (hz : Sz P t d) : ∃ x, RepC (mu w) β (.a (.t (f x))) v ∧ ok x := by
  obtain ⟨a, len, cap, rfl⟩ := okWide_slice hu hv
  exact arg1 rfl hr h hz
theorem arg_int {k : IntKind} {f : α → T} {β : Pos} (hu : P.underlying t = some (.int k)) (hv : Value.okWide P w r b0 t v) (hr : ∀ N, Reads P N t 1 (fun x => [f x]) ok) (h : DataW.Trod enc P w 0 sp held t v d p) (hz : Sz P t d) : ∃ x, RepC (mu w) β (.a (.t (f x))) v ∧ ok x := by
  obtain ⟨a, rfl⟩ := okWide_int hu hv
  exact arg1 rfl hr h hz
theorem arg_string {f : α → T} {β : Pos} (hu : P.underlying t = some .string) (hv : Value.okWide P w r b0 t v) (hr : ∀ N, Reads P N t 1 (fun x => [f x]) ok) (h : DataW.Trod enc P w 0 sp held t v d p) (hz : Sz P t d) : ∃ x, RepC (mu w) β (.a (.t (f x))) v ∧ ok x := by
  obtain ⟨a, rfl⟩ := okWide_string hu hv
  exact arg1 rfl hr h hz
theorem arg_bool {f : α → T} {β : Pos} (hu : P.underlying t = some .bool) (hv : Value.okWide P w r b0 t v) (hr : ∀ N, Reads P N t 1 (fun x => [f x]) ok) (h : DataW.Trod enc P w 0 sp held t v d p) (hz : Sz P t d) : ∃ x, RepC (mu w) β (.a (.t (f x))) v ∧ ok x := by
  obtain ⟨a, rfl⟩ := okWide_bool hu hv
  exact arg1 rfl hr h hz
theorem arg_array {F' : α → List A} {β : Pos} {k : Nat} (hu : P.underlying t = some (.array k e)) (hc : P.cellsOf t = n) (hv : Value.okWide P w r b0 t v) (hr : ∀ N, Reads P N t n F ok) (hF : ∀ x, F' x = (F x).map .t) (h : DataW.Trod enc P w 0 sp held t v d p) (hz : Sz P t d) : ∃ x, RepC (mu w) β (.g (F' x)) v ∧ ok x := by
  obtain ⟨cs, rfl, h1⟩ := okWide_array hu hv
  exact argG rfl (by rw [h1, hc]) hr hF h hz
theorem arg_struct {F' : α → List A} {β : Pos} {fs : Array Field} (hu : P.underlying t = some (.struct fs)) (hc : P.cellsOf t = n) (hv : Value.okWide P w r b0 t v) (hr : ∀ N, Reads P N t n F ok) (hF : ∀ x, F' x = (F x).map .t) (h : DataW.Trod enc P w 0 sp held t v d p) (hz : Sz P t d) : ∃ x, RepC (mu w) β (.g (F' x)) v ∧ ok x := by
  obtain ⟨cs, rfl, h1⟩ := okWide_struct hu hv
  exact argG rfl (by rw [h1, hc]) hr hF h hz
end
/-- the last step: nothing that was there has turned -/
theorem Spec.row {P : Program} {f : FuncId} {args : List C} {w : World} {vs : Array Value} {u : Value} (h : Spec P f args (fun _ => none) fun x _ => x = tv u) (hr : Reps (RepC (mu w) (fun _ => none)) args vs.toList) :
    Calls P f vs w fun e w' => e = .returned u ∧ Below w.heap.size w w' := by
  have hc : Conc ⟨mu w, fun _ => none, fun _ => (0, 0), 0⟩ (ownH fun _ => none) w := ⟨fun b o u h => h, fun i x hi => (by cases i <;> cases hi), fun i j x y b n m hi => (by cases i <;> cases hi), ⟨0, fun k _ => ⟨rfl, rfl⟩⟩⟩
  refine (h _ w vs hc hr).mono ?_
  rintro e w' ⟨v, x, H', c', rfl, rfl, hx, _, hE⟩
  have := rep_tv hx
  subst this
  exact ⟨rfl, hE.os, hE.tape, hE.output, hE.size, fun b hb => hE.blk b hb fun i x n hi => (by cases i <;> cases hi)⟩
end Go.Proofs.Ytojkjiakkcgfcaa.E
